/- Short forms of the rules, for texts of many steps. -/
import Derived.Test.YtbjllamkfmejlaaGreatG10
namespace Go.E
open Go Go.RowKit
set_option linter.unusedVariables false
abbrev I (n:Int):Value:=.int .i64 n
abbrev Bo (b:Bool):Value:=.bool b
abbrev Pt (g:Nat):Value:=.pointer (some ⟨g,0,none⟩)
abbrev Pq (g o:Nat):Value:=.pointer (some ⟨g,o,none⟩)
abbrev S0:Value:=.slice none 0 0
abbrev Sl (g n m:Nat):Value:=.slice (some ⟨g,0,none⟩) n m
abbrev oF {α:Type} (t:Nat) (r:RP α) (v:Value) (xs:List α):Ass:=own (OR.bq t (OR.bu r)) [v] xs
abbrev oS {α:Type} (t:Nat) (R:OR α) (v:Value) (xs:List α):Ass:=own (OR.bq t R) [v] xs
abbrev rS {α:Type} (t:Nat) (r:RP α):RP (List α):=RP.slice t r
theorem ca (p:Fr→World→Prop):∃ R,R=p:=⟨_,rfl⟩
theorem ff (p:Nat→Fr→World→Prop):∃ R,R=p:=⟨_,rfl⟩
theorem rj {R p:Fr→World→Prop} {f:Fr} {w:World} (h:R=p) (hp:p f w):R f w:=by rw [h]; exact hp
theorem rk {R p:Fr→World→Prop} {f:Fr} {w:World} (h:R=p) (hp:R f w):p f w:=by rw [h] at hp; exact hp
theorem ij {R p:Nat→Fr→World→Prop} {n:Nat} {f:Fr} {w:World} (h:R=p) (hp:p n f w):R n f w:=by rw [h]; exact hp
theorem ik {R p:Nat→Fr→World→Prop} {n:Nat} {f:Fr} {w:World} (h:R=p) (hp:R n f w):p n f w:=by rw [h] at hp; exact hp
theorem cc {A:Ass} {As:List Ass} (h:A.closed) (k:∀B ∈ As,Ass.closed B):∀B ∈ A :: As,Ass.closed B:=pd h k
theorem cb {g:Nat} {t:TypeId} {cs:Array Value} {As:List Ass} (k:∀B ∈ As,Ass.closed B):∀B ∈ box g t cs :: As,Ass.closed B:=pd (z8 _ _ _) k
theorem c0:∀A ∈ ([]:List Ass),A.closed:=yu
theorem co {α:Type} {R:OR α} {e:TypeId} {cs:List Value} {x:List α} {As:List Ass} (h:R.closed) (k:∀B ∈ As,Ass.closed B):∀B ∈ own (OR.bq e R) cs x :: As,Ass.closed B:=pd (rO (OR.fT h) _ _) k
section star
variable {H:FH} {w:World} {As Bs:List Ass}
def aU:List Nat→List Ass→Option (List Ass)
 | [],As=>some As
 | i :: is,As=>match pick i As with
  | some (A,Bs)=>aU is (A :: Bs)
  | none=>none
theorem ab.aU:∀(is:List Nat) {As:List Ass} (h:ab H w As) (e:Go.E.aU is As=some Bs),ab H w Bs
 | [],As,h,e=>by cases e; exact h
 | i :: is,As,h,e=>by
  unfold Go.E.aU at e
  split at e
  ·rename_i A Cs hp; exact ab.aU is (h.get i hp) e
  ·cases e
theorem ko {e:TypeId} {g:Nat} {cs:Array Value} {As:List Ass} (xs:List Int) (n:Nat) (h:ab H w (box g e cs :: As)) (hc:cs.toList=xs.map I) (hn:xs.length=n) (hm:n≤maxLen):ab H w (oF e RP.int (Sl g n n) xs :: As):=by
 have key:∀(ys:List Int) {Cs:List Ass},ab H w Cs→ab H w (DU (OR.bu RP.int) (ys.map fun y=>([I y],y))++Cs):=by
  intro ys
  induction ys with
  | nil=>intro Cs h; exact h
  | cons y ys ih=>intro Cs h; exact ab.dr (r:=RP.int) (cs:=[I y]) (x:=y) (ih h) rfl
 refine ab.bS (R:=OR.bu RP.int) (xs.map fun y=>([I y],y)) xs n (key xs h) ?_ ?_ hn hm
 ·rw [hc]
  clear hc hn h key
  induction xs with
  | nil=>rfl
  | cons x xs ih=>simpa using ih
 ·simp [Function.comp_def]
end star
def Gg:Value→Bool
 | .bool _=>true
 | _=>false
section rules
variable {P:Program} {N:Nat} {Q:lY} {f:Fr} {w:World} {ops:Array Oper} {rest:List Oper} {d:Nat} {ty:TypeId} {pos:String} {af:Array Edge} {gd:Option (Nat × Bool)}
theorem sq {id:Nat} {l:List Oper} {y:Code} (h:L P N l.toArray l (A2 P N y Q) f w):W P N (.seq (.region id l.toArray false) y) Q f w:=ao (ae h)
theorem ns {id:Nat} {l:List Oper} {y:Code} (h:L P N l.toArray l (A2 P N y Q) f w):L P N ops [] (A2 P N (.seq (.region id l.toArray false) y) Q) f w:=ax (ao (ae h))
theorem nq {x y:Code} (h:W P N x (A2 P N y Q) f w):L P N ops [] (A2 P N (.seq x y) Q) f w:=ax (ao h)
theorem nn (h:Q .normal f w):L P N ops [] Q f w:=ax h
variable {x y:Operand} {v:Value}
theorem mI {n:Int} (e:(jH ops f N d gd,ev f x)=(true,I n)) (h:L P N ops rest Q (fV f d (I n)) w):L P N ops (⟨some d,.move x,ty,pos,af,gd⟩ :: rest) Q f w:=iV (congrArg Prod.fst e) (congrArg Prod.snd e) h
theorem mB {n:Bool} (e:(jH ops f N d gd,ev f x)=(true,Bo n)) (h:L P N ops rest Q (fV f d (Bo n)) w):L P N ops (⟨some d,.move x,ty,pos,af,gd⟩ :: rest) Q f w:=iV (congrArg Prod.fst e) (congrArg Prod.snd e) h
theorem mV (v:Value) (e:(jH ops f N d gd,ev f x)=(true,v)) (h:L P N ops rest Q (fV f d v) w):L P N ops (⟨some d,.move x,ty,pos,af,gd⟩ :: rest) Q f w:=iV (congrArg Prod.fst e) (congrArg Prod.snd e) h
theorem mF (hx:ev f x=v) (e:jH ops f N d gd=true) (h:L P N ops rest Q (fV f d v) w):L P N ops (⟨some d,.move x,ty,pos,af,gd⟩ :: rest) Q f w:=iV e hx h
theorem aI {n:Int} (e:(jH ops f N d gd,ev f x)=(true,I n)) (h:L P N ops rest Q (fV f d (I n)) w):L P N ops (⟨some d,.assign x,ty,pos,af,gd⟩ :: rest) Q f w:=DG (congrArg Prod.fst e) (congrArg Prod.snd e) h
theorem aB {n:Bool} (e:(jH ops f N d gd,ev f x)=(true,Bo n)) (h:L P N ops rest Q (fV f d (Bo n)) w):L P N ops (⟨some d,.assign x,ty,pos,af,gd⟩ :: rest) Q f w:=DG (congrArg Prod.fst e) (congrArg Prod.snd e) h
theorem aV (v:Value) (e:(jH ops f N d gd,ev f x)=(true,v)) (h:L P N ops rest Q (fV f d v) w):L P N ops (⟨some d,.assign x,ty,pos,af,gd⟩ :: rest) Q f w:=DG (congrArg Prod.fst e) (congrArg Prod.snd e) h
theorem aF (hx:ev f x=v) (e:jH ops f N d gd=true) (h:L P N ops rest Q (fV f d v) w):L P N ops (⟨some d,.assign x,ty,pos,af,gd⟩ :: rest) Q f w:=DG e hx h
theorem bw {H:FH} {As Bs:List Ass} {cs:Array Value} {t tb:TypeId} {g o:Nat} (i:Nat) (hst:ab H w As) (hag:∀w,(isAgg t).run P w=.ok false w) (hx:ev f x=Pq g o) (hp:(jH ops f N d gd,pick i As)=(true,some (box g tb cs,Bs))) (hc:cs[o]?=some v)
  (h:L P N ops rest Q (fV f d v) w):L P N ops (⟨some d,.load t x,ty,pos,af,gd⟩ :: rest) Q f w:=
 bt (congrArg Prod.fst hp) hag hx ((ab.aM i hst (congrArg Prod.snd hp)).cell hc) h
theorem fA {t:TypeId} {j off g o:Nat} (o':Nat) (hf:FA P t j off) (hx:ev f x=Pq g o) (e:(jH ops f N d gd,o+off)=(true,o'))
  (h:L P N ops rest Q (fV f d (Pq g o')) w):L P N ops (⟨some d,.fieldAddr t x j,ty,pos,af,gd⟩ :: rest) Q f w:=sA (congrArg Prod.fst e) hf hx (congrArg Prod.snd e) h
theorem ps {op:Op} (hk:(!Ag ops f gd && Nat.blt d N)=true) (h:L P N ops rest Q (fV f d undef) w):L P N ops (⟨some d,op,ty,pos,af,gd⟩ :: rest) Q f w:=CU hk h
theorem gN {d j dj:Nat} {want b e:Bool} (hf:f dj=.bool e) (he:e=b) (hj:((ops[j]?).bind (·.dst),b == want,Nat.blt d N)=(some dj,false,true)):(!Ag ops f (some (j,want)) && Nat.blt d N)=true:=
 rn (congrArg Prod.fst hj) (hf.trans (congrArg Value.bool he)) (congrArg (·.2.1) hj) (congrArg (·.2.2) hj)
variable {l:List Oper} {pp:List PF} {D:List Nat} {H0:FH} {f0:Fr} {base:List Ass} {E:List Ent} {k:Nat} {ios:List (List Nat × List Nat)} {op:Op}
theorem nO {o:Oper} {H:FH} {p:PF} {St:FH→World→Fr→Prop} {d:Nat} {v:Value} (ho:o.dst=some d) (hp:p v H) (h:St H w (fV f d v)):L P N ops [] (Gc o f H p St) (fV f d v) w:=
 ax ⟨rfl,v,H,by rw [ho]; rfl,Le.refl _,fun d' hd=>hp,h⟩
theorem oP (hg:∀f H,EP l pp ⟨some d,op,ty,pos,af,gd⟩ f H→(!Ag l.toArray f gd && Nat.blt d N)=true) (hp:∀H,pp.getD k gE undef H)
  (r:xt P N l pp D H0 f0 base E (k+1) rest ios):xt P N l pp D H0 f0 base E k (⟨some d,op,ty,pos,af,gd⟩ :: rest) (([],[]) :: ios):=
 aa (fun f w H X hS hE hP hst=>CU (hg f H hP) (ax ⟨rfl,undef,H,rfl,Le.refl _,fun d' hd=>hp H,hst⟩)) r
theorem BU {c:Operand} {b e:Bool} (hc:ev f c=.bool e) (he:e=b) (hk:jH ops f N d gd=true) (hv:(if b then ev f x else ev f y)=v) (h:L P N ops rest Q (fV f d v) w) :
  L P N ops (⟨some d,.pick c x y,ty,pos,af,gd⟩ :: rest) Q f w:=aC hk (hc.trans (congrArg Value.bool he)) hv h
def Er (f:Fr) (c x y:Operand):Value:=match ev f c with
 | .bool true=>ev f x
 | .bool false=>ev f y
 | _=>undef
theorem dU {c:Operand} {a b:Bool} (hb:some a=some b) (e:(jH ops f N d gd,Gg (ev f c),Er f c x y)=(true,true,.bool a)) (h:L P N ops rest Q (fV f d (.bool b)) w) :
  L P N ops (⟨some d,.pick c x y,ty,pos,af,gd⟩ :: rest) Q f w:=by
 obtain rfl:=so hb
 have e1:=congrArg (fun z=>z.2.1) e
 have e2:=congrArg (fun z=>z.2.2) e
 have hk:=congrArg (fun z=>z.1) e
 simp only at e1 e2 hk
 unfold Er at e2
 cases hc:ev f c with
 | bool z=>rw [hc] at e2; exact aC hk hc (by cases z <;> exact e2) h
 | _=>rw [hc] at e1; cases e1
theorem cB {v:Value} {a b:Bool} (h:v=.bool a) (k:a=b):v=.bool b:=h.trans (congrArg Value.bool k)
theorem eI {a b:Int} (k:a=b):Value.int .i64 a=.int .i64 b:=congrArg (Value.int .i64) k
def FP:Option Value→PF
 | some v=>aZ v
 | none=>gE
theorem F9:∀vs:List (Option Value),p9 (vs.map FP)
 | []=>bV
 | some v :: vs=>ad (ah v) (F9 vs)
 | none :: vs=>ad bO (F9 vs)
theorem cv {H0:FH} {f0:Fr} {w0:World} {id:Nat} {l:List Oper} (m:Nat) (vs:List (Option Value)) (base:List Ass) (E:List Ent) (R:List Ass) (IO:List (List Nat × List Nat)) (hmix:P.follows .mixedOrders=true) (hok:sJ N l m=true) {S:List (Option Nat × List Nat × Option Nat)} (hshape:E.map Ent.shape=S) (hents0:AS l m S IO=true)
  (hst:ab H0 w0 (base++((AX E).map (tH E f0)++R))) (hops:xt P N l (vs.map FP) (vY (l.take m)) H0 f0 base E 0 (l.take m) IO)
  (htail:∀f w H,BC (vY (l.take m)) f0 f→Le H0 H→CF l (vs.map FP) m f H→ab H w (base++((Ed E).map (tH E f)++R))→L P N l.toArray (l.drop m) Q f w):W P N (.region id l.toArray true) Q f0 w0:=
 bT m (vs.map FP) base E R IO hmix hok hshape hents0 (F9 vs) hst hops htail
end rules
end Go.E
