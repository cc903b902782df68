/- The program's data as Lean structures, and how each lies in cells; rows whose elements own rows. -/
import Derived.Test.YtbjllamkfmejlaaGreatG7
namespace Go.E
open Go Go.RowKit
set_option linter.unusedVariables false
set_option linter.unusedSimpArgs false
structure Term where
 coef:Int
 lit:Int
 deriving DecidableEq
structure Con where
 terms:List Term
 bound:Int
 deriving DecidableEq
structure Rule where
 kind:Int
 vars:List Int
 coefs:List Int
 bound:Int
 rows:List (List Int)
 deriving DecidableEq
structure Model where
 sizes:List Int
 rules:List Rule
 deriving DecidableEq
structure Step where
 kind:Int
 a:Int
 b:Int
 given:Con
 deriving DecidableEq
structure Db where
 list:List Con
 gone:List Bool
structure Sst where
 list:List Con
 steps:List Step
 fuel:Int
structure Srch where
 list:List Con
 fuel:Int
 steps:List Step
 much:Bool
structure Rd where
 b:List UInt8
 p:Int
def th (r:Rule):Prop:=hL r.vars∧hL r.coefs∧zO r.rows
def CA (xs:List Rule):Prop:=xs.length≤1000∧∀x ∈ xs,th x
def fD (m:Model):Prop:=hL m.sizes∧CA m.rules
theorem y8 {α β:Type} {a:RP α} {b:RP β} (ha:a.n=1) {H:FH} {cs:List Value} {p:α × β} :
  (RP.pair a b).rel H cs p ↔ ∃ v c2,cs=v :: c2∧a.rel H [v] p.1∧b.rel H c2 p.2:=by
 constructor
 ·rintro ⟨c1,c2,rfl,h1,h2⟩
  have hl:=a.len h1
  rw [ha] at hl
  match c1,hl with
  | [v],_=>exact ⟨v,c2,rfl,h1,h2⟩
 ·rintro ⟨v,c2,rfl,h1,h2⟩
  exact ⟨[v],c2,rfl,h1,h2⟩
theorem lg {H:FH} {cs:List Value} {x:Int}:RP.int.rel H cs x ↔ cs=[.int .i64 x]:=Iff.rfl
def au:RP Term:=RP.map (fun t=>(t.coef,t.lit)) (RP.pair RP.int RP.int)
def ba (tT:Nat):RP Con:=RP.map (fun c=>(c.terms,c.bound)) (RP.pair (RP.slice tT au) RP.int)
def cY (ti tis:Nat):RP Rule:=RP.map (fun r=>(r.kind,r.vars,r.coefs,r.bound,r.rows))
 (RP.pair RP.int (RP.pair (RP.slice ti RP.int) (RP.pair (RP.slice ti RP.int) (RP.pair RP.int (RP.slice tis (RP.slice ti RP.int))))))
def wo (tT:Nat):RP Step:=RP.map (fun s=>(s.kind,s.a,s.b,s.given)) (RP.pair RP.int (RP.pair RP.int (RP.pair RP.int (ba tT))))
section
variable {tT ti tis tr tC tB tS:Nat} {H:FH} {cs:List Value}
theorem bM {t:Term}:au.rel H cs t ↔ cs=[.int .i64 t.coef,.int .i64 t.lit]:=by
 show (RP.pair RP.int RP.int).rel H cs (t.coef,t.lit) ↔ _
 rw [y8 rfl]
 constructor
 ·rintro ⟨v,c2,rfl,h1,h2⟩; rw [lg] at h1 h2; simp at h1; simp [h1,h2]
 ·rintro rfl; exact ⟨_,_,rfl,rfl,rfl⟩
theorem dR {c:Con}:(ba tT).rel H cs c ↔ ∃ v,cs=[v,.int .i64 c.bound]∧(RP.slice tT au).rel H [v] c.terms:=by
 show (RP.pair (RP.slice tT au) RP.int).rel H cs (c.terms,c.bound) ↔ _
 rw [y8 rfl]
 constructor
 ·rintro ⟨v,c2,rfl,h1,h2⟩; rw [lg] at h2; exact ⟨v,by simp [h2],h1⟩
 ·rintro ⟨v,rfl,h1⟩; exact ⟨v,_,rfl,h1,rfl⟩
theorem iL {r:Rule}:(cY ti tis).rel H cs r ↔ ∃ v1 v2 v3,cs=[.int .i64 r.kind,v1,v2,.int .i64 r.bound,v3]∧(RP.slice ti RP.int).rel H [v1] r.vars ∧
  (RP.slice ti RP.int).rel H [v2] r.coefs∧(RP.slice tis (RP.slice ti RP.int)).rel H [v3] r.rows:=by
 show (RP.pair RP.int (RP.pair (RP.slice ti RP.int) (RP.pair (RP.slice ti RP.int) (RP.pair RP.int (RP.slice tis (RP.slice ti RP.int)))))).rel H cs (r.kind,r.vars,r.coefs,r.bound,r.rows) ↔ _
 simp only [y8 (a:=RP.int) rfl,y8 (a:=RP.slice ti RP.int) rfl]
 constructor
 ·rintro ⟨v,c2,rfl,h1,v1,c3,rfl,h2,v2,c4,rfl,h3,v3,c5,rfl,h4,h5⟩
  rw [lg] at h1 h4
  simp at h1 h4
  obtain ⟨u,rfl,h6⟩:=kP h5
  exact ⟨v1,v2,u,by simp [h1,h4],h2,h3,h6⟩
 ·rintro ⟨v1,v2,v3,rfl,h1,h2,h3⟩
  exact ⟨_,_,rfl,rfl,_,_,rfl,h1,_,_,rfl,h2,_,_,rfl,rfl,h3⟩
theorem BT {s:Step}:(wo tT).rel H cs s ↔ ∃ v,cs=[.int .i64 s.kind,.int .i64 s.a,.int .i64 s.b,v,.int .i64 s.given.bound]∧(RP.slice tT au).rel H [v] s.given.terms:=by
 show (RP.pair RP.int (RP.pair RP.int (RP.pair RP.int (ba tT)))).rel H cs (s.kind,s.a,s.b,s.given) ↔ _
 simp only [y8 (a:=RP.int) rfl,dR]
 constructor
 ·rintro ⟨v,c2,rfl,h1,v1,c3,rfl,h2,v2,c4,rfl,h3,u,rfl,h4⟩
  rw [lg] at h1 h2 h3
  simp at h1 h2 h3
  exact ⟨u,by simp [h1,h2,h3],h4⟩
 ·rintro ⟨v,rfl,h⟩; exact ⟨_,_,rfl,rfl,_,_,rfl,rfl,_,_,rfl,rfl,v,rfl,h⟩
end
theorem BM {P : Program} {t : TypeId} {fs : Array Field} {f1 f2 : Field} (hu : P.underlying t = some (.struct fs)) (hfs : fs.toList = [f1, f2]) (hn1 : f1.name ≠ "_") (hn2 : f2.name ≠ "_") (ho1 : f1.offset = 0) (ho2 : f2.offset = 1)
  (h1:P.underlying f1.type=some (.int .i64)) (h2:P.underlying f2.type=some (.int .i64)) (hp:P.stoodInHeld t=false) (d:Nat) (x1 x2 y1 y2:Int) (w:World) :
  (Op.equalIn (d+2) t (.agg #[.int .i64 x1,.int .i64 x2]) (.agg #[.int .i64 y1,.int .i64 y2])).run P w=.ok (x1 == y1 && x2 == y2) w:=by
 have hf:P.fieldsOf t=fs:=by simp [Program.fieldsOf,hu]
 rw [run_equalIn_agg w (d+1) t _ _ (by rw [hu,hf]) hp,hf,hfs]
 have ha1:(isAgg f1.type).run P w=.ok false w:=by simp [isAgg,run_underlying h1]
 have ha2:(isAgg f2.type).run P w=.ok false w:=by simp [isAgg,run_underlying h2]
 have p1:∀a b:Value,(part f1.type #[a,b] f1.offset).run P w=.ok a w:=by intro a b; simp [part,ha1,ho1]
 have p2:∀a b:Value,(part f2.type #[a,b] f2.offset).run P w=.ok b w:=by intro a b; simp [part,ha2,ho2]
 simp only [Op.eqFields,hn1,hn2,if_true,Sem.run_bind,p1,Result.andThen_ok,run_equalIn_int _ _ _ _ _ _ _ h1,ne_eq,not_false_eq_true]
 by_cases e1:x1=y1 <;> by_cases e2:x2=y2 <;> simp [e1,e2,p2,run_equalIn_int _ _ _ _ _ _ _ h2]
structure TermEq (P:Program) (t:TypeId):Prop where
 guard:P.eqGuardType P.depth t=false
 eq:∀(x1 x2 y1 y2:Int) (w:World),(Op.equal t (.agg #[.int .i64 x1,.int .i64 x2]) (.agg #[.int .i64 y1,.int .i64 y2])).run P w=.ok (x1 == y1 && x2 == y2) w
theorem Bj {P : Program} {t : TypeId} {fs : Array Field} {f1 f2 : Field} (hg : P.eqGuardType P.depth t = false) (hu : P.underlying t = some (.struct fs)) (hfs : fs.toList = [f1, f2]) (hn1 : f1.name ≠ "_") (hn2 : f2.name ≠ "_") (ho1 : f1.offset = 0) (ho2 : f2.offset = 1)
  (h1:P.underlying f1.type=some (.int .i64)) (h2:P.underlying f2.type=some (.int .i64)) (hp:P.stoodInHeld t=false):TermEq P t:=
 ⟨hg,fun x1 x2 y1 y2 w=>BM hu hfs hn1 hn2 ho1 ho2 h1 h2 hp 9998 x1 x2 y1 y2 w⟩
theorem Ci (x1 x2 y1 y2:Int):(x1 == y1 && x2 == y2)=((⟨x1,x2⟩:Term) == ⟨y1,y2⟩):=by
 rw [Bool.eq_iff_iff]
 simp
section rules
variable {P:Program} {N:Nat} {Q:lY} {f:Fr} {w:World} {ops:Array Oper} {rest:List Oper} {d:Nat} {ty:TypeId} {pos:String} {af:Array Edge} {gd:Option (Nat × Bool)}
variable {x y:Operand} {t u:TypeId} {b c:Bool} {x1 x2 y1 y2:Int}
theorem EM (hk:jH ops f N d gd=true) (hu:P.underlying t=some .bool) (hx:ev f x=.bool b) (hy:ev f y=.bool c) (h:L P N ops rest Q (fV f d (.bool (b == c))) w) :
  L P N ops (⟨some d,.binOp .eql t x y u,ty,pos,af,gd⟩ :: rest) Q f w:=
 cx hk (by simp [execOp,hx,hy,eqGuard,binOp,run_equal_bool,hu]) h
theorem EF (hk:jH ops f N d gd=true) (hu:P.underlying t=some .bool) (hx:ev f x=.bool b) (hy:ev f y=.bool c) (h:L P N ops rest Q (fV f d (.bool (b != c))) w) :
  L P N ops (⟨some d,.binOp .neq t x y u,ty,pos,af,gd⟩ :: rest) Q f w:=
 cx hk (by simp [execOp,hx,hy,eqGuard,binOp,run_equal_bool,hu,bne]) h
theorem E4 (hk:jH ops f N d gd=true) (hu:TermEq P t) (hx:ev f x=.agg #[.int .i64 x1,.int .i64 x2]) (hy:ev f y=.agg #[.int .i64 y1,.int .i64 y2])
  (h:L P N ops rest Q (fV f d (.bool (!((⟨x1,x2⟩:Term) == ⟨y1,y2⟩)))) w) :
  L P N ops (⟨some d,.binOp .neq t x y u,ty,pos,af,gd⟩ :: rest) Q f w:=
 cx hk (by rw [← Ci]; simp [execOp,hx,hy,eqGuard,binOp,hu.eq,hu.guard]) h
end rules
theorem Bp:au.flat:=RP.CB (RP.A6 RP.uS RP.uS)
def cP (tT:Nat):OR Con:=OR.map (fun c=>(c.terms,c.bound)) (OR.pair (OR.bq tT (OR.bu au)) (OR.bu RP.int))
def cF (ti tis:Nat):OR Rule:=OR.map (fun r=>(r.kind,r.vars,r.coefs,r.bound,r.rows))
 (OR.pair (OR.bu RP.int) (OR.pair (OR.bq ti (OR.bu RP.int)) (OR.pair (OR.bq ti (OR.bu RP.int)) (OR.pair (OR.bu RP.int) (OR.bq tis (OR.bq ti (OR.bu RP.int)))))))
def eG (tT:Nat):OR Step:=OR.map (fun s=>(s.kind,s.a,s.b,s.given)) (OR.pair (OR.bu RP.int) (OR.pair (OR.bu RP.int) (OR.pair (OR.bu RP.int) (cP tT))))
theorem bk:(OR.bu RP.int).closed:=OR.rF RP.uS
theorem lP:(OR.bu RP.bool).closed:=OR.rF RP.A3
theorem bI:(OR.bu au).closed:=OR.rF Bp
theorem ed {tT:Nat}:(cP tT).closed:=OR.rQ (OR.ix (OR.fT bI) bk)
theorem sh {ti tis:Nat}:(cF ti tis).closed:=OR.rQ (OR.ix bk (OR.ix (OR.fT bk) (OR.ix (OR.fT bk) (OR.ix bk (OR.fT (OR.fT bk))))))
theorem mh {tT:Nat}:(eG tT).closed:=OR.rQ (OR.ix bk (OR.ix bk (OR.ix bk ed)))
section
variable {H:FH} {w:World} {As:List Ass} {α β:Type}
theorem ab.xK {a:OR α} {b:OR β} {cs:List Value} {p:α × β} (h:ab H w (own (OR.pair a b) cs p :: As)):∃ c1 c2,cs=c1++c2∧ab H w (own a c1 p.1 :: own b c2 p.2 :: As):=by
 obtain ⟨hs,F,⟨F1,F2,rfl,⟨G1,G2,c1,c2,rfl,rfl,h1,h2⟩,h3⟩,hn,hm⟩:=h
 exact ⟨c1,c2,rfl,hs,(G1++G2)++F2,⟨G1,G2++F2,by simp,h1,G2,F2,rfl,h2,h3⟩,hn,hm⟩
theorem ab.pair {a:OR α} {b:OR β} {c1 c2:List Value} {p:α × β} (h:ab H w (own a c1 p.1 :: own b c2 p.2 :: As)):ab H w (own (OR.pair a b) (c1++c2) p :: As):=by
 obtain ⟨hs,F,⟨G1,F2,rfl,h1,G2,F3,rfl,h2,h3⟩,hn,hm⟩:=h
 exact ⟨hs,G1++(G2++F3),⟨G1++G2,F3,by simp,⟨G1,G2,c1,c2,rfl,rfl,h1,h2⟩,h3⟩,hn,hm⟩
theorem ab.Ge {r:RP α} {cs:List Value} {x:α} (h:ab H w (own (OR.bu r) cs x :: As)):r.rel H cs x:=by
 obtain ⟨F,hF⟩:=h.one
 exact hF.2
theorem E5 {R:OR α} {cs:List Value} {x:α} (hn:R.r.n=1) (h:ab H w (own R cs x :: As)):∃ v,cs=[v]:=by
 obtain ⟨F,hF⟩:=h.one
 have hl:=R.len hF
 rw [hn] at hl
 match cs,hl with
 | [v],_=>exact ⟨v,rfl⟩
theorem gr {tT:Nat} {v:Value} {c:Con} (h:ab H w (own (OR.bq tT (OR.bu au)) [v] c.terms :: As)):ab H w (own (cP tT) [v,.int .i64 c.bound] c :: As):=by
 have h2:ab H w (own (OR.bu RP.int) [.int .i64 c.bound] c.bound :: own (OR.bq tT (OR.bu au)) [v] c.terms :: As):=h.dr rfl
 exact ab.pair (c1:=[v]) (c2:=[.int .i64 c.bound]) (p:=(c.terms,c.bound)) (h2.get 1 rfl)
theorem Aj {ti tis:Nat} {cs:List Value} {r:Rule} (h:ab H w (own (cF ti tis) cs r :: As)):∃ v1 v2 v3,cs=[.int .i64 r.kind,v1,v2,.int .i64 r.bound,v3] ∧
  ab H w (own (OR.bq ti (OR.bu RP.int)) [v1] r.vars :: own (OR.bq ti (OR.bu RP.int)) [v2] r.coefs :: own (OR.bq tis (OR.bq ti (OR.bu RP.int))) [v3] r.rows :: As):=by
 obtain ⟨c1,c2,rfl,k1⟩:=ab.xK (p:=(r.kind,r.vars,r.coefs,r.bound,r.rows)) h
 clear h
 obtain rfl:=lg.1 k1.Ge
 obtain ⟨c3,c4,rfl,k2⟩:=ab.xK (k1.tail)
 clear k1
 obtain ⟨v1,rfl⟩:=E5 rfl k2
 obtain ⟨c5,c6,rfl,k3⟩:=ab.xK (k2.get 1 rfl)
 clear k2
 obtain ⟨v2,rfl⟩:=E5 rfl k3
 obtain ⟨c7,c8,rfl,k4⟩:=ab.xK (k3.get 1 rfl)
 clear k3
 obtain rfl:=lg.1 k4.Ge
 have k5:=k4.tail
 clear k4
 obtain ⟨v3,rfl⟩:=E5 rfl k5
 exact ⟨v1,v2,v3,rfl,((k5.get 1 rfl).get 2 rfl)⟩
theorem qj {ti tis:Nat} {v1 v2 v3:Value} {r:Rule}
  (h:ab H w (own (OR.bq ti (OR.bu RP.int)) [v1] r.vars :: own (OR.bq ti (OR.bu RP.int)) [v2] r.coefs :: own (OR.bq tis (OR.bq ti (OR.bu RP.int))) [v3] r.rows :: As)) :
  ab H w (own (cF ti tis) [.int .i64 r.kind,v1,v2,.int .i64 r.bound,v3] r :: As):=by
 have h1:=(h.get 2 rfl).dr (r:=RP.int) (cs:=[.int .i64 r.bound]) (x:=r.bound) rfl
 have h2:=ab.pair (c1:=[.int .i64 r.bound]) (c2:=[v3]) (p:=(r.bound,r.rows)) h1
 have h3:=ab.pair (c1:=[v2]) (c2:=[.int .i64 r.bound]++[v3]) (p:=(r.coefs,r.bound,r.rows)) (h2.get 2 rfl)
 have h4:=ab.pair (c1:=[v1]) (c2:=[v2]++([.int .i64 r.bound]++[v3])) (p:=(r.vars,r.coefs,r.bound,r.rows)) (h3.get 1 rfl)
 have h5:=h4.dr (r:=RP.int) (cs:=[.int .i64 r.kind]) (x:=r.kind) rfl
 exact ab.pair (c1:=[.int .i64 r.kind]) (p:=(r.kind,r.vars,r.coefs,r.bound,r.rows)) h5
theorem y6 {tT:Nat} {v:Value} {s:Step} (h:ab H w (own (OR.bq tT (OR.bu au)) [v] s.given.terms :: As)):ab H w (own (eG tT) [.int .i64 s.kind,.int .i64 s.a,.int .i64 s.b,v,.int .i64 s.given.bound] s :: As):=by
 have h1:=(gr h).dr (r:=RP.int) (cs:=[.int .i64 s.b]) (x:=s.b) rfl
 have h2:=(ab.pair (p:=(s.b,s.given)) h1).dr (r:=RP.int) (cs:=[.int .i64 s.a]) (x:=s.a) rfl
 have h3:=(ab.pair (p:=(s.a,s.b,s.given)) h2).dr (r:=RP.int) (cs:=[.int .i64 s.kind]) (x:=s.kind) rfl
 exact ab.pair (p:=(s.kind,s.a,s.b,s.given)) h3
theorem ab.shallow {R:OR α} {e:TypeId} {v:Value} {xs:List α} (h:ab H w (own (OR.bq e R) [v] xs :: As)):∃ H',Le H H'∧ab H' w (own (OR.bq e (OR.bu R.r)) [v] xs :: As):=by
 obtain ⟨hs,F,⟨F1,F2,rfl,h1,h2⟩,hn,hm⟩:=h
 rcases h1 with ⟨hv,rfl,rfl⟩ | ⟨g,cap,c,Fs,hv,hb,g1,g2,g3,rfl,he1,he2⟩
 ·exact ⟨H,Le.refl _,hs,[]++F2,⟨[],F2,rfl,.inl ⟨hv,rfl,rfl⟩,h2⟩,hn,hm⟩
 obtain ⟨hn1,hn2,hn3⟩:=List.nodup_append.1 hn
 obtain ⟨hg,hnF⟩:=List.nodup_cons.1 hn1
 have hmF:∀b ∈ List.flatten Fs,H.m b=none:=fun b hb=>hm b (List.mem_append_left _ (List.mem_cons_of_mem _ hb))
 have hle:Le H (H.add w (List.flatten Fs)):=zF hmF
 have hnil:∀n:Nat,List.flatten (List.replicate n ([]:List Nat))=[]:=fun n=>by simp
 refine ⟨H.add w (List.flatten Fs),hle,xl hs,(g :: List.flatten (List.replicate xs.length []))++F2,⟨_,F2,rfl,.inr ⟨g,cap,c,List.replicate xs.length [],hv,hb,g1,g2,g3,rfl,by simp,fun i x G hi hG=>?_⟩,cZ.mono h2 hle⟩,?_,?_⟩
 ·rw [List.getElem?_replicate] at hG
  split at hG
  ·injection hG with hG
   subst hG
   obtain ⟨G,cs',hG,hr,hj⟩:=OR.EV.get ⟨he1,he2⟩ hi
   refine ⟨cs',⟨rfl,R.fz hr hle fun b hb=>?_⟩,hj⟩
   have:b ∈ List.flatten Fs:=List.mem_flatten.2 ⟨G,List.mem_of_getElem? hG,hb⟩
   unfold FH.add; simp only [if_pos this]
  ·cases hG
 ·rw [hnil]
  exact List.nodup_append.2 ⟨by simp,hn2,fun a ha b hb=>hn3 a (by simp at ha; subst ha; simp) b hb⟩
 ·rw [hnil]
  intro b hb
  have hb2:b ∈ [g]++F2:=hb
  have hbF:b ∉ List.flatten Fs:=by
   rcases List.mem_append.1 hb2 with h | h
   ·simp at h; subst h; exact hg
   ·exact fun hx=>hn3 b (List.mem_cons_of_mem _ hx) b h rfl
  unfold FH.add; simp only [if_neg hbF]
  rcases List.mem_append.1 hb2 with h | h
  ·simp at h; subst h; exact hm _ (by simp)
  ·exact hm b (List.mem_append_right _ h)
theorem ab.uL {R:OR α} {R':OR α} {e:TypeId} {v:Value} (hn:R.r.n=R'.r.n) (h:ab H w (own (OR.bq e R) [v] [] :: As)):ab H w (own (OR.bq e R') [v] [] :: As):=by
 refine h.conv (B:=[_]) fun F hF=>?_
 refine ⟨F,⟨F,[],(List.append_nil _).symm,?_,rfl⟩,.refl _⟩
 rcases hF with h | ⟨g,cap,c,Fs,hv,hb,g1,g2,g3,hF,he1,he2⟩
 ·exact .inl h
 ·exact .inr ⟨g,cap,c,Fs,hv,hb,g1,g2,hn ▸ g3,hF,he1,fun i x G hi=>by simp at hi⟩
def hole (e:TypeId) (R:OR α) (v:Value) (xs:List α) (k:Nat) (cs:List Value):Ass where
 p H w F:=∃ (g cap:Nat) (c:Array Value) (Fs:List (List Nat)),v=.slice (some ⟨g,0,none⟩) xs.length cap∧de w g e c∧xs.length≤cap∧cap≤maxLen∧c.size=cap * R.r.n∧Fs.length=xs.length∧F=g :: (List.flatten (Fs.take k)++List.flatten (Fs.drop (k+1))) ∧
  (∀(i:Nat) (x:α) (G:List Nat),i ≠ k→xs[i]?=some x→Fs[i]?=some G→∃ cs',R.rel H w G cs' x∧∀j v,cs'[j]?=some v→c[i * R.r.n+j]?=some v)∧∀j v,cs[j]?=some v→c[k * R.r.n+j]?=some v
 fz _:=True
 mono:=by
  rintro H H' w F ⟨g,cap,c,Fs,hv,hb,g1,g2,g3,g4,hF,he,hk⟩ hl
  refine ⟨g,cap,c,Fs,hv,hb,g1,g2,g3,g4,hF,fun i x G hne hi hG=>?_,hk⟩
  obtain ⟨cs',hr,hj⟩:=he i x G hne hi hG
  exact ⟨cs',R.mono hr hl,hj⟩
 loc:=by
  rintro H w w' F ⟨g,cap,c,Fs,hv,hb,g1,g2,g3,g4,rfl,he,hk⟩ hl
  refine ⟨g,cap,c,Fs,hv,(hl g (by simp)).trans hb,g1,g2,g3,g4,rfl,fun i x G hne hi hG=>?_,hk⟩
  obtain ⟨cs',hr,hj⟩:=he i x G hne hi hG
  refine ⟨cs',R.loc hr fun b hb=>hl b (List.mem_cons_of_mem _ ?_),hj⟩
  rw [List.mem_append]
  rcases Nat.lt_or_gt_of_ne hne with h | h
  ·exact .inl (List.mem_flatten.2 ⟨G,List.mem_of_getElem? (i:=i) (by rw [List.getElem?_take_of_lt h]; exact hG),hb⟩)
  ·exact .inr (List.mem_flatten.2 ⟨G,List.mem_of_getElem? (i:=i - (k+1)) (by rw [List.getElem?_drop,show k+1+(i - (k+1))=i from by omega]; exact hG),hb⟩)
 lt:=by
  rintro H w F ⟨g,cap,c,Fs,hv,hb,g1,g2,g3,g4,rfl,he,hk⟩ b hbF
  rcases List.mem_cons.1 hbF with rfl | hbF
  ·exact hb.lt
  ·have hget:∀i,i<Fs.length→i ≠ k→∀b ∈ Fs[i]!,b<w.heap.size:=by
    intro i hi hne b hb
    rw [List.getElem!_eq_getElem?_getD,List.getElem?_eq_getElem hi] at hb
    obtain ⟨cs',hr,_⟩:=he i _ _ hne (List.getElem?_eq_getElem (by omega)) (List.getElem?_eq_getElem hi)
    exact R.lt hr b hb
   rcases List.mem_append.1 hbF with h | h
   ·obtain ⟨G,hG,hbG⟩:=List.mem_flatten.1 h
    obtain ⟨i,hi⟩:=List.getElem?_of_mem hG
    have hil:=(List.getElem?_eq_some_iff.1 hi).1
    rw [List.length_take] at hil
    rw [List.getElem?_take_of_lt (by omega)] at hi
    refine hget i (by omega) (by omega) b ?_
    rw [List.getElem!_eq_getElem?_getD,hi]; exact hbG
   ·obtain ⟨G,hG,hbG⟩:=List.mem_flatten.1 h
    obtain ⟨i,hi⟩:=List.getElem?_of_mem hG
    have hil:=(List.getElem?_eq_some_iff.1 hi).1
    simp at hil
    rw [List.getElem?_drop] at hi
    refine hget (k+1+i) (by omega) (by omega) b ?_
    rw [List.getElem!_eq_getElem?_getD,hi]; exact hbG
 fzl _ _ _:=trivial
theorem vE {Fs:List (List Nat)} {k:Nat} (hk:k<Fs.length):List.flatten Fs=List.flatten (Fs.take k)++(Fs[k]++List.flatten (Fs.drop (k+1))):=by
 have hspl:Fs=Fs.take k++Fs[k] :: Fs.drop (k+1):=by rw [List.getElem_cons_drop,List.take_append_drop]
 have h9:=congrArg List.flatten hspl
 rw [List.flatten_append,List.flatten_cons] at h9
 exact h9
theorem ab.focus {R:OR α} {e:TypeId} {v:Value} {xs:List α} {k:Int} {x:α} (h:ab H w (own (OR.bq e R) [v] xs :: As)) (hk:idx xs k=some x) :
  ∃ cs,ab H w (own R cs x :: hole e R v xs k.toNat cs :: As)∧∀g cap len,v=.slice (some ⟨g,0,none⟩) len cap→At w g (k.toNat * R.r.n) cs:=by
 obtain ⟨_,hx,hlt⟩:=ib hk
 obtain ⟨hs,F,⟨F1,F2,rfl,h1,h2⟩,hn,hm⟩:=h
 rcases h1 with ⟨_,rfl,_⟩ | ⟨g,cap,c,Fs,hv,hb,g1,g2,g3,rfl,he1,he2⟩
 ·simp at hlt
 have hv:v=.slice (some ⟨g,0,none⟩) xs.length cap:=by simpa using hv
 have hkF:k.toNat<Fs.length:=by omega
 obtain ⟨cs,hr,hj⟩:=he2 k.toNat x Fs[k.toNat] hx (List.getElem?_eq_getElem hkF)
 have hp:(Fs[k.toNat]++(g :: (List.flatten (Fs.take k.toNat)++List.flatten (Fs.drop (k.toNat+1)))++F2)).Perm (g :: List.flatten Fs++F2):=by
  rw [vE hkF,← List.append_assoc]
  refine List.Perm.append_right F2 ?_
  refine List.perm_append_comm.trans ?_
  rw [List.cons_append]
  refine List.Perm.cons g ?_
  rw [List.append_assoc]
  exact List.perm_append_comm.append_left _
 refine ⟨cs,⟨hs,Fs[k.toNat]++(g :: (List.flatten (Fs.take k.toNat)++List.flatten (Fs.drop (k.toNat+1)))++F2),⟨_,_,rfl,hr,_,F2,rfl,⟨g,cap,c,Fs,hv,hb,g1,g2,g3,he1,rfl,fun i x G _ hi hG=>he2 i x G hi hG,hj⟩,h2⟩,hp.symm.nodup_iff.1 hn,fun b hb=>hm b (hp.mem_iff.1 hb)⟩,fun g' cap' len' hv'=>?_⟩
 rw [hv] at hv'
 simp at hv'
 obtain ⟨rfl,_⟩:=hv'
 exact ⟨c,e,_,hb,hj⟩
theorem ab.DN {R:OR α} {e:TypeId} {v:Value} {xs:List α} {k:Nat} {x':α} {cs:List Value} (hlt:k<xs.length) (h:ab H w (own R cs x' :: hole e R v xs k cs :: As)):ab H w (own (OR.bq e R) [v] (xs.set k x') :: As):=by
 have h':ab H w ([own R cs x',hole e R v xs k cs]++As):=h
 refine h'.Em (B:=[_]) fun F hF=>?_
 obtain ⟨G,F2,rfl,hr,F3,F4,rfl,⟨g,cap,c,Fs,hv,hb,g1,g2,g3,g4,rfl,he,hk⟩,hF4⟩:=hF
 have hF4:F4=[]:=hF4
 subst hF4
 rw [List.append_nil]
 have hkF:k<(Fs.set k G).length:=by simp; omega
 refine ⟨g :: List.flatten (Fs.set k G),⟨_,[],(List.append_nil _).symm,.inr ⟨g,cap,c,Fs.set k G,by simp [hv],hb,by simpa using g1,g2,g3,rfl,by simp [g4],fun i x G' hi hG=>?_⟩,rfl⟩,?_⟩
 ·rw [List.getElem?_set] at hi hG
  by_cases hik:k=i
  ·subst hik
   rw [if_pos rfl,if_pos hlt] at hi
   rw [if_pos rfl,if_pos (by omega)] at hG
   injection hi with hi; injection hG with hG
   subst hi hG
   exact ⟨cs,hr,hk⟩
  ·rw [if_neg hik] at hi hG
   exact he i x G' (Ne.symm hik) hi hG
 ·rw [vE hkF]
  have e1:(Fs.set k G).take k=Fs.take k:=by rw [List.take_set_of_le (Nat.le_refl _)]
  have e2:(Fs.set k G).drop (k+1)=Fs.drop (k+1):=by rw [List.drop_set_of_lt (Nat.lt_succ_self _)]
  have e3:(Fs.set k G)[k]=G:=by simp
  rw [e1,e2,e3]
  refine (List.Perm.cons g ?_).trans (List.perm_append_comm (l₁:=G) (l₂:=g :: _)).symm
  refine (List.perm_append_comm.append_left (List.flatten (Fs.take k))).trans ?_
  rw [← List.append_assoc]
  exact List.Perm.refl _
theorem Ct {R:OR α} {e:TypeId} {F:List Nat} {cs:List Value} {xs:List α} (h:(OR.bq e R).rel H w F cs xs):∃ v,cs=[v]:=by
 rcases h with ⟨h,_⟩ | ⟨_,_,_,_,h,_⟩ <;> exact ⟨_,h⟩
section
variable {P:Program} {N:Nat} {Q:lY} {f:Fr} {ops:Array Oper} {rest:List Oper} {ty:TypeId} {pos:String} {af:Array Edge} {gd:Option (Nat × Bool)} {x y:Operand}
end
def A1 {ι:Type} (f:ι→List Ass):Ass where
 p H w F:=∃ i,cZ (f i) H w F
 fz _:=True
 mono:=by rintro H H' w F ⟨i,h⟩ k; exact ⟨i,cZ.mono h k⟩
 loc:=by rintro H w w' F ⟨i,h⟩ k; exact ⟨i,cZ.loc h k⟩
 lt:=by rintro H w F ⟨i,h⟩; exact cZ.lt h
 fzl _ _ _:=trivial
theorem ab.pack {ι:Type} {As:List Ass} (f:ι→List Ass) (i:ι) (h:ab H w (f i++As)):ab H w (A1 f :: As):=by
 obtain ⟨hs,F,h1,hn,hm⟩:=h
 obtain ⟨F1,F2,rfl,k1,k2⟩:=cZ.split h1
 exact ⟨hs,F1++F2,⟨F1,F2,rfl,⟨i,k1⟩,k2⟩,hn,hm⟩
theorem ab.unpack {ι:Type} {As:List Ass} {f:ι→List Ass} (h:ab H w (A1 f :: As)):∃ i,ab H w (f i++As):=by
 obtain ⟨hs,F,⟨F1,F2,rfl,⟨i,k1⟩,k2⟩,hn,hm⟩:=h
 exact ⟨i,hs,F1++F2,cZ.append k1 k2,hn,hm⟩
abbrev xI (v:Value) (n:Nat):Prop:=∃ (base:Option Addr) (cap:Nat),v=.slice base n cap∧n≤cap∧cap≤maxLen
theorem tc {R:OR α} {e:TypeId} {F:List Nat} {cs:List Value} {xs:List α} (h:(OR.bq e R).rel H w F cs xs):∃ v,cs=[v]∧xI v xs.length:=by
 obtain ⟨v,rfl⟩:=Ct h
 exact ⟨v,rfl,xF h⟩
theorem z9 {ti tis:Nat} {F:List Nat} {cs:List Value} {r:Rule} (h:(cF ti tis).rel H w F cs r):∃ v1 v2 v3,cs=[.int .i64 r.kind,v1,v2,.int .i64 r.bound,v3]∧xI v1 r.vars.length∧xI v2 r.coefs.length∧xI v3 r.rows.length:=by
 obtain ⟨_,_,c1,c2,_,rfl,⟨_,h1⟩,_,_,c3,c4,_,rfl,h2,_,_,c5,c6,_,rfl,h3,_,_,c7,c8,_,rfl,⟨_,h4⟩,h5⟩:=h
 obtain ⟨v1,rfl,l1⟩:=tc h2
 obtain ⟨v2,rfl,l2⟩:=tc h3
 obtain ⟨v3,rfl,l3⟩:=tc h5
 rw [lg.1 h1,lg.1 h4]
 exact ⟨v1,v2,v3,rfl,l1,l2,l3⟩
theorem xw {n:Int} {z:Term}:∀(H:FH) (w:World) (G:List Nat) (cs:List Value),(OR.bu au).rel H w G cs z→0<cs.length∧(OR.bu au).rel H w G (cs.set 0 (.int .i64 n)) { z with coef:=n }:=by
 rintro H w G cs ⟨rfl,h⟩
 rw [bM] at h; subst h
 exact ⟨by simp,rfl,bM.2 rfl⟩
theorem zj {ti tis:Nat} {n:Int} {z:Rule}:∀(H:FH) (w:World) (G:List Nat) (cs:List Value),(cF ti tis).rel H w G cs z→0<cs.length∧(cF ti tis).rel H w G (cs.set 0 (.int .i64 n)) { z with kind:=n }:=by
 rintro H w G cs ⟨F1,F2,c1,c2,rfl,rfl,⟨rfl,h1⟩,h2⟩
 obtain rfl:=lg.1 h1
 exact ⟨by simp,[],F2,[_],c2,rfl,rfl,⟨rfl,rfl⟩,h2⟩
theorem zm {ti tis:Nat} {n:Int} {z:Rule}:∀(H:FH) (w:World) (G:List Nat) (cs:List Value),(cF ti tis).rel H w G cs z→3<cs.length∧(cF ti tis).rel H w G (cs.set 3 (.int .i64 n)) { z with bound:=n }:=by
 rintro H w G cs ⟨F1,F2,c1,c2,rfl,rfl,⟨rfl,h1⟩,F3,F4,c3,c4,rfl,rfl,h2,F5,F6,c5,c6,rfl,rfl,h3,F7,F8,c7,c8,rfl,rfl,⟨rfl,h4⟩,h5⟩
 obtain rfl:=lg.1 h1
 obtain rfl:=lg.1 h4
 obtain ⟨v1,rfl⟩:=Ct h2
 obtain ⟨v2,rfl⟩:=Ct h3
 exact ⟨by simp,[],_,[_],_,rfl,rfl,⟨rfl,rfl⟩,F3,_,[v1],_,rfl,rfl,h2,F5,_,[v2],_,rfl,rfl,h3,[],F8,[_],c8,rfl,rfl,⟨rfl,rfl⟩,h5⟩
theorem cg {R:OR α} {cs:List Value} {x:α} {Bs:List Ass} {Hb:FH} (i:Nat) (h:∀A ∈ As,A.fz Hb) (hp:pick i As=some (own R cs x,Bs)):R.r.rel Hb cs x:=Dg i h hp
theorem xj {g t:Nat} {cs:Array Value} {Bs:List Ass} {Hb:FH} (i:Nat) (h:∀A ∈ As,A.fz Hb) (hp:pick i As=some (box g t cs,Bs)):Hb.m g=some (.cells cs t (0,0)):=Dg i h hp
theorem ab.CW {v:Value} {t:TypeId} {cs:Array Value} (h:ab H w (uw v t cs :: As)):∃ g,v=.pointer (some ⟨g,0,none⟩)∧ab H w (box g t cs :: As):=by
 obtain ⟨hs,F,⟨F1,F2,rfl,⟨g,hv,hF,hb⟩,h2⟩,hn,hm⟩:=h
 exact ⟨g,hv,hs,F1++F2,⟨F1,F2,rfl,⟨hF,hb⟩,h2⟩,hn,hm⟩
theorem ab.uw {v:Value} {g:Nat} {t:TypeId} {cs:Array Value} (hv:v=.pointer (some ⟨g,0,none⟩)) (h:ab H w (box g t cs :: As)):ab H w (Go.E.uw v t cs :: As):=by
 obtain ⟨hs,F,⟨F1,F2,rfl,⟨hF,hb⟩,h2⟩,hn,hm⟩:=h
 exact ⟨hs,F1++F2,⟨F1,F2,rfl,⟨g,hv,hF,hb⟩,h2⟩,hn,hm⟩
theorem ab.aG (n:Nat) (h:ab H w As):ab H w (As.take n):=by
 have:ab H w (As.take n++As.drop n):=by rw [List.take_append_drop]; exact h
 exact this.take
def dm (v:Value) (j:Nat):Value:=match v with | .agg cs=>cs.getD j undef | _=>undef
def pE (v:Value) (j:Nat):Value:=match v with | .tuple cs=>cs.getD j undef | _=>undef
end
def qR (xs:List Int):Array Value:=(xs.map (Value.int .i64)).toArray
theorem vD {xs:List Int} {k:Int} {z:Int} (h:idx xs k=some z):(qR xs)[k.toNat]?=some (.int .i64 z):=by
 obtain ⟨_,hz,_⟩:=ib h
 unfold qR
 simp [hz]
def arr (g:Nat) (t:TypeId) (n:Nat) (xs:List Int):Ass where
 p H w F:=F=[g]∧de w g t (qR xs)∧xs.length=n
 fz H:=True
 mono h _:=h
 loc h k:=⟨h.1,(k g (by rw [h.1]; simp)).trans h.2.1,h.2.2⟩
 lt h b hb:=by rw [h.1] at hb; simp at hb; subst hb; exact h.2.1.lt
 fzl _ _ _:=trivial
section
variable {P:Program} {N:Nat} {Q:lY} {f:Fr} {w:World} {ops:Array Oper} {rest:List Oper} {d:Nat} {ty:TypeId} {pos:String} {af:Array Edge} {gd:Option (Nat × Bool)}
variable {x y:Operand} {t e u:TypeId} {H:FH} {As Bs:List Ass} {g n:Nat} {xs:List Int} {k z:Int}
theorem ab.Fk {cs:Array Value} (xs:List Int) (n:Nat) (hc:cs=qR xs) (hn:xs.length=n) (h:ab H w (box g t cs :: As)):ab H w (arr g t n xs :: As):=by
 obtain ⟨hs,F,⟨F1,F2,rfl,⟨hF,hb⟩,h2⟩,hnd,hm⟩:=h
 exact ⟨hs,F1++F2,⟨F1,F2,rfl,⟨hF,hc ▸ hb,hn⟩,h2⟩,hnd,hm⟩
theorem ab.y4 (i:Nat) (h:ab H w As) (hp:pick i As=some (arr g t n xs,Bs)):de w g t (qR xs)∧xs.length=n:=by
 obtain ⟨F,hF⟩:=(h.get i hp).one
 exact hF.2
theorem AQ (i:Nat) (hk:jH ops f N d gd=true) (hu:P.underlying u=some (.array n e)) (hsz:∀w,(sizeOf e).run P w=.ok 1 w) (hx:ev f x=.pointer (some ⟨g,0,none⟩)) (hy:ev f y=.int .i64 k)
  (hst:ab H w As) (hp:pick i As=some (arr g t n xs,Bs)) (hi:idx xs k=some z) (h:L P N ops rest Q (fV f d (.pointer (some ⟨g,k.toNat * 1,none⟩))) w) :
  L P N ops (⟨some d,.indexAddr u x y,ty,pos,af,gd⟩ :: rest) Q f w:=by
 obtain ⟨h0,hz,hlt⟩:=ib hi
 obtain ⟨_,hl⟩:=hst.y4 i hp
 have hlt':k<(n:Int):=by omega
 exact cx hk (by simp [execOp,hx,hy,Instr.indexAt,Instr.sureAddr,asIntOf,run_underlying hu,h0,hlt',hsz,add_lit]) h
theorem El (i:Nat) (hk:jH ops f N d gd=true) (hag:∀w,(isAgg e).run P w=.ok false w) (hx:ev f x=.pointer (some ⟨g,k.toNat * 1,none⟩))
  (hst:ab H w As) (hp:pick i As=some (arr g t n xs,Bs)) (hi:idx xs k=some z) (h:L P N ops rest Q (fV f d (.int .i64 z)) w):L P N ops (⟨some d,.load e x,ty,pos,af,gd⟩ :: rest) Q f w:=by
 obtain ⟨hb,_⟩:=hst.y4 i hp
 refine bt hk hag hx (hb.cell ?_) h
 rw [Nat.mul_one]; exact vD hi
theorem Eu (hk:Ag ops f gd=true) (hsz:∀w,(sizeOf e).run P w=.ok 1 w) (hx:ev f x=.pointer (some ⟨g,k.toNat * 1,none⟩)) {v:Int} (hy:ev f y=.int .i64 v)
  (hst:ab H w (arr g t n xs :: As)) (hi:idx xs k=some z) (h:∀w',ab H w' (arr g t n (xs.set k.toNat v) :: As)→L P N ops rest Q f w'):L P N ops (⟨none,.store e x y,ty,pos,af,gd⟩ :: rest) Q f w:=by
 obtain ⟨hb,hl⟩:=hst.y4 0 rfl
 have hc:=vD hi
 obtain ⟨_,_,hlt⟩:=ib hi
 have hx':ev f x=.pointer (some ⟨g,k.toNat,none⟩):=by rw [hx,Nat.mul_one]
 have h1:(Value.int .i64 v).oneCell'=true:=rfl
 refine uH (w':=w.setCell ⟨g,k.toNat,none⟩ (.int .i64 v)) hk (by simp [execOp,hx',hy,Instr.storeAt,Instr.sureAddr,lB hsz hb hc h1]) (h _ ?_)
 refine ab.put hst iz fun F hF _ _=>⟨by rw [hF.1]; simp,F,⟨hF.1,?_,by rw [List.length_set]; exact hF.2.2⟩,.refl _⟩
 have h2:=lF (o:=k.toNat) (v:=.int .i64 v) hF.2.1
 have e1:qR (xs.set k.toNat v)=(qR xs).setIfInBounds k.toNat (.int .i64 v):=by
  unfold qR
  rw [List.map_set]
  simp
 rw [e1]; exact h2
theorem EH (i:Nat) (hk:jH ops f N d gd=true) (hag:∀w,(isAgg u).run P w=.ok true w) (hsz:∀w,(sizeOf u).run P w=.ok n w) (hx:ev f x=.pointer (some ⟨g,0,none⟩))
  (hst:ab H w As) (hp:pick i As=some (arr g t n xs,Bs)) (h:L P N ops rest Q (fV f d (.agg (qR xs))) w):L P N ops (⟨some d,.load u x,ty,pos,af,gd⟩ :: rest) Q f w:=by
 obtain ⟨hb,hl⟩:=hst.y4 i hp
 refine a7 (cs:=xs.map (Value.int .i64)) hk hag hsz hx ?_ (by simpa using hl) h
 exact ⟨qR xs,t,(0,0),hb,fun j v hj=>by rw [Nat.zero_add]; unfold qR; simpa using hj⟩
theorem Fj (hk:jH ops f N d gd=true) (hu:P.underlying u=some (.array n e)) (hsz:∀w,(sizeOf e).run P w=.ok 1 w) (hag:∀w,(isAgg e).run P w=.ok false w) (hx:ev f x=.agg (qR xs)) (hy:ev f y=.int .i64 k) (hl:xs.length=n) (hi:idx xs k=some z)
  (h:L P N ops rest Q (fV f d (.int .i64 z)) w):L P N ops (⟨some d,.index u x y,ty,pos,af,gd⟩ :: rest) Q f w:=by
 obtain ⟨h0,hz,hlt⟩:=ib hi
 have hlt':k<(n:Int):=by omega
 have hc:=vD hi
 exact cx hk (by simp [execOp,hx,hy,Instr.index,asIntOf,run_underlying hu,h0,hlt',hsz,part,hag,hc]) h
end
def BW {δ ι:Type} (v:Value) (o:Option δ) (f:δ→Nat→ι→List Ass):Ass where
 p H w F:=match o with
  | none=>v=.pointer none∧F=[]
  | some d=>∃ g i,v=.pointer (some ⟨g,0,none⟩)∧cZ (f d g i) H w F
 fz _:=True
 mono:=by
  intro H H' w F h k
  cases o with
  | none=>exact h
  | some d=>obtain ⟨g,i,hv,h⟩:=h; exact ⟨g,i,hv,cZ.mono h k⟩
 loc:=by
  intro H w w' F h k
  cases o with
  | none=>exact h
  | some d=>obtain ⟨g,i,hv,h⟩:=h; exact ⟨g,i,hv,cZ.loc h k⟩
 lt:=by
  intro H w F h
  cases o with
  | none=>rw [h.2]; intro b hb; cases hb
  | some d=>obtain ⟨g,i,hv,h⟩:=h; exact cZ.lt h
 fzl _ _ _:=trivial
section
variable {δ ι:Type} {H:FH} {w:World} {As:List Ass} {f:δ→Nat→ι→List Ass}
theorem ab.xh (f:δ→Nat→ι→List Ass) (h:ab H w As):ab H w (BW (.pointer none) none f :: As):=by
 obtain ⟨hs,F,h1,hn,hm⟩:=h
 exact ⟨hs,F,⟨[],F,rfl,⟨rfl,rfl⟩,h1⟩,hn,hm⟩
theorem ab.xU (f:δ→Nat→ι→List Ass) (d:δ) (g:Nat) (i:ι) (h:ab H w (f d g i++As)):ab H w (BW (.pointer (some ⟨g,0,none⟩)) (some d) f :: As):=by
 obtain ⟨hs,F,h1,hn,hm⟩:=h
 obtain ⟨F1,F2,rfl,k1,k2⟩:=cZ.split h1
 exact ⟨hs,F1++F2,⟨F1,F2,rfl,⟨g,i,rfl,k1⟩,k2⟩,hn,hm⟩
theorem ab.Ft {v:Value} {o:Option δ} {d:δ} (ho:o=some d) (h:ab H w (BW v o f :: As)):∃ g i,v=.pointer (some ⟨g,0,none⟩)∧ab H w (f d g i++As):=by
 subst ho
 obtain ⟨hs,F,⟨F1,F2,rfl,⟨g,i,hv,k1⟩,k2⟩,hn,hm⟩:=h
 exact ⟨g,i,hv,hs,F1++F2,cZ.append k1 k2,hn,hm⟩
end
end Go.E
