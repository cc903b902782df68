/- The plain law: what the functions compute, and that it answers as the statement says. -/
import Derived.Test.YtbjllamkfmejlaaGreatG10
import Derived.Test.YtbjllamkfmejlaaGreatD1
namespace Go.L
open Go Go.E
set_option linter.unusedVariables false
def FU:Nat:=1000000
def ML:Nat:=9223372036854775807
section
variable {α β σ τ:Type}
theorem cN (xs:List α) (i:Nat):idx xs (i:Int)=xs[i]?:=by
 unfold idx; rw [if_pos (Int.natCast_nonneg i),Int.toNat_natCast]
theorem iT {xs:List α} {i:Nat} (h:i<xs.length):idx xs (i:Int)=some xs[i]:=by rw [cN,List.getElem?_eq_getElem h]
theorem sv {xs:List α} {k:Int} (h0:0≤k) (h:k.toNat<xs.length):idx xs k=some xs[k.toNat]:=by
 unfold idx; rw [if_pos h0,List.getElem?_eq_getElem h]
theorem pn {n:Nat} (x:α) (h:n≤4294967296):wi (n:Int) x=some (List.replicate n x):=by
 unfold wi
 rw [if_pos (by omega),Int.toNat_natCast]
theorem rp {xs:List α} {i:Nat} (h:i≤xs.length):sl xs 0 (i:Int)=some (xs.take i):=by
 unfold sl
 rw [if_pos (by omega),Int.toNat_natCast]
 rfl
theorem bR {xs ys:List α} (h:xs.length+ys.length≤4294967296):app xs ys=some (xs++ys):=if_pos h
theorem mH {n:Nat} (h:n≤4294967296):jL 0 (n:Int)=some n:=by
 unfold jL
 rw [if_pos (by omega)]
 congr 1
theorem oC {s:Nat} {e:Int} (h:e≤4294967296) (hs:s≤4294967296):jL s e=some (e - s).toNat:=if_pos ⟨h,hs⟩
theorem count_range (b:Nat→σ→Option (Lo σ τ)):∀(n i j:Nat) (s:σ),cI b n i s=aw (fun _ k s=>b k s) (List.range' i n) j s
 | 0,i,j,s=>rfl
 | n+1,i,j,s=>by
  show (b i s).bind _=aw _ (List.range' i (n+1)) j s
  rw [List.range'_succ]
  show _=(b i s).bind _
  congr 1
  funext o
  cases o with
  | cont s'=>exact count_range b n (i+1) (j+1) s'
  | brk s'=>rfl
  | out t=>rfl
theorem dT {b:Nat→α→σ→Option (Lo σ τ)} (F:Nat→σ) (xs0:List α) (h:∀i x,xs0[i]?=some x→b i x (F i)=some (.cont (F (i+1)))) :
  aw b xs0 0 (F 0)=some (.nx (F xs0.length)):=by
 have key:∀(xs:List α) (i:Nat),xs0.drop i=xs→i≤xs0.length→aw b xs i (F i)=some (.nx (F xs0.length)):=by
  intro xs
  induction xs with
  | nil =>
   intro i hd hi
   rw [List.drop_eq_nil_iff] at hd
   obtain rfl:i=xs0.length:=by omega
   rfl
  | cons x xs ih =>
   intro i hd hi
   have hx:=aY hd
   rw [cN] at hx
   show (b i x (F i)).bind _=_
   rw [h i x hx]
   exact ih (i+1) (aL hd) (List.getElem?_eq_some_iff.1 hx).1
 exact key xs0 0 rfl (Nat.zero_le _)
theorem jo {b:Nat→σ→Option (Lo σ τ)} (F:Nat→σ):∀(n s:Nat),(∀i,s≤i→i<s+n→b i (F i)=some (.cont (F (i+1))))→cI b n s (F s)=some (.nx (F (s+n)))
 | 0,s,_=>rfl
 | n+1,s,h=>by
  show (b s (F s)).bind _=_
  rw [h s (Nat.le_refl _) (by omega)]
  show cI b n (s+1) (F (s+1))=_
  rw [jo F n (s+1) fun i h1 h2=>h i (by omega) (by omega)]
  congr 3; omega
theorem qA {b:Nat→α→σ→Option (Lo σ τ)} (xs0:List α) (I:Nat→σ→Prop) (Q:Jn σ τ→Prop) (h0:∀s,I xs0.length s→Q (.nx s))
  (h:∀i x s,xs0[i]?=some x→I i s→∃ o,b i x s=some o∧(match o with | .cont s'=>I (i+1) s' | .brk s'=>Q (.nx s') | .out t=>Q (.out t))) (s:σ) (hs:I 0 s) :
  ∃ j,aw b xs0 0 s=some j∧Q j:=by
 have key:∀(xs:List α) (i:Nat) (s:σ),xs0.drop i=xs→i≤xs0.length→I i s→∃ j,aw b xs i s=some j∧Q j:=by
  intro xs
  induction xs with
  | nil =>
   intro i s hd hi hI
   rw [List.drop_eq_nil_iff] at hd
   obtain rfl:i=xs0.length:=by omega
   exact ⟨_,rfl,h0 s hI⟩
  | cons x xs ih =>
   intro i s hd hi hI
   have hx:=aY hd
   rw [cN] at hx
   obtain ⟨o,hb,ho⟩:=h i x s hx hI
   have hl:=(List.getElem?_eq_some_iff.1 hx).1
   cases o with
   | cont s' =>
    obtain ⟨j,hj,hQ⟩:=ih (i+1) s' (aL hd) hl ho
    exact ⟨j,by show (b i x s).bind _=_; rw [hb]; exact hj,hQ⟩
   | brk s'=>exact ⟨_,by show (b i x s).bind _=_; rw [hb]; rfl,ho⟩
   | out t=>exact ⟨_,by show (b i x s).bind _=_; rw [hb]; rfl,ho⟩
 exact key xs0 0 s rfl (Nat.zero_le _) hs
theorem sK {b:Nat→σ→Option (Lo σ τ)} (I:Nat→σ→Prop) (Q:Jn σ τ→Prop):∀(n k:Nat) (h0:∀s,I (k+n) s→Q (.nx s))
  (h:∀i s,k≤i→i<k+n→I i s→∃ o,b i s=some o∧(match o with | .cont s'=>I (i+1) s' | .brk s'=>Q (.nx s') | .out t=>Q (.out t))) (s:σ) (hs:I k s),
  ∃ j,cI b n k s=some j∧Q j
 | 0,k,h0,h,s,hs=>⟨_,rfl,h0 s hs⟩
 | n+1,k,h0,h,s,hs=>by
  obtain ⟨o,hb,ho⟩:=h k s (Nat.le_refl _) (by omega) hs
  cases o with
  | cont s' =>
   obtain ⟨j,hj,hQ⟩:=sK I Q n (k+1) (fun s hs=>h0 s (by rwa [show k+(n+1)=k+1+n from by omega])) (fun i s h1 h2=>h i s (by omega) (by omega)) s' ho
   exact ⟨j,by show (b k s).bind _=_; rw [hb]; exact hj,hQ⟩
  | brk s'=>exact ⟨_,by show (b k s).bind _=_; rw [hb]; rfl,ho⟩
  | out t=>exact ⟨_,by show (b k s).bind _=_; rw [hb]; rfl,ho⟩
theorem iN {b:σ→Option (Lo σ τ)} (I:Nat→σ→Prop) (Q:Jn σ τ→Prop)
  (h:∀n s,I n s→∃ o,b s=some o∧(match o with | .cont s'=>∃ m,m<n∧I m s' | .brk s'=>Q (.nx s') | .out t=>Q (.out t))) :
  ∀k n s,I n s→n<k→∃ j,bx b k s=some j∧Q j:=by
 intro k
 induction k with
 | zero=>intro n s _ h; omega
 | succ k ih =>
  intro n s hI hk
  obtain ⟨o,hb,ho⟩:=h n s hI
  cases o with
  | cont s' =>
   obtain ⟨m,hm,hI'⟩:=ho
   obtain ⟨j,hj,hQ⟩:=ih m s' hI' (by omega)
   exact ⟨j,by show (b s).bind _=_; rw [hb]; exact hj,hQ⟩
  | brk s'=>exact ⟨_,by show (b s).bind _=_; rw [hb]; rfl,ho⟩
  | out t=>exact ⟨_,by show (b s).bind _=_; rw [hb]; rfl,ho⟩
def fM (q:Nat→α→Bool):List α→Nat→Bool
 | [],_=>true
 | x :: xs,i=>q i x && fM q xs (i+1)
theorem q5 (q:α→Bool):∀(xs:List α) (i:Nat),fM (fun _ x=>q x) xs i=xs.all q
 | [],_=>rfl
 | x :: xs,i=>by rw [fM,q5 q xs,List.all_cons]
theorem jj (q:Nat→α→Bool):∀(xs:List α) (k:Nat),fM q xs k=true ↔ ∀i x,xs[i]?=some x→q (k+i) x=true
 | [],k=>by simp [fM]
 | x :: xs,k=>by
  rw [fM,Bool.and_eq_true,jj q xs (k+1)]
  constructor
  ·rintro ⟨h0,h⟩ i y hy
   cases i with
   | zero=>simp at hy; subst hy; simpa using h0
   | succ i=>have:=h i y (by simpa using hy); rwa [show k+1+i=k+(i+1) from by omega] at this
  ·intro h
   exact ⟨by simpa using h 0 x rfl,fun i y hy=>by have:=h (i+1) y (by simpa using hy); rwa [show k+(i+1)=k+1+i from by omega] at this⟩
theorem jC (q:Nat→α→Bool) (t:τ) {b:Nat→α→Unit→Option (Lo Unit τ)} (xs0:List α)
  (hb:∀(i:Nat) (x:α),xs0[i]?=some x→b i x ()=some (if q i x then .cont () else .out t)):aw b xs0 0 ()=some (if fM q xs0 0 then .nx () else .out t):=by
 have key:∀(xs:List α) (i:Nat),xs0.drop i=xs→aw b xs i ()=some (if fM q xs i then .nx () else .out t):=by
  intro xs
  induction xs with
  | nil=>intro i _; rfl
  | cons x xs ih =>
   intro i h
   have hx:=aY h
   rw [cN] at hx
   show (b i x ()).bind _=_
   rw [hb i x hx]
   cases hq:q i x with
   | true=>show aw b xs (i+1) ()=_; rw [ih (i+1) (aL h)]; simp [fM,hq]
   | false=>simp [fM,hq]
 exact key xs0 0 rfl
theorem mA (q:α→Bool) (t:τ) {b:Nat→α→Unit→Option (Lo Unit τ)} (xs0:List α)
  (hb:∀(i:Nat) (x:α),xs0[i]?=some x→b i x ()=some (if q x then .cont () else .out t)):aw b xs0 0 ()=some (if xs0.all q then .nx () else .out t):=by
 rw [jC (fun _=>q) t xs0 hb,q5]
theorem Ba (q:α→Bool) (t:τ) {b:Nat→α→Unit→Option (Lo Unit τ)} (xs0:List α)
  (hb:∀(i:Nat) (x:α),xs0[i]?=some x→b i x ()=some (if q x then .out t else .cont ())):aw b xs0 0 ()=some (if xs0.any q then .out t else .nx ()):=by
 rw [mA (fun x=>!q x) t xs0 fun i x hx=>by rw [hb i x hx]; cases q x <;> rfl]
 rw [List.any_eq_not_all_not]
 cases xs0.all (fun x=>!q x) <;> rfl
theorem kA (q:α→Bool) (xs:List α):xs.any (fun x=>!q x)=!xs.all q:=by
 induction xs with
 | nil=>rfl
 | cons x xs ih=>rw [List.any_cons,List.all_cons,ih]; cases q x <;> cases xs.all q <;> rfl
theorem iI {b:Nat→α→List β→Option (Lo (List β) τ)} (f:α→β) (xs0:List α) (h:∀i x out,xs0[i]?=some x→out.length=i→b i x out=some (.cont (out++[f x]))) :
  aw b xs0 0 []=some (.nx (xs0.map f)):=by
 have:=dT (b:=b) (fun i=>(xs0.take i).map f) xs0 (by
  intro i x hx
  have hi:=(List.getElem?_eq_some_iff.1 hx).1
  rw [h i x _ hx (by simp; omega)]
  rw [List.take_add_one,hx]
  simp)
 simpa using this
theorem jw {a b:α}:(if false=true then a else b)=b:=rfl
theorem kB {q:α→Bool} {b:Nat→α→Unit→Option (Lo Unit Int)} (xs0:List α) (hb:∀i x,xs0[i]?=some x→b i x ()=some (if q x then .out (i:Int) else .cont ())) :
  ∃ j,aw b xs0 0 ()=some j∧(match j with | .nx _=>xs0.any q=false | .out t=>0≤t∧xs0.any q=true):=by
 refine qA xs0 (fun i _=>(xs0.take i).any q=false) _ ?_ ?_ () (by simp)
 ·intro s h; simpa using h
 ·intro i x s hx hI
  have hi:=(List.getElem?_eq_some_iff.1 hx).1
  refine ⟨_,hb i x hx,?_⟩
  cases hq:q x with
  | true=>exact ⟨by omega,List.any_eq_true.2 ⟨x,List.mem_of_getElem? hx,hq⟩⟩
  | false =>
   show (xs0.take (i+1)).any q=false
   rw [List.take_add_one,hx,List.any_append,hI]
   simp [hq]
end
set_option linter.unusedSimpArgs false
set_option maxRecDepth 100000
def So {α:Type} (x:Option α) (P:α→Prop):Prop:=∃ a,x=some a∧P a
section
variable {α β σ τ:Type}
theorem bA {a:α} {P:α→Prop} (h:P a):So (some a) P:=⟨a,rfl,h⟩
theorem bj {x:Option α} {f:α→Option β} {P:α→Prop} {Q:β→Prop} (hx:So x P) (hf:∀a,P a→So (f a) Q):So (x.bind f) Q:=by
 obtain ⟨a,rfl,ha⟩:=hx
 exact hf a ha
theorem eh {c:Prop} [Decidable c] {x y:Option α} {P:α→Prop} (h1:c→So x P) (h2:¬ c→So y P):So (if c then x else y) P:=by
 split
 ·exact h1 ‹_›
 ·exact h2 ‹_›
theorem AB {x:Option Unit} (h:So x fun _=>True):x=some ():=by
 obtain ⟨⟨⟩,h,_⟩:=h
 exact h
theorem jI {P:Prop} (h:P):So (fO P) fun _=>True:=⟨(),vL h,trivial⟩
theorem Ay {P:α→Prop} {e:Option Unit} {f:α→Option Unit} (o0:α) (he:e=some ()) (h0:P o0) (h:∀o,P o→So (f o) fun _=>True):So (zG e P f) fun _=>True:=⟨(),vG he h0 fun o ho=>AB (h o ho),trivial⟩
theorem oH {xs ys:List α} (h:xs.length+ys.length≤4294967296) {P:List α→Prop} (hp:P (xs++ys)):So (app xs ys) P:=⟨_,bR h,hp⟩
theorem lx {xs:List α} {k:Int} {P:α→Prop} (h0:0≤k) (h1:k<(xs.length:Int)) (h:∀x ∈ xs,P x):So (idx xs k) P:=by
 have hl:k.toNat<xs.length:=by omega
 exact ⟨_,sv h0 hl,h _ (List.getElem_mem hl)⟩
theorem sD {b:Nat→α→σ→Option (Lo σ τ)} (I:Nat→σ→Prop) (xs:List α) (s:σ) (h0:I 0 s) (h:∀i x s,xs[i]?=some x→I i s→So (b i x s) fun o=>∃ s',o=.cont s'∧I (i+1) s') :
  So (aw b xs 0 s) fun j=>∃ s',j=.nx s'∧I xs.length s':=by
 obtain ⟨j,hj,hQ⟩:=qA (b:=b) xs I (fun j=>∃ s',j=.nx s'∧I xs.length s') (fun s hs=>⟨s,rfl,hs⟩) (fun i x s hx hI=>by
  obtain ⟨o,ho,s',rfl,hs'⟩:=h i x s hx hI
  exact ⟨_,ho,hs'⟩) s h0
 exact ⟨j,hj,hQ⟩
theorem CS {b:Nat→σ→Option (Lo σ τ)} (I:Nat→σ→Prop) (n:Nat) (s:σ) (h0:I 0 s) (h:∀i s,i<n→I i s→So (b i s) fun o=>∃ s',o=.cont s'∧I (i+1) s') :
  So (cI b n 0 s) fun j=>∃ s',j=.nx s'∧I n s':=by
 obtain ⟨j,hj,hQ⟩:=sK (b:=b) I (fun j=>∃ s',j=.nx s'∧I n s') n 0 (fun s hs=>⟨s,rfl,by simpa using hs⟩) (fun i s h1 h2 hI=>by
  obtain ⟨o,ho,s',rfl,hs'⟩:=h i s (by omega) hI
  exact ⟨_,ho,hs'⟩) s h0
 exact ⟨j,hj,hQ⟩
theorem oz {b:σ→Option (Lo σ τ)} (I:Nat→σ→Prop) (Q:σ→Prop) (n:Nat) (s:σ) (fu:Nat) (hf:n<fu) (h0:I n s)
  (h:∀n s,I n s→So (b s) fun o=>(∃ s' m,o=.cont s'∧m<n∧I m s') ∨ (∃ s',o=.brk s'∧Q s')):So (bx b fu s) fun j=>∃ s',j=.nx s'∧Q s':=by
 obtain ⟨j,hj,hQ⟩:=iN (b:=b) I (fun j=>∃ s',j=.nx s'∧Q s') (fun n s hI=>by
  obtain ⟨o,ho,⟨s',m,rfl,hm,hs'⟩ | ⟨s',rfl,hs'⟩⟩:=h n s hI
  ·exact ⟨_,ho,m,hm,hs'⟩
  ·exact ⟨_,ho,s',rfl,hs'⟩) fu n s h0 hf
 exact ⟨j,hj,hQ⟩
end
def PM:Int:=1000000
theorem Aq {m n:Int} (hm:0≤m) (hm2:m≤9223372036854775807) (hn:0≤n) (hn2:n≤9223372036854775807):0≤zW .i64 m n:=by
 obtain ⟨a,rfl⟩:=Int.eq_ofNat_of_zero_le hm
 obtain ⟨b,rfl⟩:=Int.eq_ofNat_of_zero_le hn
 have hx:a ^^^ b<2 ^ 63:=Nat.xor_lt_two_pow (by omega) (by omega)
 have h1:(BitVec.ofInt (IntKind.bits .i64) (a:Int) ^^^ BitVec.ofInt (IntKind.bits .i64) (b:Int)).toNat=a ^^^ b:=by
  show (BitVec.ofInt 64 (a:Int) ^^^ BitVec.ofInt 64 (b:Int)).toNat=a ^^^ b
  rw [BitVec.toNat_xor,BitVec.toNat_ofInt,BitVec.toNat_ofInt]
  congr 1 <;> omega
 unfold zW
 rw [h1]
 have:i64 ((a ^^^ b:Nat):Int)=((a ^^^ b:Nat):Int):=aR (by omega) (by omega)
 show 0≤i64 ((a ^^^ b:Nat):Int)
 rw [this]
 omega
theorem r8 (r:Rd) (n:Int) (hb:r.b.length≤2000) (h0:0≤r.p) (h1:r.p≤PM):So (fL r n) fun o=>o.2=r.p+1∧0≤o.1∧(1≤n→o.1<n):=by
 unfold PM at h1
 unfold fL
 have e1:i64 (r.p+1)=r.p+1:=aR (by omega) (by omega)
 have e2:i64 (r.p+1 - 1)=r.p:=by rw [aR (by omega) (by omega)]; omega
 rw [e1,e2]
 refine eh (fun h=>bA ⟨rfl,Int.le_refl _,fun h=>by omega⟩) fun h=>?_
 simp only [Bool.or_eq_true,decide_eq_true_eq,beq_iff_eq,not_or] at h
 have hn:n ≠ 0:=by omega
 have hl:(r.b.length:Int) ≠ 0:=h.2
 refine eh (fun hc=>?_) fun hc=>?_
 ·have hc:=of_decide_eq_true hc
  refine bj (lx h0 hc fun x _=>trivial) fun x _=>?_
  rw [if_neg hn]
  refine bA ⟨rfl,?_,fun _=>?_⟩
  ·have:i64 (x.toNat:Int)=x.toNat:=aR (by omega) (by have:=x.toNat_lt; omega)
   rw [this]; exact Int.tmod_nonneg _ (by omega)
  ·exact Int.tmod_lt_of_pos _ (by omega)
 ·rw [if_neg hl]
  have m0:∀z:Int,0≤z→0≤Int.tmod z (r.b.length:Int)∧Int.tmod z (r.b.length:Int)<(r.b.length:Int):=fun z hz=>⟨Int.tmod_nonneg _ hz,Int.tmod_lt_of_pos _ (by omega)⟩
  have e3:i64 (i64 (r.p * 7)+3)=r.p * 7+3:=by rw [aR (n:=r.p * 7) (by omega) (by omega),aR (by omega) (by omega)]
  refine bj (bA (P:=fun _=>True) trivial) fun _ _=>bj (lx (m0 _ h0).1 (m0 _ h0).2 fun x _=>trivial) fun x _=>bj (bA (P:=fun _=>True) trivial) fun _ _=>?_
  rw [e3]
  refine bj (lx (m0 _ (by omega)).1 (m0 _ (by omega)).2 fun x _=>trivial) fun y _=>bj (bA (P:=fun _=>True) trivial) fun _ _=>?_
  rw [if_neg hn]
  refine bj (bA (P:=fun _=>True) trivial) fun _ _=>bA ⟨rfl,?_,fun _=>Int.tmod_lt_of_pos _ (by omega)⟩
  refine Int.tmod_nonneg _ ?_
  have hx:=x.toNat_lt
  have hy:=y.toNat_lt
  have hq:0≤Int.tdiv r.p (r.b.length:Int):=Int.tdiv_nonneg h0 (by omega)
  have hq2:Int.tdiv r.p (r.b.length:Int)≤r.p:=Int.tdiv_le_self _ h0
  have f1:i64 (x.toNat:Int)=x.toNat:=aR (by omega) (by omega)
  have f2:i64 (y.toNat:Int)=y.toNat:=aR (by omega) (by omega)
  have f3:i64 ((x.toNat:Int) * 131)=x.toNat * 131:=aR (by omega) (by omega)
  have f4:i64 ((y.toNat:Int) * 1117)=y.toNat * 1117:=aR (by omega) (by omega)
  have f5:i64 ((x.toNat:Int) * 131+y.toNat * 1117)=x.toNat * 131+y.toNat * 1117:=aR (by omega) (by omega)
  have f6:i64 (r.p * 29)=r.p * 29:=aR (by omega) (by omega)
  have f7:i64 ((x.toNat:Int) * 131+y.toNat * 1117+r.p * 29)=x.toNat * 131+y.toNat * 1117+r.p * 29:=aR (by omega) (by omega)
  have f8:i64 (Int.tdiv r.p (r.b.length:Int))=Int.tdiv r.p (r.b.length:Int):=aR (by omega) (by omega)
  have f9:i64 (Int.tdiv r.p (r.b.length:Int) * 53)=Int.tdiv r.p (r.b.length:Int) * 53:=aR (by omega) (by omega)
  have fa:i64 ((x.toNat:Int) * 131+y.toNat * 1117+r.p * 29+Int.tdiv r.p (r.b.length:Int) * 53)=x.toNat * 131+y.toNat * 1117+r.p * 29+Int.tdiv r.p (r.b.length:Int) * 53:=aR (by omega) (by omega)
  rw [f1,f2,f3,f4,f5,f6,f7,f8,f9,fa]
  generalize hz:(x.toNat:Int) * 131+y.toNat * 1117+r.p * 29+Int.tdiv r.p (r.b.length:Int) * 53=z
  have z0:0≤z:=by omega
  have z1:z≤1000000000000:=by omega
  have d0:0≤Int.tdiv z 64:=Int.tdiv_nonneg z0 (by omega)
  have d1:Int.tdiv z 64≤z:=Int.tdiv_le_self _ z0
  rw [aR (n:=Int.tdiv z 64) (by omega) (by omega)]
  exact Aq z0 (by omega) d0 (by omega)
theorem m3 (r:Rd) (xs:List Int) (hx:xs ≠ []) (hb:r.b.length≤2000) (h0:0≤r.p) (h1:r.p≤PM):So (dy r xs) fun o=>o.2=r.p+1∧o.1 ∈ xs:=by
 unfold dy
 have hl:1≤(xs.length:Int):=by have:=List.length_pos_iff.2 hx; omega
 refine bj (r8 r _ hb h0 h1) fun a ⟨ha,hb0,hb1⟩=>?_
 refine bj (lx (P:=fun x=>x ∈ xs) hb0 (hb1 hl) fun x hx=>hx) fun x hx=>bA ⟨ha,hx⟩
theorem DC (code:List UInt8):So (og code) fun r=>r.b.length≤2000∧r.p=0:=by
 unfold og
 refine bj (P:=fun (c:List UInt8)=>c.length≤2000) (eh (fun h=>?_) fun h=>bA ?_) fun c hc=>bA ⟨hc,rfl⟩
 ·have h:=of_decide_eq_true h
  have h2:sl code 0 2000=some (code.take 2000):=rp (i:=2000) (by omega)
  rw [h2]
  exact bA (by rw [List.length_take]; omega)
 ·simp only [decide_eq_true_eq] at h; omega
theorem AM (r:Rd) (m:Model) (least:Int) (fu:Nat) (hf:FU≤fu) (hs:m.sizes.length≤10) (hl:1≤least) (hl2:least≤2) (hb:r.b.length≤2000) (h0:0≤r.p) (h1:r.p+20≤PM) :
  So (oe fu r m least) fun o=>least≤(o.1.length:Int)∧o.1.length≤30∧r.p≤o.2∧o.2≤r.p+11:=by
 unfold PM at h1
 unfold FU at hf
 unfold oe
 refine bj (sD (fun i (s:List Int × Int)=>s.1.length≤i∧s.2=r.p+i) m.sizes _ ⟨Nat.le_refl _,by simp⟩ ?_) ?_
 ·rintro i x ⟨out,p⟩ hx ⟨hI1,hI2⟩
  have hi:=(List.getElem?_eq_some_iff.1 hx).1
  simp only at hI1 hI2
  unfold nA
  refine bj (r8 _ _ hb (by simp only; omega) (by unfold PM; simp only; omega)) fun a ⟨ha,_,_⟩=>?_
  refine bj (P:=fun (o:List Int)=>o.length≤i+1) (eh (fun _=>bj (oH (P:=fun (o:List Int)=>o.length≤i+1) (by simp; omega) (by simp; omega)) fun o ho=>bA ho) fun _=>bA (by omega)) fun o ho=>?_
  exact bA ⟨_,rfl,ho,by simp only at ha ⊢; omega⟩
 rintro _ ⟨⟨out,p⟩,rfl,ho,hp⟩
 simp only at ho hp
 refine bj (oz (fun n (s:List Int × Int)=>s.1.length≤10+(10 - n)∧0≤s.2∧s.2+n=m.sizes.length) (fun s=>s.1.length≤20) m.sizes.length _ fu (by omega) ⟨by simp only; omega,by simp,by simp⟩ ?_) ?_
 ·rintro n ⟨o,v⟩ ⟨hI1,hI2,hI3⟩
  simp only at hI1 hI2 hI3
  unfold nk
  refine eh (fun h=>?_) fun h=>bA (.inr ⟨_,rfl,by simp only; omega⟩)
  simp only [Bool.and_eq_true,decide_eq_true_eq] at h
  refine bj (P:=fun _=>True) (eh (fun _=>bA trivial) fun hne=>bj (P:=fun _=>True) ?_ fun _ _=>bA trivial) fun b _=>?_
  ·simp only [beq_iff_eq] at hne
   rw [aR (by omega) (by omega)]
   exact lx (by omega) (by omega) fun _ _=>trivial
  refine bj (P:=fun (o2:List Int)=>o2.length≤o.length+1) (eh (fun _=>bj (oH (P:=fun (o2:List Int)=>o2.length≤o.length+1) (by simp; omega) (by simp)) fun o ho=>bA ho) fun _=>bA (by omega)) fun o2 ho2=>?_
  rw [aR (n:=v+1) (by omega) (by omega)]
  exact bA (.inl ⟨_,n - 1,rfl,by omega,by simp only; omega,by simp only; omega,by simp only; omega⟩)
 rintro _ ⟨⟨o,v⟩,rfl,ho⟩
 simp only at ho
 refine bj (P:=fun (o:List Int)=>least≤(o.length:Int)∧o.length≤30) (eh (fun _=>?_) fun h=>bA ?_) ?_
 ·have hc:jL 0 least=some least.toNat:=by rw [oC (by omega) (by omega)]; congr 1; omega
  refine bj (P:=fun k=>k=least.toNat) ⟨_,hc,rfl⟩ fun k hk=>?_
  subst hk
  refine bj (CS (fun i (s:List Int)=>s.length=i) least.toNat _ rfl ?_) ?_
  ·intro i s hi hI
   unfold nC
   exact bj (oH (P:=fun (o:List Int)=>o.length=i+1) (by simp; omega) (by simp; omega)) fun o ho=>bA ⟨_,rfl,ho⟩
  ·rintro _ ⟨s,rfl,hs'⟩
   exact bA ⟨by omega,by omega⟩
 ·simp only [Bool.or_eq_true,decide_eq_true_eq,not_or] at h
  omega
 intro o2 ⟨ho2,ho3⟩
 refine bj (P:=fun (b:Bool × Int)=>(b.1=true→1<o2.length)∧r.p≤b.2∧b.2≤r.p+11) (eh (fun h=>?_) fun _=>bA ⟨nofun,by simp only; omega,by simp only; omega⟩) ?_
 ·have h:=of_decide_eq_true h
  refine bj (r8 _ _ hb (by simp only; omega) (by unfold PM; simp only; omega)) fun a ⟨ha,_,_⟩=>bA ⟨fun _=>by omega,?_,?_⟩ <;> simp only at ha ⊢ <;> omega
 rintro ⟨b,q⟩ ⟨hb1,hb2,hb3⟩
 simp only at hb1 hb2 hb3
 refine bj (P:=fun (o:List Int)=>o.length=o2.length) (eh (fun h=>?_) fun _=>bA rfl) ?_
 ·have h:=hb1 h
  refine bj (lx (P:=fun _=>True) (by omega) (by omega) fun _ _=>trivial) fun x _=>?_
  refine bj (lx (P:=fun _=>True) (by omega) (by omega) fun _ _=>trivial) fun y _=>?_
  refine bj (lx (P:=fun _=>True) (by omega) (by simp; omega) fun _ _=>trivial) fun z _=>?_
  exact bA (by simp)
 intro o4 ho4
 exact bA ⟨by simp only; omega,by simp only; omega,hb2,hb3⟩
theorem D2 (r:Rd) (m:Model) (fu:Nat) (hf:FU≤fu) (hs:m.sizes.length≤10) (hb:r.b.length≤2000) (h0:0≤r.p) (h1:r.p+1000≤PM) :
  So (ql fu r m) fun o=>th o.1∧r.p≤o.2∧o.2≤r.p+400:=by
 unfold PM at h1
 have hf':=hf
 unfold FU at hf
 unfold ql
 refine bj (m3 _ _ (by simp) hb h0 (by unfold PM; omega)) fun k ⟨hk,hkm⟩=>?_
 refine bj (AM _ m 1 fu hf' hs (by omega) (by omega) hb (by simp only; omega) (by unfold PM; simp only; omega)) fun vs ⟨hv1,hv2,hv3,hv4⟩=>?_
 simp only at hv3 hv4
 refine bj (P:=fun (o:Int × List Int × List Int × Int × List (List Int))=>hL o.2.1∧hL o.2.2.1∧zO o.2.2.2.2∧r.p≤o.1∧o.1≤r.p+400) (eh (fun _=>?_) fun _=>?_) ?_
 ·refine bj (sD (fun i (s:Int × List Int)=>s.1=vs.2+i∧s.2.length=i) vs.1 _ ⟨by simp,rfl⟩ ?_) ?_
  ·rintro i x ⟨p,out⟩ hx ⟨hI1,hI2⟩
   have hi:=(List.getElem?_eq_some_iff.1 hx).1
   simp only at hI1 hI2
   unfold nh
   refine bj (m3 _ _ (by simp) hb (by simp only; omega) (by unfold PM; simp only; omega)) fun a ⟨ha,_⟩=>?_
   simp only at ha
   exact bj (oH (P:=fun (o:List Int)=>o.length=i+1) (by simp; omega) (by simp; omega)) fun o ho=>bA ⟨_,rfl,by simp only; omega,ho⟩
  rintro _ ⟨⟨p,out⟩,rfl,hp,ho⟩
  simp only at hp ho
  refine bj (m3 _ _ (by simp) hb (by simp only; omega) (by unfold PM; simp only; omega)) fun a ⟨ha,_⟩=>bA ⟨?_,?_,⟨by simp,by simp⟩,?_,?_⟩ <;> simp only at ha ⊢ <;> (try unfold hL) <;> omega
 ·refine bj (P:=fun (o:Int × List Int × List (List Int))=>hL o.2.1∧zO o.2.2∧r.p≤o.1∧o.1≤r.p+400) (eh (fun _=>?_) fun _=>?_) fun o ⟨h1,h2,h3,h4⟩=>bA ⟨h1,by simp [hL],h2,h3,h4⟩
  ·refine bj (m3 _ _ (by simp) hb (by simp only; omega) (by unfold PM; simp only; omega)) fun a ⟨ha,ham⟩=>?_
   simp only at ha
   have hab:0≤a.1∧a.1≤8:=by simp at ham; omega
   refine bj (oz (fun n (s:Int × Int × List (List Int))=>n≤8∧s.1=n∧r.p≤s.2.1∧s.2.1≤r.p+13+30 * (8 - n)∧s.2.2.length≤8 - n∧∀x ∈ s.2.2,hL x) (fun s=>r.p≤s.2.1∧s.2.1≤r.p+300∧s.2.2.length≤8∧∀x ∈ s.2.2,hL x) a.1.toNat _ fu (by omega) ⟨by omega,by simp only; omega,by simp only; omega,by simp only; omega,by simp,by simp⟩ ?_) ?_
   ·rintro n ⟨i,p,rows⟩ ⟨hn,hI1,hI2,hI3,hI4,hI5⟩
    simp only at hI1 hI2 hI3 hI4 hI5
    unfold nm
    refine eh (fun hc=>?_) fun _=>bA (.inr ⟨_,rfl,by simp only; omega,by simp only; omega,by simp only; omega,hI5⟩)
    have hc:=of_decide_eq_true hc
    refine bj (sD (fun q (s:List Int × Int)=>s.2=p+q∧s.1.length=q) vs.1 _ ⟨by simp,rfl⟩ ?_) ?_
    ·rintro q x ⟨out,p2⟩ hx ⟨hJ1,hJ2⟩
     have hi:=(List.getElem?_eq_some_iff.1 hx).1
     simp only at hJ1 hJ2
     unfold nv
     refine bj (r8 _ _ hb (by simp only; omega) (by unfold PM; simp only; omega)) fun a ⟨ha,_,_⟩=>?_
     simp only at ha
     exact bj (oH (P:=fun (o:List Int)=>o.length=q+1) (by simp; omega) (by simp; omega)) fun o ho=>bA ⟨_,rfl,by simp only; omega,ho⟩
    rintro _ ⟨⟨row,p2⟩,rfl,hp2,hrow⟩
    simp only at hp2 hrow
    refine bj (oH (P:=fun (o:List (List Int))=>o.length≤8 - n+1∧∀x ∈ o,hL x) (by simp; omega) ⟨by simp; omega,fun x hx=>?_⟩) fun o ⟨ho1,ho2⟩=>?_
    ·rcases List.mem_append.1 hx with h | h
     ·exact hI5 x h
     ·simp at h; subst h; unfold hL; omega
    rw [aR (by omega) (by omega)]
    exact bA (.inl ⟨_,n - 1,rfl,by omega,by omega,by simp only; omega,by simp only; omega,by simp only; omega,by simp only; omega,ho2⟩)
   rintro _ ⟨⟨i,p,rows⟩,rfl,h1,h2,h3,h4⟩
   simp only at h1 h2 h3 h4
   exact bA ⟨by simp only [hL]; omega,⟨by simp only; omega,h4⟩,h1,by simp only; omega⟩
  ·refine bj (P:=fun (o:Int × List Int)=>hL o.2∧r.p≤o.1∧o.1≤r.p+400) (eh (fun _=>?_) fun _=>bA ⟨by simp only [hL]; omega,by simp only; omega,by simp only; omega⟩) fun o ⟨h1,h2,h3⟩=>bA ⟨h1,⟨by simp,by simp⟩,h2,h3⟩
   refine bj (AM _ m 2 fu hf' hs (by omega) (by omega) hb (by simp only; omega) (by unfold PM; simp only; omega)) fun vs2 ⟨hw1,hw2,hw3,hw4⟩=>?_
   simp only at hw3 hw4
   have h2:sl vs2.1 0 2=some (vs2.1.take 2):=rp (i:=2) (by omega)
   rw [h2]
   exact bA ⟨by simp only [hL,List.length_take]; omega,by simp only; omega,by simp only; omega⟩
 ·rintro ⟨p,a,b,c,d⟩ ⟨h1,h2,h3,h4,h5⟩
  exact bA ⟨⟨h1,h2,h3⟩,h4,h5⟩
theorem Cn (r:Rd) (fu:Nat) (hf:FU≤fu) (hb:r.b.length≤2000) (h0:0≤r.p) (h1:r.p+10000≤PM):So (nZ fu r) fun o=>fD o.1∧o.1.sizes.length≤4∧o.1.rules.length≤4∧r.p≤o.2∧o.2≤r.p+3000:=by
 unfold PM at h1
 have hf':=hf
 unfold FU at hf
 unfold nZ
 refine bj (m3 _ _ (by simp) hb h0 (by unfold PM; omega)) fun k ⟨hk,hkm⟩=>?_
 have hkb:2≤k.1∧k.1≤4:=by simp at hkm; omega
 refine bj (oz (fun n (s:Int × Int × List Int)=>n≤4∧s.1=n∧r.p≤s.2.1∧s.2.1≤r.p+1+(4 - n)∧s.2.2.length+n=k.1.toNat∧∀x ∈ s.2.2,0≤x∧x≤3) (fun s=>r.p≤s.2.1∧s.2.1≤r.p+10∧s.2.2.length=k.1.toNat∧∀x ∈ s.2.2,0≤x∧x≤3) k.1.toNat _ fu (by omega) ⟨by omega,by simp only; omega,by simp only; omega,by simp only; omega,by simp,by simp⟩ ?_) ?_
 ·rintro n ⟨i,p,out⟩ ⟨hn,hI1,hI2,hI3,hI4,hI5⟩
  simp only at hI1 hI2 hI3 hI4 hI5
  unfold mj
  refine eh (fun hc=>?_) fun hc=>bA (.inr ⟨_,rfl,by simp only; omega,by simp only; omega,by simp only [decide_eq_true_eq] at hc; simp only; omega,hI5⟩)
  have hc:=of_decide_eq_true hc
  refine bj (m3 _ _ (by simp) hb (by simp only; omega) (by unfold PM; simp only; omega)) fun a ⟨ha,ham⟩=>?_
  simp only at ha
  refine bj (oH (P:=fun (o:List Int)=>o.length+(n - 1)=k.1.toNat∧∀x ∈ o,0≤x∧x≤3) (by simp; omega) ⟨by simp; omega,fun x hx=>?_⟩) fun o ⟨ho1,ho2⟩=>?_
  ·rcases List.mem_append.1 hx with h | h
   ·exact hI5 x h
   ·simp at h; subst h; simp at ham; omega
  rw [aR (by omega) (by omega)]
  exact bA (.inl ⟨_,n - 1,rfl,by omega,by omega,by simp only; omega,by simp only; omega,by simp only; omega,by simp only; omega,ho2⟩)
 rintro _ ⟨⟨i,p,out⟩,rfl,hp1,hp2,ho1,ho2⟩
 simp only at hp1 hp2 ho1 ho2
 refine bj (oz (fun n (s:Int × List Int)=>(s.1=0→n=s.2.length+1)∧1≤s.2.length∧s.2.length≤4∧∀x ∈ s.2,0≤x∧x≤3) (fun s=>s.2.length≤4) (out.length+1) _ fu (by omega) ⟨fun _=>rfl,by simp only; omega,by simp only; omega,ho2⟩ ?_) ?_
 ·rintro n ⟨c,out⟩ ⟨hI1,hI0,hI2,hI3⟩
  simp only at hI0 hI1 hI2 hI3
  unfold mm
  refine eh (fun hc=>?_) fun _=>bA (.inr ⟨_,rfl,hI2⟩)
  have hc:c=0:=by simpa using hc
  have hn:=hI1 hc
  subst hc
  refine bj (sD (fun q (s:Int)=>(q:Int)≤s∧s≤4 * q) out _ ⟨by simp,by simp⟩ ?_) ?_
  ·intro q x s hx ⟨hJ1,hJ2⟩
   have hi:=(List.getElem?_eq_some_iff.1 hx).1
   have hxm:=hI3 x (List.mem_of_getElem? hx)
   show So (some (Lo.cont (i64 (i64 (s+x)+1)))) _
   rw [aR (n:=s+x) (by omega) (by omega),aR (by omega) (by omega)]
   exact bA ⟨_,rfl,by omega,by omega⟩
  rintro _ ⟨s,rfl,ED,Ef⟩
  refine bj (P:=fun (o:Int × List Int)=>(o.1=0→o.2.length+1≤out.length)∧1≤o.2.length∧o.2.length≤4∧∀x ∈ o.2,0≤x∧x≤3) (eh (fun hc=>?_) fun hc=>bA ⟨fun h=>?_,hI0,hI2,hI3⟩) ?_
  ·have hc:=of_decide_eq_true hc
   have h2:sl out 0 (i64 ((out.length:Int) - 1))=some (out.take (out.length - 1)):=by
    rw [aR (by omega) (by omega)]
    have:=rp (xs:=out) (i:=out.length - 1) (by omega)
    rwa [show ((out.length - 1:Nat):Int)=(out.length:Int) - 1 from by omega] at this
   rw [h2]
   exact bA ⟨fun _=>by simp only [List.length_take]; omega,by simp only [List.length_take]; omega,by simp only [List.length_take]; omega,fun x hx=>hI3 x (List.mem_of_mem_take hx)⟩
  ·simp only at h; omega
  ·rintro ⟨c2,o2⟩ ⟨h1,h2,h3,h4⟩
   simp only at h1 h2 h3 h4
   by_cases hz:c2=0
   ·exact bA (.inl ⟨_,o2.length+1,rfl,by have:=h1 hz; omega,fun _=>rfl,h2,h3,h4⟩)
   ·exact bA (.inl ⟨_,0,rfl,by omega,fun h=>absurd h hz,h2,h3,h4⟩)
 rintro _ ⟨⟨c,sz⟩,rfl,hsz⟩
 simp only at hsz
 refine bj (m3 _ _ (by simp) hb (by simp only; omega) (by unfold PM; simp only; omega)) fun q ⟨hq,hqm⟩=>?_
 simp only at hq
 have hqb:0≤q.1∧q.1≤4:=by simp at hqm; omega
 refine bj (oz (fun n (s:Int × Int × List Rule)=>n≤4∧s.1=n∧r.p≤s.2.1∧s.2.1≤r.p+11+400 * (4 - n)∧s.2.2.length+n=q.1.toNat∧∀x ∈ s.2.2,th x) (fun s=>r.p≤s.2.1∧s.2.1≤r.p+3000∧s.2.2.length≤4∧∀x ∈ s.2.2,th x) q.1.toNat _ fu (by omega) ⟨by omega,by simp only; omega,by simp only; omega,by simp only; omega,by simp,by simp⟩ ?_) ?_
 ·rintro n ⟨i,p,out⟩ ⟨hn,hI1,hI2,hI3,hI4,hI5⟩
  simp only at hI1 hI2 hI3 hI4 hI5
  unfold mv
  refine eh (fun hc=>?_) fun hc=>bA (.inr ⟨_,rfl,by simp only; omega,by simp only; omega,by simp only [decide_eq_true_eq] at hc; simp only; omega,hI5⟩)
  have hc:=of_decide_eq_true hc
  refine bj (D2 _ _ fu hf' (by simp only; omega) hb (by simp only; omega) (by unfold PM; simp only; omega)) fun a ⟨ha,ha1,ha2⟩=>?_
  simp only at ha1 ha2
  refine bj (oH (P:=fun (o:List Rule)=>o.length+(n - 1)=q.1.toNat∧∀x ∈ o,th x) (by simp; omega) ⟨by simp; omega,fun x hx=>?_⟩) fun o ⟨ho1,ho2⟩=>?_
  ·rcases List.mem_append.1 hx with h | h
   ·exact hI5 x h
   ·simp at h; subst h; exact ha
  rw [aR (by omega) (by omega)]
  exact bA (.inl ⟨_,n - 1,rfl,by omega,by omega,by simp only; omega,by simp only; omega,by simp only; omega,by simp only; omega,ho2⟩)
 rintro _ ⟨⟨i,p,rules⟩,rfl,h1,h2,h3,h4⟩
 simp only at h1 h2 h3 h4
 exact bA ⟨⟨by simp only [hL]; omega,by simp only; omega,h4⟩,hsz,h3,h1,h2⟩
theorem Dj (m:Model) (h:fD m):p8 m=some m:=by
 have hz:∀xs:List Int,hL xs→app [] xs=some xs:=fun xs hx=>by unfold hL at hx; rw [bR (by simp; omega)]; rfl
 obtain ⟨h1,h2,h3⟩:=h
 unfold p8
 rw [hz _ h1,Option.bind_some]
 rw [iI (fun x=>x) m.rules ?_]
 ·simp
 intro i x out hx hi
 obtain ⟨k1,k2,k3,k4⟩:=h3 x (List.mem_of_getElem? hx)
 have hl:=(List.getElem?_eq_some_iff.1 hx).1
 show (app [] x.vars).bind _=_
 rw [hz _ k1,Option.bind_some,hz _ k2,Option.bind_some]
 rw [iI (fun x=>x) x.rows ?_]
 ·rw [Option.bind_some]
  simp only [List.map_id']
  rw [bR (by simp; omega)]
  rfl
 intro j y out2 hy hj
 have hl2:=(List.getElem?_eq_some_iff.1 hy).1
 show (app [] y).bind _=_
 rw [hz _ (k4 y (List.mem_of_getElem? hy)),Option.bind_some,bR (by simp; omega)]
 rfl
theorem Bq (r:Rd) (m:Model) (fu:Nat) (hf:FU≤fu) (hm:fD m) (hb:r.b.length≤2000) (h0:0≤r.p) (h1:r.p+1000≤PM):mT fu r m=some ():=by
 unfold PM at h1
 unfold FU at hf
 refine AB ?_
 unfold mT
 rw [Dj m hm]
 have hm0:=hm
 obtain ⟨hm1,hm2,hm3⟩:=hm
 have hset:∀(y:Rule),th y→CA (m.rules.set (Int.toNat 0) y):=fun y hy=>⟨by rw [List.length_set]; exact hm2,fun x hx=>by
  rcases List.mem_or_eq_of_mem_set hx with h | h
  ·exact hm3 x h
  ·subst h; exact hy⟩
 refine bj (P:=fun x=>x=m) (bA rfl) fun x hx=>?_
 subst hx
 refine bj (r8 _ _ hb h0 (by unfold PM; omega)) fun k ⟨hk,hk0,hk1⟩=>?_
 have hend:∀p:Int,p≤r.p+3→r.p≤p→So (fO (fD x∧nK r.p p)) fun _=>True:=fun p h1 h2=>jI ⟨hm0,h2,by omega⟩
 refine eh (fun _=>eh (fun hl=>?_) fun _=>hend _ (by omega) (by omega)) fun _=>?_
 ·have hl:=of_decide_eq_true hl
  refine bj (m3 _ _ (by simp) hb (by simp only; omega) (by unfold PM; simp only; omega)) fun a ⟨ha,ham⟩=>?_
  simp only at ha
  refine bj (lx (P:=fun _=>True) (by omega) (by omega) fun _ _=>trivial) fun z _=>?_
  exact jI ⟨⟨by unfold hL at hm1 ⊢; rw [List.length_set]; exact hm1,hm2,hm3⟩,by unfold nK; omega⟩
 refine eh (fun _=>?_) fun _=>eh (fun _=>eh (fun hl=>?_) fun _=>hend _ (by omega) (by omega)) fun _=>eh (fun _=>?_) fun _=>eh (fun _=>eh (fun hl=>?_) fun _=>hend _ (by omega) (by omega)) fun _=>eh (fun _=>?_) fun _=>hend _ (by omega) (by omega)
 ·refine bj (oz (fun n (s:List Int)=>s.length≤1000∧n+s.length=1000) (fun s=>s.length≤1000) (1000 - x.sizes.length) _ fu (by omega) ⟨hm1,by unfold hL at hm1; omega⟩ ?_) ?_
  ·intro n s ⟨hI1,hI2⟩
   unfold lE
   refine eh (fun hc=>?_) fun _=>bA (.inr ⟨_,rfl,hI1⟩)
   have hc:=of_decide_eq_true hc
   refine bj (oH (P:=fun (o:List Int)=>o.length=s.length+1) (by simp; omega) (by simp)) fun o ho=>bA (.inl ⟨_,n - 1,rfl,by omega,by omega,by omega⟩)
  ·rintro _ ⟨s,rfl,hs⟩
   exact jI ⟨⟨hs,hm2,hm3⟩,by unfold nK; omega⟩
 ·have hl:=of_decide_eq_true hl
  refine bj (m3 _ _ (by simp) hb (by simp only; omega) (by unfold PM; simp only; omega)) fun a ⟨ha,ham⟩=>?_
  simp only at ha
  refine bj (lx (P:=fun z=>th z) (by omega) (by omega) fun z hz=>hm3 z hz) fun z hz=>?_
  exact jI ⟨⟨hm1,hset _ ⟨hz.1,hz.2.1,hz.2.2⟩⟩,by unfold nK; omega⟩
 ·refine bj (P:=fun b=>b=true→∃ z,idx x.rules (i64 ((x.rules.length:Int) - 1))=some z∧0<z.vars.length) (eh (fun hl=>?_) fun _=>bA nofun) fun b hbb=>eh (fun hl=>?_) fun _=>hend _ (by omega) (by omega)
  ·have hl:=of_decide_eq_true hl
   obtain ⟨z,hz,_⟩:So (idx x.rules (i64 ((x.rules.length:Int) - 1))) fun _=>True:=by
    rw [aR (by omega) (by omega)]
    exact lx (by omega) (by omega) fun _ _=>trivial
   rw [hz]
   refine bA fun h=>⟨z,rfl,?_⟩
   have:=of_decide_eq_true h
   omega
  ·obtain ⟨z,hz,hzl⟩:=hbb hl
   rw [hz]
   refine bj (bA (P:=fun y=>y=z) rfl) fun y hy=>?_
   subst hy
   refine bj (m3 _ _ (by simp) hb (by simp only; omega) (by unfold PM; simp only; omega)) fun a ⟨ha,ham⟩=>?_
   simp only at ha
   refine bj (lx (P:=fun _=>True) (by omega) (by omega) fun _ _=>trivial) fun z' _=>?_
   have hzm:=hm3 y (List.mem_of_getElem? (ib hz).2.1)
   refine jI ⟨⟨hm1,by rw [List.length_set]; exact hm2,fun q hq=>?_⟩,by unfold nK; omega⟩
   rcases List.mem_or_eq_of_mem_set hq with h | h
   ·exact hm3 q h
   ·subst h; exact ⟨by have:=hzm.1; unfold hL at this ⊢; rw [List.length_set]; exact this,hzm.2⟩
 ·have hl:=of_decide_eq_true hl
  refine bj (m3 _ _ (by simp) hb (by simp only; omega) (by unfold PM; simp only; omega)) fun a ⟨ha,ham⟩=>?_
  simp only at ha
  refine bj (lx (P:=fun z=>th z) (by omega) (by omega) fun z hz=>hm3 z hz) fun z hz=>?_
  exact jI ⟨⟨hm1,hset _ ⟨hz.1,hz.2.1,hz.2.2⟩⟩,by unfold nK; omega⟩
 ·exact jI ⟨⟨by simp [hL],by simp,by simp⟩,by unfold nK; omega⟩
theorem s0:fD ⟨[],[]⟩:=⟨by simp [hL],by simp,by simp⟩
theorem xH (code:List UInt8) (fu:Nat) (hf:FU≤fu):ie fu code=some ():=by
 refine AB ?_
 unfold ie
 refine bj (DC code) fun r ⟨hb,hp⟩=>?_
 refine bj (Cn r fu hf hb (by omega) (by unfold PM; omega)) fun m ⟨hm,_,_,hp1,hp2⟩=>?_
 exact Ay (m.1,m.2) (Bq _ _ fu hf hm hb (by simp only; omega) (by unfold PM; simp only; omega)) ⟨hm,by unfold nK; simp only; omega⟩ fun o ⟨ho,hr1,hr2⟩=>jI ho
theorem vk {α:Type} {xs:List α} {i:Nat} {x:α} (h:xs[i]?=some x):idx xs (i:Int)=some x:=by rw [cN,h]
def CR (r:Rule):Prop:=r.vars.length≤1048576∧r.coefs.length≤1048576∧r.rows.length≤1048576∧∀x ∈ r.rows,x.length≤1048576
def kS (m:Model):Prop:=m.sizes.length≤1048576∧m.rules.length≤1048576∧∀r ∈ m.rules,CR r
theorem lq (n lo hi:Int):cX n lo hi=some (decide (lo≤n) && decide (n≤hi)):=rfl
theorem tx (s:List Int) (v:Int):cV s v=some (s.contains v):=by
 obtain ⟨j,h1,h2⟩:=kB (q:=fun x=>v == x) (b:=eE v) s (fun i x _=>by show (if _ then _ else _)=_; cases v == x <;> rfl)
 unfold cV iu
 rw [h1]
 have hc:s.contains v=s.any (fun x=>v == x):=by
  rw [Bool.eq_iff_iff]; simp
 rw [hc]
 cases j with
 | nx u=>simp only at h2; rw [h2]; rfl
 | out t=>simp only at h2; rw [h2.2]; simp [h2.1]
theorem pw (s:List Int) (p:Int→Option Bool) (q:Int→Bool) (hp:∀x ∈ s,p x=some (q x)):cE s p=some (s.any q):=by
 obtain ⟨j,h1,h2⟩:=kB (q:=q) (b:=fC p) s (fun i x hx=>by show (p x).bind _=_; rw [hp x (List.mem_of_getElem? hx)]; show (if _ then _ else _)=_; cases q x <;> rfl)
 unfold cE gV
 rw [h1]
 cases j with
 | nx u=>simp only at h2; rw [h2]; rfl
 | out t=>simp only at h2; rw [h2.2]; simp [h2.1]
theorem oi (s:List (List Int)) (p:List Int→Option Bool) (q:List Int→Bool) (hp:∀x ∈ s,p x=some (q x)):cT s p=some (s.any q):=by
 obtain ⟨j,h1,h2⟩:=kB (q:=q) (b:=fg p) s (fun i x hx=>by show (p x).bind _=_; rw [hp x (List.mem_of_getElem? hx)]; show (if _ then _ else _)=_; cases q x <;> rfl)
 unfold cT gy
 rw [h1]
 cases j with
 | nx u=>simp only at h2; rw [h2]; rfl
 | out t=>simp only at h2; rw [h2.2]; simp [h2.1]
theorem nS (s:List Rule) (p:Rule→Option Bool) (q:Rule→Bool) (hp:∀x ∈ s,p x=some (q x)):cm s p=some (s.any q):=by
 obtain ⟨j,h1,h2⟩:=kB (q:=q) (b:=dV p) s (fun i x hx=>by show (p x).bind _=_; rw [hp x (List.mem_of_getElem? hx)]; show (if _ then _ else _)=_; cases q x <;> rfl)
 unfold cm eK
 rw [h1]
 cases j with
 | nx u=>simp only at h2; rw [h2]; rfl
 | out t=>simp only at h2; rw [h2.2]; simp [h2.1]
def pk (n:Nat) (xs:List Int):Nat→Int→Bool:=fun i x=>decide (0≤x) && decide (x<(n:Int)) && !(xs.take i).contains x
def cw (n:Nat) (xs:List Int):Bool:=fM (pk n xs) xs 0
theorem BK (xs:List Int) (v:Int):(!xs.contains v)=xs.all (fun y=>!(y == v)):=by
 rw [Bool.eq_iff_iff]
 simp only [Bool.not_eq_true',List.all_eq_true,beq_eq_false_iff_ne,ne_eq]
 constructor
 ·intro h y hy e; subst e; simp [hy] at h
 ·intro h; simp; intro hv; exact h v hv rfl
theorem tk {τ:Type} (xs:List Int) (v:Int) (t:τ) (i:Nat) (hi:i≤xs.length) {b:Nat→Unit→Option (Lo Unit τ)}
  (hb:∀k,k<i→b k ()=(idx xs (k:Int)).bind fun x=>if (x == v) then (some (.out t)) else (some (.cont ()))) :
  cI b i 0 ()=some (if !(xs.take i).contains v then .nx () else .out t):=by
 obtain ⟨j,hj,hQ⟩:=sK (b:=b) (fun k _=>(xs.take k).all (fun y=>!(y == v))=true) (fun j=>j=if (xs.take i).all (fun y=>!(y == v)) then .nx () else .out t) i 0
  (by intro s h; rw [Nat.zero_add] at h; rw [h]; rfl)
  (by
   intro k s _ hk hI
   have hk':k<xs.length:=by omega
   rw [hb k (by omega),iT hk',Option.bind_some]
   cases hx:xs[k] == v with
   | true =>
    refine ⟨.out t,rfl,?_⟩
    have:(xs.take i).all (fun y=>!(y == v))=false:=by
     rw [List.all_eq_false]
     exact ⟨xs[k],List.mem_iff_getElem.2 ⟨k,by simp; omega,by simp⟩,by simpa using hx⟩
    rw [this]; rfl
   | false =>
    refine ⟨.cont (),rfl,?_⟩
    rw [List.take_add_one,List.getElem?_eq_getElem hk',List.all_append,hI]
    simp [hx]) () rfl
 rw [hj,hQ,BK]
theorem EZ (m:Model) (xs:List Int) (hx:xs.length≤1048576):qc m xs=some (cw m.sizes.length xs && decide ((xs.length:Int) ≥ 1)):=by
 unfold qc
 rw [jC (pk m.sizes.length xs) false xs]
 ·unfold cw
  cases fM (pk m.sizes.length xs) xs 0 <;> rfl
 ·intro i x hix
  have hi:=(List.getElem?_eq_some_iff.1 hix).1
  show (if _ then _ else _)=_
  rw [mH (by omega),Option.bind_some,tk xs x (.out false) i (by omega) fun k hk=>rfl]
  unfold pk
  have e1:decide (x<0)=!decide (0≤x):=by rw [← decide_not,decide_eq_decide]; omega
  have e2:decide (x ≥ (m.sizes.length:Int))=!decide (x<(m.sizes.length:Int)):=by rw [← decide_not,decide_eq_decide]; omega
  rw [e1,e2]
  cases decide (0≤x) <;> cases decide (x<(m.sizes.length:Int)) <;> cases (xs.take i).contains x <;> rfl
theorem EU (r:Rule) (n:Nat) (hn:n≤ML):aw (kQ r (n:Int)) r.vars 0 ()=some (if cw n r.vars then .nx () else .out false):=by
 refine jC (pk n r.vars) false r.vars ?_
 intro i x hxi
 have hi:i<r.vars.length:=(List.getElem?_eq_some_iff.1 hxi).1
 show ((cX x 0 (i64 ((n:Int) - 1))).bind _:Option (Lo Unit Bool))=_
 have hn':(n:Int)≤9223372036854775807:=by unfold ML at hn; omega
 rw [aR (by omega) (by omega),lq,Option.bind_some,rp (by omega),Option.bind_some,tx]
 unfold pk
 have e:decide (x≤(n:Int) - 1)=decide (x<(n:Int)):=by rw [decide_eq_decide]; omega
 rw [e]
 cases decide (0≤x) <;> cases decide (x<(n:Int)) <;> cases (r.vars.take i).contains x <;> rfl
def jf (x:Int):Bool:=decide (-9≤x) && decide (x≤9) && !(x == 0)
theorem Cq (r:Rule):mU r=some (r.coefs.all jf && ((((r.coefs.length:Int) == (r.vars.length:Int)) && decide (r.bound ≥ -1000)) && decide (r.bound≤1000))):=by
 unfold mU
 rw [mA jf false r.coefs]
 ·cases r.coefs.all jf <;> rfl
 ·intro i x hix
  show (if _ then _ else _)=_
  unfold jf
  have e1:decide (x < -9)=!decide (-9≤x):=by rw [← decide_not,decide_eq_decide]; omega
  have e2:decide (x > 9)=!decide (x≤9):=by rw [← decide_not,decide_eq_decide]; omega
  rw [e1,e2]
  cases decide (-9≤x) <;> cases decide (x≤9) <;> cases x == 0 <;> rfl
def vR (n:Nat) (row:List Int):Bool:=((row.length:Int) == (n:Int)) && row.all (fun x=>decide (0≤x) && decide (x≤3))
theorem BO {τ α:Type} (q:α→Bool) (xs:List α) (t:τ) {b:Nat→Unit→Option (Lo Unit τ)}
  (hb:∀k x,xs[k]?=some x→b k ()=some (if q x then .cont () else .out t)):cI b xs.length 0 ()=some (if xs.all q then .nx () else .out t):=by
 rw [count_range b xs.length 0 0]
 have h1:∀(ys:List α) (k j:Nat),xs.drop k=ys→aw (fun _ k s=>b k s) (List.range' k ys.length) j ()=aw (fun k _ s=>b k s) ys k ():=by
  intro ys
  induction ys with
  | nil=>intro k j _; rfl
  | cons y ys ih =>
   intro k j hd
   show aw _ (List.range' k (ys.length+1)) j ()=_
   rw [List.range'_succ]
   show (b k ()).bind _=(b k ()).bind _
   congr 1
   funext o
   cases o with
   | cont s=>exact ih (k+1) (j+1) (aL hd)
   | brk s=>rfl
   | out t=>rfl
 rw [h1 xs 0 0 rfl,mA q t xs hb]
theorem D6 (r:Rule) (hel:∀x ∈ r.rows,x.length≤1048576):ov r=some (r.rows.all (vR r.vars.length) && decide ((r.rows.length:Int)≤8)):=by
 unfold ov
 rw [mA (vR r.vars.length) false r.rows]
 ·cases r.rows.all (vR r.vars.length) <;> rfl
 ·intro i row hix
  have hl:=hel row (List.mem_of_getElem? hix)
  show (if _ then _ else _)=_
  rw [mH (by omega),Option.bind_some,BO (fun x=>decide (0≤x) && decide (x≤3)) row (.out false)]
  ·unfold vR bne
   cases (row.length:Int) == (r.vars.length:Int) <;> cases row.all (fun x=>decide (0≤x) && decide (x≤3)) <;> rfl
  ·intro k x hx
   show (idx row (k:Int)).bind _=_
   rw [vk hx,Option.bind_some]
   have e1:decide (x<0)=!decide (0≤x):=by rw [← decide_not,decide_eq_decide]; omega
   have e2:decide (x > 3)=!decide (x≤3):=by rw [← decide_not,decide_eq_decide]; omega
   rw [e1,e2]
   cases decide (0≤x) <;> cases decide (x≤3) <;> rfl
def iE (n:Nat) (r:Rule):Bool:=
 if ((!(cw n r.vars && decide ((r.vars.length:Int) ≥ 1))) || ((r.kind != 1) && (((r.coefs.length:Int) != 0) || (r.bound != 0)))) || ((r.kind != 3) && ((r.rows.length:Int) != 0)) then false
 else if r.kind == 1 then r.coefs.all jf && ((((r.coefs.length:Int) == (r.vars.length:Int)) && decide (r.bound ≥ -1000)) && decide (r.bound≤1000))
 else if r.kind == 2 then true
 else if r.kind == 3 then r.rows.all (vR r.vars.length) && decide ((r.rows.length:Int)≤8)
 else if r.kind == 4 then ((r.vars.length:Int) == 2) else false
theorem Fe (m:Model) (r:Rule) (h:CR r):od m r=some (iE m.sizes.length r):=by
 unfold od iE
 rw [EZ m r.vars h.1,Option.bind_some,Cq r,D6 r h.2.2.2]
 simp only [Option.bind_some,apply_ite some]
theorem DP (xs:List Int):cE xs gY=some (!xs.all jf):=by
 rw [← kA]
 refine pw xs _ (fun x=>!jf x) fun x _=>?_
 unfold gY jf
 rw [lq]
 cases hx:x == 0 <;> cases h1:decide (-9≤x) <;> cases h2:decide (x≤9) <;> simp_all
theorem EC (r:Rule):cT r.rows (gX r)=some (!r.rows.all (vR r.vars.length)):=by
 rw [← kA]
 refine oi r.rows _ (fun x=>!vR r.vars.length x) fun row _=>?_
 unfold gX vR
 have e:cE row gJ=some (!row.all (fun x=>decide (0≤x) && decide (x≤3))):=by
  rw [← kA]
  exact pw row _ _ fun x _=>rfl
 rw [e]
 unfold bne
 cases (row.length:Int) == (r.vars.length:Int) <;> cases row.all (fun x=>decide (0≤x) && decide (x≤3)) <;> rfl
theorem E1 (r:Rule) (n:Nat) (hn:n≤ML):lO r (n:Int)=some (iE n r):=by
 unfold lO iE
 rw [EU r n hn]
 cases hv:cw n r.vars with
 | false=>rfl
 | true =>
  show (if _ then _ else _)=_
  have e0:((r.vars.length:Int) == 0)=!decide ((r.vars.length:Int) ≥ 1):=by
   rw [Bool.eq_iff_iff,beq_iff_eq,Bool.not_eq_true',decide_eq_false_iff_not]; omega
  have e1:decide ((r.coefs.length:Int) > 0)=((r.coefs.length:Int) != 0):=by
   rw [Bool.eq_iff_iff,decide_eq_true_eq,bne_iff_ne]; omega
  have e2:decide ((r.rows.length:Int) > 0)=((r.rows.length:Int) != 0):=by
   rw [Bool.eq_iff_iff,decide_eq_true_eq,bne_iff_ne]; omega
  rw [e0,e1,e2,Bool.true_and]
  generalize (((!decide ((r.vars.length:Int) ≥ 1)) || ((r.kind != 1) && (((r.coefs.length:Int) != 0) || (r.bound != 0)))) || ((r.kind != 3) && ((r.rows.length:Int) != 0)))=c
  cases c with
  | true=>rfl
  | false =>
   rw [if_neg Bool.false_ne_true,if_neg Bool.false_ne_true,DP,EC,lq]
   cases hk1:r.kind == 1 with
   | true =>
    rw [if_pos rfl,if_pos rfl]
    have e3:decide (-1000≤r.bound)=decide (r.bound ≥ -1000):=rfl
    rw [e3]
    cases (r.coefs.length:Int) == (r.vars.length:Int) <;> cases decide (r.bound ≥ -1000) <;> cases decide (r.bound≤1000) <;> cases r.coefs.all jf <;> rfl
   | false =>
    rw [if_neg Bool.false_ne_true,if_neg Bool.false_ne_true]
    cases hk2:r.kind == 2 with
    | true =>
     have hk:r.kind=2:=by simpa using hk2
     rw [hk]; rfl
    | false =>
     rw [if_neg Bool.false_ne_true]
     cases hk3:r.kind == 3 with
     | true =>
      rw [if_pos rfl,if_pos rfl]
      cases decide ((r.rows.length:Int)≤8) <;> cases r.rows.all (vR r.vars.length) <;> rfl
     | false =>
      rw [if_neg Bool.false_ne_true,if_neg Bool.false_ne_true]
      cases hk4:r.kind == 4 with
      | true=>rfl
      | false=>rfl
def fI (x:Int):Bool:=decide (0≤x) && decide (x≤3)
def iH (xs:List Int):Int:=xs.foldl (fun n x=>n+x+1) 0
theorem jJ (xs:List Int) (i:Nat) (h:i<xs.length):iH (xs.take (i+1))=iH (xs.take i)+xs[i]+1:=by
 unfold iH
 rw [List.take_add_one,List.getElem?_eq_getElem h,List.foldl_append]
 rfl
theorem yf (q:Int→Bool) (xs:List Int) (i:Nat) (h:i<xs.length):(xs.take (i+1)).all q=((xs.take i).all q && q xs[i]):=by
 rw [List.take_add_one,List.getElem?_eq_getElem h,List.all_append]
 simp
theorem all_false (q:Int→Bool) (xs:List Int) (i:Nat) (h:i<xs.length) (hq:q xs[i]=false):xs.all q=false:=by
 rw [List.all_eq_false]
 exact ⟨xs[i],List.getElem_mem h,by simp [hq]⟩
theorem gG {x:Int}:fI x=true ↔ 0≤x∧x≤3:=by unfold fI; simp
theorem pg (xs:List Int) (h:xs.all fI=true):0≤iH xs∧iH xs≤4 * xs.length:=by
 have:∀i,i≤xs.length→0≤iH (xs.take i)∧iH (xs.take i)≤4 * i:=by
  intro i
  induction i with
  | zero=>intro _; simp [iH]
  | succ i ih =>
   intro hi
   have hb:=gG.1 (List.all_eq_true.1 h xs[i] (List.getElem_mem (by omega)))
   have:=ih (by omega)
   rw [jJ xs i (by omega)]
   omega
 have h2:=this xs.length (Nat.le_refl _)
 rwa [List.take_length] at h2
def aX (m:Model):Bool:=
 if (((decide ((m.sizes.length:Int)<1)) || (decide ((m.sizes.length:Int) > 5))) || (decide (iH m.sizes > 12))) || (decide ((m.rules.length:Int) > 8)) then false
 else m.sizes.all fI && m.rules.all (iE m.sizes.length)
theorem D4 (m:Model) (fu:Nat) (hf:FU≤fu):∃ j,bx (gF m) fu (0,0)=some j ∧
  (match j with | .nx s=>m.sizes.length≤5→s.1=iH m.sizes∧m.sizes.all fI=true | .out t=>t=false∧m.sizes.all fI=false):=by
 refine iN (b:=gF m) (fun n s=>n≤5∧∃ i:Nat,n=5 - i∧i≤m.sizes.length∧i≤5∧s.2=(i:Int)∧s.1=iH (m.sizes.take i)∧(m.sizes.take i).all fI=true∧0≤s.1∧s.1≤4 * i)
  (fun j=>match j with | .nx s=>m.sizes.length≤5→s.1=iH m.sizes∧m.sizes.all fI=true | .out t=>t=false∧m.sizes.all fI=false) ?_ fu 5 (0,0) ⟨by omega,0,by omega,by omega,by omega,rfl,rfl,rfl,by simp,by simp⟩ (by unfold FU at hf; omega)
 rintro n ⟨k,w⟩ ⟨hn5,i,rfl,hi,hi5,hw,hk,ha,hk0,hk1⟩
 simp only at hw hk hk0 hk1
 subst hw
 by_cases hlt:i<m.sizes.length∧i<5
 ·have hbody:gF m (k,(i:Int))=(if ((decide (m.sizes[i]<0)) || (decide (m.sizes[i] > 3))) then (some (.out false)) else (some (.cont (i64 ((i64 (k+m.sizes[i]))+1),i64 ((i:Int)+1))))):=by
   show (if _ then _ else _)=_
   rw [if_pos (by simp; omega),iT hlt.1]
   rfl
  cases hq:fI m.sizes[i] with
  | true =>
   have hb:=gG.1 hq
   refine ⟨.cont (k+m.sizes[i]+1,((i+1:Nat):Int)),?_,_,?_,by omega,i+1,rfl,hlt.1,hlt.2,rfl,?_,?_,?_,?_⟩
   ·rw [hbody,if_neg (by simp; omega),aR (n:=(i:Int)+1) (by omega) (by omega),aR (n:=k+m.sizes[i]) (by omega) (by omega),aR (by omega) (by omega)]
    rfl
   ·omega
   ·rw [jJ _ _ hlt.1,hk]
   ·rw [yf _ _ _ hlt.1,ha,hq]; rfl
   ·show 0≤k+m.sizes[i]+1; omega
   ·show k+m.sizes[i]+1≤4 * ((i+1:Nat):Int); omega
  | false =>
   refine ⟨.out false,?_,rfl,all_false _ _ _ hlt.1 hq⟩
   have hnb:¬ (0≤m.sizes[i]∧m.sizes[i]≤3):=fun h=>by rw [gG.2 h] at hq; cases hq
   rw [hbody,if_pos (by simp; omega)]
 ·refine ⟨.brk (k,(i:Int)),?_,fun h5=>?_⟩
  ·show (if _ then _ else _)=_
   rw [if_neg (by simp; omega)]
  ·obtain rfl:i=m.sizes.length:=by omega
   rw [List.take_length] at hk ha
   exact ⟨hk,ha⟩
theorem Dv (m:Model) (h:kS m) (fu:Nat) (hf:FU≤fu):ld fu m=some (aX m):=by
 unfold ld aX
 obtain ⟨j,hj,hQ⟩:=D4 m fu hf
 rw [hj,Option.bind_some]
 cases j with
 | out t =>
  simp only at hQ
  obtain ⟨rfl,hf⟩:=hQ
  rw [hf,Bool.false_and,ite_self]
 | nx s =>
  obtain ⟨n,i⟩:=s
  by_cases h5:m.sizes.length≤5
  ·obtain ⟨hn,ha⟩:=hQ h5
   simp only at hn
   subst hn
   rw [ha,Bool.true_and]
   have h2:aw (kp m) m.rules 0 ()=some (if m.rules.all (iE m.sizes.length) then .nx () else .out false):=by
    refine mA _ _ _ fun i r hr=>?_
    show (od m r).bind _=_
    rw [Fe m r (h.2.2 r (List.mem_of_getElem? hr)),Option.bind_some]
    cases iE m.sizes.length r <;> rfl
   simp only [h2,Option.bind_some]
   rw [apply_ite some]
   congr 1
   cases m.rules.all (iE m.sizes.length) <;> rfl
  ·have e:((((decide ((m.sizes.length:Int)<1)) || (decide ((m.sizes.length:Int) > 5))) || (decide (iH m.sizes > 12))) || (decide ((m.rules.length:Int) > 8)))=true:=by simp; omega
   have e':((((decide ((m.sizes.length:Int)<1)) || (decide ((m.sizes.length:Int) > 5))) || (decide (n > 12))) || (decide ((m.rules.length:Int) > 8)))=true:=by simp; omega
   simp only [e,e',if_true]
theorem DL (m:Model) (h5:m.sizes.length≤5):∃ j,aw gI m.sizes 0 0=some j ∧
  (match j with | .nx s=>s=iH m.sizes∧m.sizes.all fI=true | .out t=>t=false∧m.sizes.all fI=false):=by
 refine qA m.sizes (fun i c=>c=iH (m.sizes.take i)∧(m.sizes.take i).all fI=true∧0≤c∧c≤4 * i)
  (fun j=>match j with | .nx s=>s=iH m.sizes∧m.sizes.all fI=true | .out t=>t=false∧m.sizes.all fI=false) ?_ ?_ 0 ⟨rfl,rfl,by simp,by simp⟩
 ·rintro c ⟨hc,ha,_,_⟩
  rw [List.take_length] at hc ha
  exact ⟨hc,ha⟩
 ·rintro i x c hx ⟨hc,ha,h0,h1⟩
  have hi:=(List.getElem?_eq_some_iff.1 hx).1
  obtain rfl:m.sizes[i]=x:=(List.getElem?_eq_some_iff.1 hx).2
  cases hq:fI m.sizes[i] with
  | true =>
   have hb:=gG.1 hq
   refine ⟨.cont (c+m.sizes[i]+1),?_,by rw [jJ _ _ hi,hc],by rw [yf _ _ _ hi,ha,hq]; rfl,by omega,by omega⟩
   simp only [gI,lq,Option.bind_some]
   have:(decide (0≤m.sizes[i]) && decide (m.sizes[i]≤3))=true:=hq
   rw [this,if_neg (by simp),aR (n:=m.sizes[i]+1) (by omega) (by omega),aR (by omega) (by omega)]
   rw [Int.add_assoc]
  | false =>
   refine ⟨.out false,?_,rfl,all_false _ _ _ hi hq⟩
   simp only [gI,lq,Option.bind_some]
   have:(decide (0≤m.sizes[i]) && decide (m.sizes[i]≤3))=false:=hq
   rw [this]; rfl
theorem uc (m:Model) (h:kS m):gQ m=some (aX m):=by
 unfold gQ aX
 rw [lq,Option.bind_some]
 by_cases h1:1≤m.sizes.length∧m.sizes.length≤5∧m.rules.length≤8
 ·have e1:((!(decide (1≤(m.sizes.length:Int)) && decide ((m.sizes.length:Int)≤5))) || decide ((m.rules.length:Int) > 8))=false:=by
   rw [show decide (1≤(m.sizes.length:Int))=true from decide_eq_true (by omega),show decide ((m.sizes.length:Int)≤5)=true from decide_eq_true (by omega),show decide ((m.rules.length:Int) > 8)=false from decide_eq_false (by omega)]
   rfl
  rw [e1,if_neg Bool.false_ne_true]
  have e2:((((decide ((m.sizes.length:Int)<1)) || (decide ((m.sizes.length:Int) > 5))) || (decide (iH m.sizes > 12))) || (decide ((m.rules.length:Int) > 8)))=decide (iH m.sizes > 12):=by
   rw [show decide ((m.sizes.length:Int)<1)=false from decide_eq_false (by omega),show decide ((m.sizes.length:Int) > 5)=false from decide_eq_false (by omega),show decide ((m.rules.length:Int) > 8)=false from decide_eq_false (by omega)]
   simp
  rw [e2]
  obtain ⟨j,hj,hQ⟩:=DL m h1.2.1
  rw [hj,Option.bind_some]
  cases j with
  | out t =>
   simp only at hQ
   rw [hQ.1,hQ.2,Bool.false_and,ite_self]
  | nx c =>
   simp only at hQ
   obtain ⟨rfl,ha⟩:=hQ
   rw [ha,Bool.true_and]
   have e3:cm m.rules (gv m)=some (!m.rules.all (iE m.sizes.length)):=by
    rw [← kA]
    refine nS m.rules _ _ fun r hr=>?_
    unfold gv
    rw [E1 r _ (by have:=h1.2.1; unfold ML; omega)]
    rfl
   have e4:decide (iH m.sizes≤12)=!decide (iH m.sizes > 12):=by rw [← decide_not,decide_eq_decide]; omega
   simp only [e3,e4]
   cases decide (iH m.sizes > 12) <;> cases m.rules.all (iE m.sizes.length) <;> rfl
 ·have e1:((!(decide (1≤(m.sizes.length:Int)) && decide ((m.sizes.length:Int)≤5))) || decide ((m.rules.length:Int) > 8))=true:=by
   simp; omega
  have e2:((((decide ((m.sizes.length:Int)<1)) || (decide ((m.sizes.length:Int) > 5))) || (decide (iH m.sizes > 12))) || (decide ((m.rules.length:Int) > 8)))=true:=by
   simp; omega
  rw [e1,e2,if_pos rfl,if_pos rfl]
theorem bo {m:Model} (h:aX m=true):1≤m.sizes.length∧m.sizes.length≤5∧m.sizes.all fI=true∧m.rules.length≤8∧iH m.sizes≤12∧m.rules.all (iE m.sizes.length)=true:=by
 unfold aX at h
 split at h
 ·cases h
 ·rename_i hc
  simp at hc
  rw [Bool.and_eq_true] at h
  exact ⟨by omega,by omega,h.1,by omega,by omega,h.2⟩
theorem r5 (xs:List Int) (i:Nat) (h:xs.all fI=true):(xs.take i).all fI=true:=by
 rw [List.all_eq_true] at h ⊢
 exact fun x hx=>h x (List.mem_of_mem_take hx)
def bF (m:Model) (c:Nat) (v:Int):Int:=1+v+iH (m.sizes.take c)
theorem Ex (m:Model) (c:Nat) (v:Int) (hc:c≤m.sizes.length) (h5:m.sizes.length≤5) (ha:m.sizes.all fI=true) (hv:0≤v∧v≤3):lC m (c:Int) v=some (bF m c v):=by
 unfold lC
 rw [aR (n:=1+v) (by omega) (by omega),mH (by omega),Option.bind_some]
 have h:=jo (b:=pf m) (fun i=>1+v+iH (m.sizes.take i)) c 0 (by
  intro i _ hi
  have hil:i<m.sizes.length:=by omega
  have hb:=gG.1 (List.all_eq_true.1 ha m.sizes[i] (List.getElem_mem hil))
  have hg:=pg _ (r5 m.sizes i ha)
  have hl:(m.sizes.take i).length≤5:=by simp; omega
  show (idx m.sizes (i:Int)).bind _=_
  rw [iT hil,Option.bind_some,aR (n:=1+v+iH (m.sizes.take i)+m.sizes[i]) (by omega) (by omega),aR (by omega) (by omega),jJ _ _ hil]
  congr 2; omega)
 rw [Nat.zero_add] at h
 have e:1+v+iH (m.sizes.take 0)=1+v:=by simp [iH]
 rw [e] at h
 rw [h]; rfl
theorem Eh (m:Model) (c:Nat) (v:Int) (hc:c≤m.sizes.length) (h5:m.sizes.length≤5) (ha:m.sizes.all fI=true) (hv:0≤v∧v≤3):dz m (c:Int) v=some (bF m c v):=by
 unfold dz
 rw [rp hc,Option.bind_some,aR (n:=1+v) (by omega) (by omega)]
 have hal:=r5 m.sizes c ha
 have hl:(m.sizes.take c).length≤5:=by simp; omega
 unfold bF
 generalize m.sizes.take c=xs at *
 have h:=dT (b:=gn) (fun i=>1+v+iH (xs.take i)) xs (by
  intro i x hx
  have hi:=(List.getElem?_eq_some_iff.1 hx).1
  obtain rfl:xs[i]=x:=(List.getElem?_eq_some_iff.1 hx).2
  have hb:=gG.1 (List.all_eq_true.1 hal xs[i] (List.getElem_mem hi))
  have hg:=pg _ (r5 xs i hal)
  have hl2:(xs.take i).length≤5:=by simp; omega
  simp only [gn]
  rw [aR (n:=xs[i]+1) (by omega) (by omega),aR (by omega) (by omega),jJ _ _ hi]
  congr 2; omega)
 have e:1+v+iH (xs.take 0)=1+v:=by simp [iH]
 rw [e] at h
 rw [h]
 simp
theorem kG {m:Model} (ha:m.sizes.all fI=true) {i:Nat} (hi:i<m.sizes.length):0≤m.sizes[i]∧m.sizes[i]≤3:=gG.1 (List.all_eq_true.1 ha m.sizes[i] (List.getElem_mem hi))
theorem nF {m:Model} (h:aX m=true) {c:Nat} (hc:c<m.sizes.length) {v:Int} (hv:0≤v∧v≤m.sizes[c]):1≤bF m c v∧bF m c v≤iH m.sizes∧bF m c v≤12:=by
 obtain ⟨h1,h5,ha,_,hg,_⟩:=bo h
 have b1:=pg _ (r5 m.sizes c ha)
 have mono2:∀k,c+1+k≤m.sizes.length→iH (m.sizes.take (c+1))≤iH (m.sizes.take (c+1+k)):=by
  intro k
  induction k with
  | zero=>intro _; exact Int.le_refl _
  | succ k ih =>
   intro hk
   have:=ih (by omega)
   have hb:=kG ha (i:=c+1+k) (by omega)
   have hg2:=jJ m.sizes (c+1+k) (by omega)
   rw [← Nat.add_assoc]
   omega
 have h2:=mono2 (m.sizes.length - (c+1)) (by omega)
 rw [show c+1+(m.sizes.length - (c+1))=m.sizes.length from by omega,List.take_length,jJ _ _ hc] at h2
 unfold bF
 omega
theorem Az {α:Type} [BEq α] [LawfulBEq α] {xs ys:List α} {b:Nat→α→Unit→Option (Lo Unit Bool)} {all:Option Bool} {k:Jn Unit Bool→Option Bool}
  (e:all=if ((xs.length:Int) != (ys.length:Int)) then (some false) else ((aw b xs 0 ()).bind k)) (hk:k (.nx ())=some true) (hk2:k (.out false)=some false)
  (hb:∀i x y,xs[i]?=some x→ys[i]?=some y→b i x ()=some (if x == y then .cont () else .out false)):all=some (xs == ys):=by
 rw [e]
 by_cases hl:xs.length=ys.length
 ·rw [if_neg (by simp [hl])]
  have h:=jC (fun i x=>ys[i]? == some x) false (b:=b) xs (by
   intro i x hx
   have hi:=(List.getElem?_eq_some_iff.1 hx).1
   have hy:ys[i]?=some (ys[i]'(by omega)):=List.getElem?_eq_getElem (by omega)
   rw [hb i x _ hx hy,hy]
   congr 1
   by_cases h:x=ys[i]'(by omega)
   ·simp [h]
   ·have h2:¬ ys[i]'(by omega)=x:=fun e=>h e.symm
    simp [h,h2])
  rw [h,Option.bind_some]
  have:fM (fun i x=>ys[i]? == some x) xs 0=(xs == ys):=by
   rw [Bool.eq_iff_iff,jj,beq_iff_eq]
   constructor
   ·intro h
    refine List.ext_getElem? fun i=>?_
    rcases Nat.lt_or_ge i xs.length with hi | hi
    ·have:=h i xs[i] (List.getElem?_eq_getElem hi)
     rw [Nat.zero_add,beq_iff_eq] at this
     rw [this,List.getElem?_eq_getElem hi]
    ·rw [List.getElem?_eq_none hi,List.getElem?_eq_none (by omega)]
   ·intro h i x hx
    rw [Nat.zero_add,← h,hx]; simp
  rw [this]
  cases xs == ys <;> simp [hk,hk2]
 ·rw [if_pos (by simp; omega)]
  congr 1
  symm
  rw [beq_eq_false_iff_ne]
  intro e; exact hl (congrArg List.length e)
theorem E8 (a b:List Int):pL a b=some (a == b):=
 Az (b:=nf b) rfl rfl rfl (fun i x y hx hy=>by show (idx b (i:Int)).bind _=_; rw [vk hy,Option.bind_some,bne]; cases x == y <;> rfl)
theorem EE (a b:List Int):jO a b=some (a == b):=
 Az (b:=hU b) rfl rfl rfl (fun i x y hx hy=>by show (idx b (i:Int)).bind _=_; rw [vk hy,Option.bind_some,bne]; cases x == y <;> rfl)
def cellsIn (m:Model) (cells:List Int):Bool:=((cells.length:Int) == (m.sizes.length:Int)) && fM (fun i x=>decide (0≤x) && decide (x≤m.sizes.getD i 0)) cells 0
def oR (m:Model) (cells:List Int):Bool:=aX m && cellsIn m cells
theorem se {α:Type} {xs:List α} {i:Nat} {d:α} (h:i<xs.length):xs.getD i d=xs[i]:=by rw [List.getD_eq_getElem?_getD,List.getElem?_eq_getElem h]; rfl
theorem DK (m:Model) (h:kS m) (cells:List Int):lf m cells=some (oR m cells):=by
 unfold lf oR cellsIn
 rw [uc m h,Option.bind_some]
 cases aX m with
 | false=>rfl
 | true =>
  by_cases hl:cells.length=m.sizes.length
  ·rw [if_neg (by simp [hl])]
   rw [jC (fun i x=>decide (0≤x) && decide (x≤m.sizes.getD i 0)) false cells]
   ·rw [show ((cells.length:Int) == (m.sizes.length:Int))=true from by simp [hl],Bool.true_and,Bool.true_and]
    cases fM (fun i x=>decide (0≤x) && decide (x≤m.sizes.getD i 0)) cells 0 <;> rfl
   ·intro i x hx
    have hi:=(List.getElem?_eq_some_iff.1 hx).1
    show (idx m.sizes (i:Int)).bind _=_
    rw [iT (show i<m.sizes.length by omega),se (by omega),Option.bind_some,lq,Option.bind_some]
    cases decide (0≤x) <;> cases decide (x≤m.sizes[i]) <;> rfl
  ·rw [if_pos (by simp; omega),show ((cells.length:Int) == (m.sizes.length:Int))=false from by simp; omega]
   rfl
theorem jm {m:Model} {cells:List Int}:cellsIn m cells=true ↔ cells.length=m.sizes.length∧∀i x,cells[i]?=some x→0≤x∧x≤m.sizes.getD i 0:=by
 unfold cellsIn
 rw [Bool.and_eq_true,jj,beq_iff_eq]
 constructor
 ·rintro ⟨h1,h2⟩
  exact ⟨by omega,fun i x hx=>by have:=h2 i x hx; simpa using this⟩
 ·rintro ⟨h1,h2⟩
  exact ⟨by omega,fun i x hx=>by have:=h2 i x hx; simpa using this⟩
def pI (cs vs:List Int) (i:Nat):Int:=((cs.zip vs).take i).foldl (fun n p=>n+p.1 * p.2) 0
def dot (cs vs:List Int):Int:=(cs.zip vs).foldl (fun n p=>n+p.1 * p.2) 0
theorem vJ (cs vs:List Int) (i:Nat) (h1:i<cs.length) (h2:i<vs.length):pI cs vs (i+1)=pI cs vs i+cs[i] * vs[i]:=by
 unfold pI
 rw [List.take_add_one,List.getElem?_eq_getElem (by simp; omega),List.foldl_append]
 simp
def distinct (vs:List Int):Bool:=fM (fun i x=>!(vs.take i).contains x) vs 0
def eD (r:Rule) (vs:List Int):Bool:=
 if r.kind == 1 then decide (dot r.coefs vs ≥ r.bound) else if r.kind == 2 then distinct vs else if r.kind == 4 then decide (vs.getD 0 0<vs.getD 1 0) else r.rows.any (fun row=>row == vs)
def cW (r:Rule) (cells:List Int):List Int:=r.vars.map fun v=>cells.getD v.toNat 0
theorem prod_bound {x y:Int} (h:-9≤x∧x≤9) (k:0≤y∧y≤3):-27≤x * y∧x * y≤27:=by
 obtain rfl | rfl | rfl | rfl:y=0 ∨ y=1 ∨ y=2 ∨ y=3:=by omega
 all_goals omega
theorem Br (cs vs:List Int) (hc:cs.all jf=true) (hv:∀x ∈ vs,0≤x∧x≤3) (hl:cs.length=vs.length):∀i,i≤vs.length→-27 * i≤pI cs vs i∧pI cs vs i≤27 * i:=by
 intro i
 induction i with
 | zero=>intro _; simp [pI]
 | succ i ih =>
  intro hi
  have:=ih (by omega)
  have hq:=List.all_eq_true.1 hc cs[i] (List.getElem_mem (by omega))
  unfold jf at hq
  simp at hq
  have hb:=prod_bound (x:=cs[i]) (y:=vs[i]) ⟨by omega,by omega⟩ (hv _ (List.getElem_mem _))
  rw [vJ _ _ _ (by omega) (by omega)]
  omega
theorem yS (cs vs:List Int) (h:cs.length=vs.length):pI cs vs vs.length=dot cs vs:=by
 unfold pI dot
 rw [List.take_of_length_le (by simp; omega)]
theorem y5 (cs vs:List Int) (hc:cs.all jf=true) (hv:∀x ∈ vs,0≤x∧x≤3) (hl:cs.length=vs.length) (h5:vs.length≤1048576) {τ:Type} {b:Nat→Int→Int→Option (Lo Int τ)}
  (hb:∀i x n,b i x n=(idx cs (i:Int)).bind fun c=>some (.cont (i64 (n+(i64 (c * x)))))):aw b vs 0 0=some (.nx (dot cs vs)):=by
 have h:=dT (b:=b) (fun i=>pI cs vs i) vs (by
  intro i x hx
  have hi:=(List.getElem?_eq_some_iff.1 hx).1
  obtain rfl:vs[i]=x:=(List.getElem?_eq_some_iff.1 hx).2
  have hq:=List.all_eq_true.1 hc cs[i] (List.getElem_mem (by omega))
  unfold jf at hq
  simp at hq
  have hp:=prod_bound (x:=cs[i]) (y:=vs[i]) ⟨by omega,by omega⟩ (hv _ (List.getElem_mem _))
  have hd:=Br cs vs hc hv hl i (by omega)
  rw [hb,iT (by omega),Option.bind_some,aR (n:=cs[i] * vs[i]) (by omega) (by omega),aR (by omega) (by omega),vJ _ _ _ (by omega) (by omega)])
 rw [yS _ _ hl] at h
 exact h
theorem fc {n:Nat} {r:Rule} (h:iE n r=true):cw n r.vars=true∧1≤r.vars.length∧((r.kind=1∧r.coefs.all jf=true∧r.coefs.length=r.vars.length∧-1000≤r.bound∧r.bound≤1000) ∨ r.kind=2 ∨ (r.kind=3∧r.rows.all (vR r.vars.length)=true∧r.rows.length≤8) ∨ (r.kind=4∧r.vars.length=2)):=by
 unfold iE at h
 split at h
 ·cases h
 ·rename_i hc
  simp at hc
  refine ⟨hc.1.1.1,by omega,?_⟩
  split at h
  ·rename_i hk
   simp at hk h
   exact .inl ⟨hk,by simpa using h.1,by omega,by omega,by omega⟩
  ·split at h
   ·rename_i _ hk; simp at hk; exact .inr (.inl hk)
   ·split at h
    ·rename_i _ _ hk; simp at hk h; exact .inr (.inr (.inl ⟨hk,by simpa using h.1,by omega⟩))
    ·split at h
     ·rename_i _ _ _ hk; simp at hk h; exact .inr (.inr (.inr ⟨hk,by omega⟩))
     ·cases h
theorem mK {n:Nat} {xs:List Int}:cw n xs=true ↔ (∀x ∈ xs,0≤x∧x<(n:Int))∧distinct xs=true:=by
 unfold cw distinct
 rw [jj,jj]
 constructor
 ·intro h
  refine ⟨fun x hx=>?_,fun i x hx=>?_⟩
  ·obtain ⟨i,hi,rfl⟩:=List.mem_iff_getElem.1 hx
   have:=h i xs[i] (List.getElem?_eq_getElem hi)
   unfold pk at this
   simp at this
   omega
  ·have:=h i x hx
   unfold pk at this
   rw [Bool.and_eq_true] at this
   exact this.2
 ·rintro ⟨h1,h2⟩ i x hx
  have:=h1 x (List.mem_of_getElem? hx)
  have h3:=h2 i x hx
  unfold pk
  rw [Bool.and_eq_true]
  exact ⟨by simp; omega,h3⟩
theorem rT {m:Model} {cells:List Int} (ha:m.sizes.all fI=true) (hc:cellsIn m cells=true) (r:Rule) (hv:cw m.sizes.length r.vars=true):∀x ∈ cW r cells,0≤x∧x≤3:=by
 intro x hx
 obtain ⟨v,hvm,rfl⟩:=List.mem_map.1 hx
 obtain ⟨h1,h2⟩:=jm.1 hc
 have hb:=(mK.1 hv).1 v hvm
 have hl:v.toNat<cells.length:=by omega
 rw [se hl]
 have h3:=h2 v.toNat cells[v.toNat] (List.getElem?_eq_getElem hl)
 rw [se (by omega)] at h3
 have:=kG ha (i:=v.toNat) (by omega)
 omega
theorem wP (n:Nat) (r:Rule) (cells:List Int) (hn:cells.length=n) (hv:cw n r.vars=true) (hl:r.vars.length≤1048576) {τ:Type} {b:Nat→Int→List Int→Option (Lo (List Int) τ)}
  (hb:∀i x out,b i x out=(idx cells x).bind fun y=>(app out ([y])).bind fun z=>some (.cont z)):aw b r.vars 0 []=some (.nx (cW r cells)):=by
 refine iI (fun v=>cells.getD v.toNat 0) r.vars ?_
 intro i x out hx ho
 have hi:=(List.getElem?_eq_some_iff.1 hx).1
 have hb1:=(mK.1 hv).1 x (List.mem_of_getElem? hx)
 rw [hb,sv hb1.1 (by omega),Option.bind_some,bR (by simp; omega),Option.bind_some,se (by omega)]
theorem yy {vs:List Int} (h:vs.length=2):((idx vs 0).bind fun x=>(idx vs 1).bind fun y=>some (decide (x<y)))=some (decide (vs.getD 0 0<vs.getD 1 0)):=by
 match vs,h with
 | [x,y],_=>rfl
theorem D7 {m:Model} {cells:List Int} (hs:kS m) (h5:m.sizes.length≤5) (ha:m.sizes.all fI=true) (hc:cellsIn m cells=true) (r:Rule) (hr:r ∈ m.rules) (hok:iE m.sizes.length r=true) :
  ou r cells=some (eD r (cW r cells)):=by
 obtain ⟨hv,hv1,hk⟩:=fc hok
 have hsm:=hs.2.2 r hr
 have hvb:=rT ha hc r hv
 have hlen:(cW r cells).length=r.vars.length:=by simp [cW]
 unfold ou
 rw [wP m.sizes.length r cells (jm.1 hc).1 hv hsm.1 (b:=mn cells) (fun _ _ _=>rfl),Option.bind_some]
 simp only
 unfold eD
 have h51:=hsm.1
 rcases hk with ⟨hk,hc1,hc2,_⟩ | hk | ⟨hk,_⟩ | ⟨hk,h2⟩
 ·rw [hk]
  simp only [beq_self_eq_true,if_true]
  rw [y5 r.coefs _ hc1 hvb (by omega) (by omega) (b:=mo r) (fun _ _ _=>rfl)]
  rfl
 ·rw [hk]
  rw [show ((2:Int) == 1)=false from rfl,show ((2:Int) == 2)=true from rfl]
  simp only [jw]
  rw [jC (fun i x=>!((cW r cells).take i).contains x) false]
  ·unfold distinct
   cases fM (fun i x=>!((cW r cells).take i).contains x) (cW r cells) 0 <;> rfl
  ·intro i x hx
   have hi:=(List.getElem?_eq_some_iff.1 hx).1
   show (jL 0 (i:Int)).bind _=_
   rw [mH (by omega),Option.bind_some,tk (cW r cells) x (.out false) i (by omega) fun k hk=>rfl]
   cases ((cW r cells).take i).contains x <;> rfl
 ·rw [hk]
  rw [show ((3:Int) == 1)=false from rfl,show ((3:Int) == 2)=false from rfl,show ((3:Int) == 4)=false from rfl]
  simp only [jw]
  rw [Ba (fun row=>row == cW r cells) true]
  ·cases r.rows.any (fun row=>row == cW r cells) <;> rfl
  ·intro i x hx
   show (pL x _).bind _=_
   rw [E8,Option.bind_some]
   cases x == cW r cells <;> rfl
 ·rw [hk]
  rw [show ((4:Int) == 1)=false from rfl,show ((4:Int) == 2)=false from rfl,show ((4:Int) == 4)=true from rfl]
  simp only [jw]
  exact yy (by omega)
theorem yR (n:Nat) (r:Rule) (vs:List Int) (hlen:vs.length=r.vars.length) (hl:r.vars.length≤1048576) (hvb:∀x ∈ vs,0≤x∧x≤3) (hok:iE n r=true):jP r vs=some (eD r vs):=by
 obtain ⟨hv,hv1,hk⟩:=fc hok
 unfold jP eD
 rcases hk with ⟨hk,hc1,hc2,_⟩ | hk | ⟨hk,_⟩ | ⟨hk,h2⟩
 ·rw [hk]
  simp only [beq_self_eq_true,if_true]
  rw [y5 r.coefs _ hc1 hvb (by omega) (by omega) (b:=kl r) (fun _ _ _=>rfl)]
  rfl
 ·rw [hk]
  rw [show ((2:Int) == 1)=false from rfl,show ((2:Int) == 2)=true from rfl]
  simp only [jw,if_true]
  rw [jC (fun i x=>!(vs.take i).contains x) false]
  ·unfold distinct
   cases fM (fun i x=>!(vs.take i).contains x) vs 0 <;> rfl
  ·intro i x hx
   have hi:=(List.getElem?_eq_some_iff.1 hx).1
   show (sl vs 0 (i:Int)).bind _=_
   rw [rp (by omega),Option.bind_some,tx,Option.bind_some]
   cases (vs.take i).contains x <;> rfl
 ·rw [hk]
  rw [show ((3:Int) == 1)=false from rfl,show ((3:Int) == 2)=false from rfl,show ((3:Int) == 3)=true from rfl,show ((3:Int) == 4)=false from rfl]
  simp only [jw,if_true]
  rw [oi r.rows _ (fun row=>row == vs) fun row _=>by unfold ig; rw [EE]; rfl]
  rfl
 ·rw [hk]
  rw [show ((4:Int) == 1)=false from rfl,show ((4:Int) == 2)=false from rfl,show ((4:Int) == 3)=false from rfl,show ((4:Int) == 4)=true from rfl]
  simp only [jw,if_true]
  exact yy (by omega)
theorem FY {m:Model} {cells:List Int} (hs:kS m) (ha:m.sizes.all fI=true) (hc:cellsIn m cells=true) (r:Rule) (hr:r ∈ m.rules) (hok:iE m.sizes.length r=true) :
  oc r cells=some (eD r (cW r cells)):=by
 obtain ⟨hv,hv1,hk⟩:=fc hok
 have hsm:=hs.2.2 r hr
 unfold oc
 rw [wP m.sizes.length r cells (jm.1 hc).1 hv hsm.1 (b:=mr cells) (fun _ _ _=>rfl),Option.bind_some]
 simp only
 rw [yR m.sizes.length r _ (by simp [cW]) hsm.1 (rT ha hc r hv) hok]
 rfl
theorem vO {m:Model} {cells:List Int} (h:oR m cells=true):aX m=true∧cellsIn m cells=true:=by unfold oR at h; rwa [Bool.and_eq_true] at h
theorem ju {m:Model} (h:aX m=true) {r:Rule} (hr:r ∈ m.rules):iE m.sizes.length r=true:=List.all_eq_true.1 (bo h).2.2.2.2.2 r hr
def jt (m:Model) (cells:List Int):Bool:=m.rules.all fun r=>eD r (cW r cells)
theorem yz {m:Model} {cells:List Int} (hs:kS m) (hm:aX m=true) (hc:cellsIn m cells=true):hZ m cells=some (jt m cells):=by
 obtain ⟨h1,h5,ha,_⟩:=bo hm
 unfold hZ
 rw [nS m.rules _ (fun r=>!eD r (cW r cells)) fun r hr=>by unfold fY; rw [FY hs ha hc r hr (ju hm hr)]; rfl]
 rw [kA,Option.bind_some,Bool.not_not]
 rfl
def tR (m:Model) (cells:List Int):Bool:=oR m cells && jt m cells
theorem A5 (m:Model) (h:kS m) (cells:List Int):kb m cells=some (tR m cells):=by
 unfold kb tR
 rw [DK m h,Option.bind_some]
 cases hc:oR m cells with
 | false=>rfl
 | true=>obtain ⟨hm,hci⟩:=vO hc; rw [yz h hm hci]; rfl
def dX:List Int→List Int→Option (List Int)
 | s :: ss,c :: cs=>match dX ss cs with
  | some cs'=>some (c :: cs')
  | none=>if c<s then some ((c+1) :: List.replicate cs.length 0) else none
 | _,_=>none
def fit:List Int→List Int→Prop
 | [],[]=>True
 | s :: ss,c :: cs=>(0≤c∧c≤s)∧fit ss cs
 | _,_=>False
theorem ny:∀(ss cs:List Int),fit ss cs ↔ cs.length=ss.length∧∀i x,cs[i]?=some x→0≤x∧x≤ss.getD i 0
 | [],[]=>by simp [fit]
 | [],c :: cs=>by simp [fit]
 | s :: ss,[]=>by simp [fit]
 | s :: ss,c :: cs=>by
  rw [fit,ny ss cs]
  constructor
  ·rintro ⟨h0,h1,h2⟩
   refine ⟨by simp [h1],fun i x hx=>?_⟩
   cases i with
   | zero=>simp at hx; subst hx; simpa using h0
   | succ i=>simpa using h2 i x (by simpa using hx)
  ·rintro ⟨h1,h2⟩
   refine ⟨by simpa using h2 0 c rfl,by simpa using h1,fun i x hx=>?_⟩
   simpa using h2 (i+1) x (by simpa using hx)
theorem fN {ss cs:List Int} (h:fit ss cs):cs.length=ss.length:=((ny _ _).1 h).1
theorem uf {ss cs:List Int} (h:fit ss cs) {i:Nat} (hi:i<cs.length):0≤cs[i]∧cs[i]≤ss[i]'(by rw [← fN h]; exact hi):=by
 have:=((ny _ _).1 h).2 i cs[i] (List.getElem?_eq_getElem hi)
 rwa [se (by rw [← fN h]; exact hi)] at this
theorem tz {m:Model} {cells:List Int}:cellsIn m cells=true ↔ fit m.sizes cells:=by rw [jm,ny]
theorem vz:∀(i:Nat) (ss cs t:List Int),i≤cs.length→cs.length=ss.length→dX (ss.drop i) (cs.drop i)=some t→dX ss cs=some (cs.take i++t)
 | 0,ss,cs,t,_,_,h=>by simpa using h
 | i+1,s :: ss,c :: cs,t,hi,hl,h=>by
  have:=vz i ss cs t (by simpa using hi) (by simpa using hl) (by simpa using h)
  simp [dX,this]
 | i+1,[],c :: cs,t,hi,hl,h=>by simp at hl
 | i+1,s :: ss,[],t,hi,hl,h=>by simp at hl
 | i+1,[],[],t,hi,hl,h=>by simp at hi
def e9 (cs:List Int) (j:Nat):List Int:=cs.take j++List.replicate (cs.length - j) 0
theorem wT (cs:List Int) (j:Nat) (h:j<cs.length) (x:Int):(e9 cs (j+1)).set j x=cs.take j++x :: List.replicate (cs.length - (j+1)) 0:=by
 have e:cs.take (j+1)=cs.take j++[cs[j]]:=by rw [List.take_add_one,List.getElem?_eq_getElem h]; rfl
 have hl:(cs.take j).length=j:=by simp; omega
 unfold e9
 rw [e,List.append_assoc,List.set_append_right _ _ (by omega),hl,Nat.sub_self]
 rfl
theorem uY (cs:List Int) (j:Nat) (h:j<cs.length):(e9 cs (j+1)).set j 0=e9 cs j:=by
 rw [wT cs j h]
 unfold e9
 rw [show cs.length - j=(cs.length - (j+1))+1 from by omega,List.replicate_succ]
theorem qL (cs:List Int) (j:Nat) (h:j<cs.length):(e9 cs (j+1))[j]?=some cs[j]:=by
 unfold e9
 rw [List.getElem?_append_left (by simp; omega),List.getElem?_take_of_lt (by omega),List.getElem?_eq_getElem h]
theorem Av {ss cs:List Int} (hf:fit ss cs) {j:Nat} (hj:j<cs.length) (hn:dX (ss.drop (j+1)) (cs.drop (j+1))=none) (hlt:cs[j]<ss[j]'(by rw [← fN hf]; exact hj)) :
  dX ss cs=some ((e9 cs (j+1)).set j (cs[j]+1)):=by
 have hl:=fN hf
 refine (vz j ss cs ((cs[j]+1) :: List.replicate (cs.length - (j+1)) 0) (by omega) hl ?_).trans ?_
 ·rw [List.drop_eq_getElem_cons (show j<ss.length by omega),List.drop_eq_getElem_cons hj]
  simp [dX,hn,hlt]
 ·rw [wT cs j hj]
theorem AV {ss cs:List Int} (hf:fit ss cs) {j:Nat} (hj:j<cs.length) (hn:dX (ss.drop (j+1)) (cs.drop (j+1))=none) (hlt:¬ cs[j]<ss[j]'(by rw [← fN hf]; exact hj)) :
  dX (ss.drop j) (cs.drop j)=none:=by
 have hl:=fN hf
 rw [List.drop_eq_getElem_cons (show j<ss.length by omega),List.drop_eq_getElem_cons hj]
 simp [dX,hn,hlt]
theorem zp {ss cs:List Int} (hf:fit ss cs):dX (ss.drop cs.length) (cs.drop cs.length)=none:=by
 rw [List.drop_length,fN hf,List.drop_length]; rfl
theorem Fc (m:Model) (cells:List Int) (hf:fit m.sizes cells) (h5:cells.length≤5) (h3:m.sizes.all fI=true) (fu:Nat) (hfu:FU≤fu) :
  qe fu m cells=some (match dX m.sizes cells with | some c=>(c,true) | none=>(List.replicate cells.length 0,false)):=by
 unfold qe
 have hl:=fN hf
 have e0:i64 ((cells.length:Int) - 1)=(cells.length:Int) - 1:=aR (by omega) (by omega)
 rw [bR (by simp; omega),Option.bind_some]
 simp only [List.nil_append]
 rw [e0]
 obtain ⟨j,hj,hQ⟩:=iN (b:=js m) (fun n s=>n=(s.2+1).toNat∧∃ j:Nat,j≤cells.length∧s.1=e9 cells j∧s.2=(j:Int) - 1∧dX (m.sizes.drop j) (cells.drop j)=none)
  (fun jn=>(match jn with | .nx s=>s.1=List.replicate cells.length 0∧dX m.sizes cells=none | .out t=>t.2=true∧dX m.sizes cells=some t.1))
  (by
   rintro n ⟨out,i⟩ ⟨hn,j,hj,ho,hi,hnone⟩
   simp only at ho hi hn
   subst ho hi
   cases j with
   | zero =>
    refine ⟨.brk (e9 cells 0,((0:Nat):Int) - 1),?_,?_,?_⟩
    ·simp only [js]
     rw [if_neg (by simp)]
    ·simp [e9]
    ·simpa using hnone
   | succ j =>
    have hjl:j<cells.length:=by omega
    have hb:=uf hf hjl
    have hs:=kG h3 (i:=j) (by omega)
    have e:(((j+1:Nat):Int) - 1)=(j:Int):=by omega
    rw [e]
    have hbody:js m (e9 cells (j+1),(j:Int))=if decide (cells[j]<m.sizes[j]'(by omega)) then some (.out ((e9 cells (j+1)).set j (cells[j]+1),true)) else some (.cont (e9 cells j,(j:Int) - 1)):=by
     simp only [js]
     rw [if_pos (by simp),cN,qL cells j hjl,iT (show j<m.sizes.length by omega)]
     simp only [Option.bind_some]
     rw [aR (n:=cells[j]+1) (by omega) (by omega),aR (n:=(j:Int) - 1) (by omega) (by omega),Int.toNat_natCast,uY cells j hjl]
    rw [hbody]
    by_cases hlt:cells[j]<m.sizes[j]'(by omega)
    ·exact ⟨.out ((e9 cells (j+1)).set j (cells[j]+1),true),by rw [if_pos (by simpa using hlt)],rfl,Av hf hjl hnone hlt⟩
    ·exact ⟨.cont (e9 cells j,(j:Int) - 1),by rw [if_neg (by simpa using hlt)],((j:Int) - 1+1).toNat,
      by omega,
      rfl,j,by omega,rfl,rfl,AV hf hjl hnone hlt⟩)
  fu ((cells.length:Int) - 1+1).toNat (cells,(cells.length:Int) - 1) ⟨rfl,cells.length,Nat.le_refl _,by simp [e9],rfl,zp hf⟩ (by unfold FU at hfu; omega)
 rw [hj]
 cases j with
 | nx s=>obtain ⟨h1,h2⟩:=hQ; rw [h2,Option.bind_some]; simp only [h1]
 | out t=>obtain ⟨h1,h2⟩:=hQ; rw [h2,Option.bind_some]; obtain ⟨a,b⟩:=t; simp only at h1; subst h1; rfl
theorem CQ {τ:Type} (sizes cells:List Int) (hf:fit sizes cells) (h5:cells.length≤1000) (fu:Nat) (hfu:FU≤fu) {b:(List Int × Int)→Option (Lo (List Int × Int) τ)}
  (hb:∀c i,b (c,i)=(if decide (i ≥ 0) then ((idx c i).bind fun x=>(idx sizes i).bind fun y=>some (x == y)) else some false).bind fun q=>if q then ((idx c i).bind fun x=>some (.cont ((c.set (Int.toNat i) 0),i64 (i - 1)))) else (some (.brk (c,i)))) :
  ∃ j:Nat,j≤cells.length∧bx b fu (cells,i64 ((cells.length:Int) - 1))=some (.nx (e9 cells j,(j:Int) - 1))∧(j=0→dX sizes cells=none) ∧
   (∀k,j=k+1→∃ hk:k<cells.length,dX sizes cells=some ((e9 cells (k+1)).set k (cells[k]+1))):=by
 have hl:=fN hf
 have e0:i64 ((cells.length:Int) - 1)=(cells.length:Int) - 1:=aR (by omega) (by omega)
 rw [e0]
 obtain ⟨jn,hj,hQ⟩:=iN (b:=b) (fun n s=>n=(s.2+1).toNat∧∃ j:Nat,j≤cells.length∧s.1=e9 cells j∧s.2=(j:Int) - 1∧dX (sizes.drop j) (cells.drop j)=none)
  (fun jn=>∃ j:Nat,j≤cells.length∧jn=.nx (e9 cells j,(j:Int) - 1)∧(j=0→dX sizes cells=none)∧(∀k,j=k+1→∃ hk:k<cells.length,dX sizes cells=some ((e9 cells (k+1)).set k (cells[k]+1))))
  (by
   rintro n ⟨out,i⟩ ⟨hn,j,hj,ho,hi,hnone⟩
   simp only at ho hi hn
   subst ho hi
   cases j with
   | zero =>
    refine ⟨.brk (e9 cells 0,((0:Nat):Int) - 1),?_,0,Nat.zero_le _,rfl,fun _=>by simpa using hnone,fun k hk=>by omega⟩
    rw [hb,if_neg (by simp)]; rfl
   | succ j =>
    have hjl:j<cells.length:=by omega
    have hbd:=uf hf hjl
    have e:(((j+1:Nat):Int) - 1)=(j:Int):=by omega
    rw [e]
    have hbody:b (e9 cells (j+1),(j:Int))=if cells[j] == sizes[j]'(by omega) then some (.cont (e9 cells j,(j:Int) - 1)) else some (.brk (e9 cells (j+1),(j:Int))):=by
     rw [hb,if_pos (by simp),cN,qL cells j hjl,iT (show j<sizes.length by omega)]
     simp only [Option.bind_some]
     rw [aR (n:=(j:Int) - 1) (by omega) (by omega),Int.toNat_natCast,uY cells j hjl]
    rw [hbody]
    by_cases he:cells[j]=sizes[j]'(by omega)
    ·exact ⟨.cont (e9 cells j,(j:Int) - 1),by rw [if_pos (by simpa using he)],((j:Int) - 1+1).toNat,by omega,rfl,j,by omega,rfl,rfl,AV hf hjl hnone (by omega)⟩
    ·refine ⟨.brk (e9 cells (j+1),(j:Int)),by rw [if_neg (by simpa using he)],j+1,by omega,by rw [e],fun h=>by omega,fun k hk=>?_⟩
     obtain rfl:j=k:=by omega
     exact ⟨hjl,Av hf hjl hnone (by omega)⟩)
  fu ((cells.length:Int) - 1+1).toNat (cells,(cells.length:Int) - 1) ⟨rfl,cells.length,Nat.le_refl _,by simp [e9],rfl,zp hf⟩ (by unfold FU at hfu; omega)
 obtain ⟨j,h1,rfl,h2,h3⟩:=hQ
 exact ⟨j,h1,hj,h2,h3⟩
def ja:List Int→Nat
 | []=>1
 | s :: ss=>(s.toNat+1) * ja ss
def rem:List Int→List Int→Nat
 | s :: ss,c :: cs=>(s - c).toNat * ja ss+rem ss cs
 | _,_=>0
theorem xa:∀ss,0<ja ss
 | []=>Nat.one_pos
 | s :: ss=>Nat.mul_pos (Nat.succ_pos _) (xa ss)
theorem nP:∀(ss:List Int),(∀s ∈ ss,0≤s)→fit ss (List.replicate ss.length 0)∧rem ss (List.replicate ss.length 0)+1=ja ss
 | [],_=>⟨trivial,rfl⟩
 | s :: ss,h=>by
  obtain ⟨h1,h2⟩:=nP ss fun x hx=>h x (by simp [hx])
  have hs:=h s (by simp)
  refine ⟨⟨⟨Int.le_refl _,hs⟩,h1⟩,?_⟩
  show (s - 0).toNat * ja ss+rem ss (List.replicate ss.length 0)+1=(s.toNat+1) * ja ss
  rw [Nat.add_mul,Int.sub_zero]; omega
theorem uq:∀{ss cs:List Int},fit ss cs→∀s ∈ ss,0≤s
 | [],_,_,s,hs=>by simp at hs
 | s :: ss,[],h,_,_=>by simp [fit] at h
 | s :: ss,c :: cs,h,x,hx=>by
  rcases List.mem_cons.1 hx with rfl | hx
  ·have:=h.1; omega
  ·exact uq h.2 x hx
theorem qN:∀{ss cs:List Int},fit ss cs→dX ss cs=none→rem ss cs=0
 | [],[],_,_=>rfl
 | [],_ :: _,h,_=>by simp [fit] at h
 | s :: ss,[],h,_=>by simp [fit] at h
 | s :: ss,c :: cs,h,hn=>by
  obtain ⟨h0,h1⟩:=h
  unfold dX at hn
  cases hm:dX ss cs with
  | some t=>rw [hm] at hn; simp at hn
  | none =>
   rw [hm] at hn
   simp at hn
   have:=qN h1 hm
   show (s - c).toNat * ja ss+rem ss cs=0
   rw [this,show (s - c).toNat=0 from by omega]; simp
theorem jQ:∀{ss cs t:List Int},fit ss cs→dX ss cs=some t→fit ss t∧rem ss cs=rem ss t+1
 | [],[],_,_,hn=>by simp [dX] at hn
 | [],_ :: _,_,h,_=>by simp [fit] at h
 | s :: ss,[],_,h,_=>by simp [fit] at h
 | s :: ss,c :: cs,t,h,hn=>by
  obtain ⟨h0,h1⟩:=h
  unfold dX at hn
  cases hm:dX ss cs with
  | some t' =>
   rw [hm] at hn
   simp at hn
   subst hn
   obtain ⟨h2,h3⟩:=jQ h1 hm
   refine ⟨⟨h0,h2⟩,?_⟩
   show (s - c).toNat * ja ss+rem ss cs=(s - c).toNat * ja ss+rem ss t'+1
   omega
  | none =>
   rw [hm] at hn
   simp only at hn
   split at hn
   ·rename_i hlt
    injection hn with hn
    subst hn
    have hz:=nP ss (uq h1)
    have hl:=fN h1
    rw [← hl] at hz
    refine ⟨⟨⟨by omega,by omega⟩,hz.1⟩,?_⟩
    have hr:=qN h1 hm
    show (s - c).toNat * ja ss+rem ss cs=(s - (c+1)).toNat * ja ss+rem ss (List.replicate cs.length 0)+1
    have h2:=hz.2
    rw [hr,show (s - c).toNat=(s - (c+1)).toNat+1 from by omega,Nat.add_mul]
    omega
   ·cases hn
theorem tA:∀(ss:List Int),ss.all fI=true→ja ss≤4 ^ ss.length
 | [],_=>by simp [ja]
 | s :: ss,h=>by
  rw [List.all_cons,Bool.and_eq_true] at h
  have h1:=gG.1 h.1
  have h2:=tA ss h.2
  show (s.toNat+1) * ja ss≤4 ^ (ss.length+1)
  rw [Nat.pow_succ,Nat.mul_comm (4 ^ ss.length)]
  exact Nat.mul_le_mul (by omega) h2
theorem uG:∀{ss cs:List Int},fit ss cs→rem ss cs<ja ss
 | [],[],_=>by simp [rem,ja]
 | [],_ :: _,h=>by simp [fit] at h
 | s :: ss,[],h=>by simp [fit] at h
 | s :: ss,c :: cs,h=>by
  have h1:=uG h.2
  have h0:=h.1
  show (s - c).toNat * ja ss+rem ss cs<(s.toNat+1) * ja ss
  have:(s - c).toNat * ja ss≤s.toNat * ja ss:=Nat.mul_le_mul_right _ (by omega)
  rw [Nat.add_mul]; omega
theorem mC {ss cs:List Int} (hf:fit ss cs) (h3:ss.all fI=true) (h5:ss.length≤5):rem ss cs<1024:=by
 have h1:=uG hf
 have h2:=tA ss h3
 have h4:4 ^ ss.length≤4 ^ 5:=Nat.pow_le_pow_right (by omega) h5
 omega
def r6 (ss:List Int):Nat→List Int→List (List Int)
 | 0,_=>[]
 | k+1,cs=>cs :: (match dX ss cs with | some t=>r6 ss k t | none=>[])
def mS (ss cs:List Int):List (List Int):=r6 ss (rem ss cs+1) cs
theorem lp {ss cs t:List Int} (hf:fit ss cs) (h:dX ss cs=some t):mS ss cs=cs :: mS ss t:=by
 have h2:=(jQ hf h).2
 unfold mS
 rw [r6,h,h2]
theorem my {ss cs:List Int} (hf:fit ss cs) (h:dX ss cs=none):mS ss cs=[cs]:=by
 unfold mS
 rw [r6,h]
theorem zb:∀(k:Nat) {ss cs:List Int},rem ss cs=k→fit ss cs→(mS ss cs).length=k+1:=by
 intro k
 induction k with
 | zero =>
  intro ss cs hk hf
  cases h:dX ss cs with
  | none=>rw [my hf h]; rfl
  | some t=>have:=(jQ hf h).2; omega
 | succ k ih =>
  intro ss cs hk hf
  cases h:dX ss cs with
  | none=>have:=qN hf h; omega
  | some t =>
   have:=jQ hf h
   rw [lp hf h,List.length_cons,ih (by omega) this.1]
def fv (m:Model) (cs:List Int):Nat:=(mS m.sizes cs).countP (jt m)
theorem z4 {m:Model} {cs t:List Int} (hf:fit m.sizes cs) (h:dX m.sizes cs=some t):fv m cs=(if jt m cs then 1 else 0)+fv m t:=by
 unfold fv
 rw [lp hf h,List.countP_cons]
 omega
theorem Al {m:Model} {cs:List Int} (hf:fit m.sizes cs) (h:dX m.sizes cs=none):fv m cs=(if jt m cs then 1 else 0):=by
 unfold fv
 rw [my hf h,List.countP_cons]
 simp
def vv (m:Model):List Int:=List.replicate m.sizes.length 0
def oD (m:Model):Nat:=if aX m then fv m (vv m) else 0
theorem vM {m:Model} (h:aX m=true):fit m.sizes (vv m):=(nP m.sizes fun s hs=>by
 have:=List.all_eq_true.1 (bo h).2.2.1 s hs
 exact (gG.1 this).1).1
theorem xN {m:Model} {cs:List Int} (hf:fit m.sizes cs):fv m cs≤rem m.sizes cs+1:=by
 unfold fv
 rw [← zb _ rfl hf]
 exact List.countP_le_length
theorem wR (xs:List Int) (h:xs.length≤4294967296):cJ xs=some xs:=by
 unfold cJ
 rw [bR (by simpa using h)]
 rfl
theorem DZ (m:Model) (h:kS m) (fu:Nat) (hfu:FU≤fu):kR fu m=some (oD m:Int):=by
 unfold kR oD
 rw [uc m h,Option.bind_some]
 cases hok:aX m with
 | false=>rfl
 | true =>
  obtain ⟨h1,h5,ha,_⟩:=bo hok
  have hz:=vM hok
  rw [pn _ (by omega)]
  simp only [Bool.not_true,jw,Option.bind_some,if_true]
  unfold lW
  rw [wR _ (by simp; omega),Option.bind_some]
  obtain ⟨j,hj,hQ⟩:=iN (b:=gH fu m) (fun k s=>∃ n:Nat,s.2=(n:Int)∧n≤2000∧fit m.sizes s.1∧k=rem m.sizes s.1∧n+fv m s.1=fv m (vv m))
   (fun j=>j=.out (fv m (vv m):Int))
   (by
    rintro k ⟨cs,n0⟩ ⟨n,hn,hn2,hf,rfl,ht⟩
    simp only at hn hf ht
    subst hn
    have hr:=mC hf ha h5
    have hle:=xN hz
    have hrz:=mC hz ha h5
    have hl:=fN hf
    have hsol:=yz h hok (tz.2 hf)
    obtain ⟨j,hjl,hw,hj0,hjs⟩:=CQ m.sizes cs hf (by omega) fu hfu (b:=kj m) (fun _ _=>rfl)
    have hi3:iF m cs (n:Int)=some (true,((n+if jt m cs then 1 else 0:Nat):Int)):=by
     unfold iF
     rw [hsol,Option.bind_some]
     cases jt m cs with
     | true=>simp only [if_true,Option.bind_some]; rw [aR (by omega) (by omega)]; rfl
     | false=>simp only [jw,Option.bind_some]; rfl
    have hbody:gH fu m (cs,(n:Int))=(if decide (((j:Int) - 1)<0) then (some (.out ((n+if jt m cs then 1 else 0:Nat):Int))) else ((idx (e9 cs j) ((j:Int) - 1)).bind fun x=>some (.cont (((e9 cs j).set (Int.toNat ((j:Int) - 1)) (i64 (x+1))),((n+if jt m cs then 1 else 0:Nat):Int))))):=by
     show (iF m cs (n:Int)).bind _=_
     rw [hi3,Option.bind_some]
     simp only [if_true]
     rw [hw,Option.bind_some]
    rw [hbody]
    cases j with
    | zero =>
     have hcs:=Al hf (hj0 rfl)
     refine ⟨_,by rw [if_pos (by simp)],?_⟩
     show Jn.out _=_
     congr 2; omega
    | succ k =>
     obtain ⟨hk,hnx⟩:=hjs k rfl
     have hcs:=z4 hf hnx
     obtain ⟨hft,hrt⟩:=jQ hf hnx
     have hb:=uf hf hk
     have hs:=kG ha (i:=k) (by omega)
     have e:(((k+1:Nat):Int) - 1)=(k:Int):=by omega
     rw [e,if_neg (by simp),cN,qL cs k hk,Option.bind_some,aR (by omega) (by omega),Int.toNat_natCast]
     refine ⟨_,rfl,rem m.sizes ((e9 cs (k+1)).set k (cs[k]+1)),?_,n+(if jt m cs then 1 else 0),rfl,?_,hft,rfl,?_⟩
     ·show _<rem m.sizes cs
      omega
     ·have:n+(if jt m cs then 1 else 0)≤fv m (vv m):=by omega
      omega
     ·show n+(if jt m cs then 1 else 0)+fv m ((e9 cs (k+1)).set k (cs[k]+1))=_
      omega)
   fu (rem m.sizes (vv m)) (vv m,0) ⟨0,rfl,by omega,hz,rfl,Nat.zero_add _⟩ (by have:=mC hz ha h5; unfold FU at hfu; omega)
  have hj':bx (gH fu m) fu (List.replicate m.sizes.length 0,0)=some j:=hj
  rw [hj',hQ]
  rfl
theorem Dk {m:Model} (h:fD m):kS m:=by
 obtain ⟨h1,h2,h3⟩:=h
 refine ⟨by unfold hL at h1; omega,by omega,fun r hr=>?_⟩
 obtain ⟨k1,k2,k3,k4⟩:=h3 r hr
 unfold hL at k1 k2
 exact ⟨by omega,by omega,by omega,fun x hx=>by have:=k4 x hx; unfold hL at this; omega⟩
theorem wK {m:Model} (ha:m.sizes.all fI=true) (c:Nat):∀k,c+k≤m.sizes.length→iH (m.sizes.take c)≤iH (m.sizes.take (c+k))
 | 0,_=>Int.le_refl _
 | k+1,hk=>by
  have:=wK ha c k (by omega)
  have hb:=kG ha (i:=c+k) (by omega)
  have hg2:=jJ m.sizes (c+k) (by omega)
  rw [← Nat.add_assoc]
  omega
theorem Ek {m:Model} (ha:m.sizes.all fI=true) {c d:Nat} (hcd:c<d) (hd:d<m.sizes.length) {v u:Int} (hv:v≤m.sizes[c]'(by omega)) (hu:0≤u):bF m c v<bF m d u:=by
 unfold bF
 have h1:=jJ m.sizes c (by omega)
 have h2:=wK ha (c+1) (d - (c+1)) (by omega)
 rw [show c+1+(d - (c+1))=d from by omega] at h2
 omega
theorem E9 {m:Model} (ha:m.sizes.all fI=true) {c d:Nat} (hc:c<m.sizes.length) (hd:d<m.sizes.length) {v u:Int} (hv0:0≤v) (hv:v≤m.sizes[c]) (hu0:0≤u) (hu:u≤m.sizes[d]) (h:bF m c v=bF m d u):c=d∧v=u:=by
 rcases Nat.lt_trichotomy c d with hlt | heq | hgt
 ·have:=Ek ha hlt hd hv hu0; omega
 ·subst heq; unfold bF at h; exact ⟨rfl,by omega⟩
 ·have:=Ek ha hgt hc hu hv0; omega
def yY (m:Model) (cells:List Int):Nat→List Bool
 | 0=>List.replicate 12 false
 | i+1=>(yY m cells i).set (bF m i (cells.getD i 0) - 1).toNat true
theorem uN (m:Model) (cells:List Int):∀i,(yY m cells i).length=12
 | 0=>by simp [yY]
 | i+1=>by rw [yY,List.length_set,uN m cells i]
def pz (m:Model) (values:List Bool) (c v:Nat):Bool:=values.getD (bF m c v - 1).toNat false
def rH (m:Model) (values:List Bool) (c:Nat) (k:Nat):List Int:=((List.range k).filter (pz m values c)).map (fun (v:Nat)=>(v:Int))
theorem A7 (m:Model) (values:List Bool) (c k:Nat):rH m values c (k+1)=rH m values c k++(if pz m values c k then [(k:Int)] else []):=by
 unfold rH
 rw [List.range_succ,List.filter_append,List.map_append]
 congr 1
 cases h:pz m values c k <;> simp [h]
theorem B2 (m:Model) (values:List Bool) (c k:Nat):(rH m values c k).length≤k:=by
 unfold rH
 rw [List.length_map]
 have:=List.length_filter_le (pz m values c) (List.range k)
 simpa using this
def jS (m:Model) (values:List Bool) (c:Nat):List Int:=rH m values c ((m.sizes.getD c 0).toNat+1)
def ft (m:Model) (values:List Bool):Nat→Nat→List Int→List Int × Bool
 | 0,_,out=>(out,true)
 | k+1,c,out=>if (jS m values c).length=1 then ft m values k (c+1) (out++jS m values c) else ([],false)
def decode (m:Model) (values:List Bool):List Int × Bool:=if aX m && ((values.length:Int) == 12) then ft m values m.sizes.length 0 [] else ([],false)
theorem B9 {m:Model} {values:List Bool} {b:Nat→Int→List Int→Option (Lo (List Int) (List Int × Bool))}
  (hb:∀i x out,m.sizes[i]?=some x→out.length=i→b i x out=some (if (jS m values i).length=1 then .cont (out++jS m values i) else .out ([],false))) :
  ∀(xs:List Int) (i:Nat) (out:List Int),m.sizes.drop i=xs→out.length=i→i+xs.length=m.sizes.length →
   aw b xs i out=some (if (ft m values xs.length i out).2 then .nx (ft m values xs.length i out).1 else .out ([],false))∧((ft m values xs.length i out).2=false→ft m values xs.length i out=([],false)):=by
 intro xs
 induction xs with
 | nil=>intro i out _ _ _; exact ⟨rfl,nofun⟩
 | cons x xs ih =>
  intro i out hd ho hl
  have hx:=aY hd
  rw [cN] at hx
  show ((b i x out).bind _)=_∧_
  rw [hb i x out hx ho]
  show _∧((ft m values (xs.length+1) i out).2=false→ft m values (xs.length+1) i out=([],false))
  rw [List.length_cons,ft]
  by_cases h1:(jS m values i).length=1
  ·rw [if_pos h1,if_pos h1]
   exact ih (i+1) _ (aL hd) (by rw [List.length_append,h1,ho]) (by simp at hl; omega)
  ·rw [if_neg h1,if_neg h1]
   exact ⟨rfl,fun _=>rfl⟩
theorem Cr {m:Model} {values:List Bool} (hok:aX m=true) (hv:values.length=12) {c:Nat} (hc:c<m.sizes.length) {v:Nat} (hv2:(v:Int)≤m.sizes[c]):idx values (i64 (bF m c v - 1))=some (pz m values c v):=by
 have hb:=nF hok hc ⟨Int.natCast_nonneg v,hv2⟩
 have hl:(bF m c v - 1).toNat<values.length:=by omega
 rw [aR (by omega) (by omega),sv (by omega) hl]
 unfold pz
 rw [List.getD_eq_getElem?_getD,List.getElem?_eq_getElem hl]
 rfl
theorem Cu {m:Model} {values:List Bool} {c:Nat} {x:Int} (hx:m.sizes[c]?=some x):jS m values c=rH m values c (x.toNat+1):=by
 unfold jS
 rw [List.getD_eq_getElem?_getD,hx]
 rfl
theorem zg {m:Model} (hok:aX m=true) {i:Nat} {x:Int} (hx:m.sizes[i]?=some x):gl m (i:Int)=some ((List.range (x.toNat+1)).map fun (v:Nat)=>bF m i (v:Int)):=by
 obtain ⟨h1,h5,ha,_⟩:=bo hok
 have hi:=(List.getElem?_eq_some_iff.1 hx).1
 have hxe:m.sizes[i]=x:=(List.getElem?_eq_some_iff.1 hx).2
 have hs:=kG ha hi
 unfold gl
 rw [iT hi,hxe,Option.bind_some,aR (by omega) (by omega)]
 have hk:jL 0 (x+1)=some (x.toNat+1):=by rw [oC (by omega) (by omega)]; congr 1; omega
 rw [hk,Option.bind_some]
 have h:=jo (b:=ji m (i:Int)) (fun j=>(List.range j).map fun (v:Nat)=>bF m i (v:Int)) (x.toNat+1) 0 (by
  intro j _ hj
  have hvar:=Eh m i (j:Int) (by omega) h5 ha ⟨by omega,by omega⟩
  show (dz m (i:Int) (j:Int)).bind _=_
  rw [hvar,Option.bind_some,bR (by simp; omega),List.range_succ,List.map_append]
  rfl)
 rw [Nat.zero_add] at h
 have e0:(List.range 0).map (fun (v:Nat)=>bF m i (v:Int))=[]:=rfl
 rw [e0] at h
 rw [h]; rfl
theorem Du {m:Model} {values:List Bool} (hok:aX m=true) (hv:values.length=12) (i:Nat) (x:Int) (out:List Int) (hx:m.sizes[i]?=some x) (ho:out.length=i) :
  gR m values i x out=some (if (jS m values i).length=1 then .cont (out++jS m values i) else .out ([],false)):=by
 obtain ⟨h1,h5,ha,_⟩:=bo hok
 have hi:=(List.getElem?_eq_some_iff.1 hx).1
 have hxe:m.sizes[i]=x:=(List.getElem?_eq_some_iff.1 hx).2
 have hs:=kG ha hi
 show (gl m (i:Int)).bind _=_
 rw [zg hok hx,Option.bind_some]
 have h:=dT (b:=jh values) (fun j=>(out++rH m values i j,((rH m values i j).length:Int))) ((List.range (x.toNat+1)).map fun (v:Nat)=>bF m i (v:Int)) (by
  intro j y hy
  have hj:j<x.toNat+1:=by have:=(List.getElem?_eq_some_iff.1 hy).1; simpa using this
  obtain rfl:bF m i (j:Int)=y:=by simpa [hj] using hy
  have hrd:=Cr hok hv hi (v:=j) (by omega)
  show (idx values (i64 (bF m i (j:Int) - 1))).bind _=_
  rw [hrd,Option.bind_some,A7]
  have hl:=B2 m values i j
  cases pz m values i j with
  | false=>simp
  | true =>
   simp only [if_true]
   rw [bR (by simp; omega),Option.bind_some,aR (by omega) (by omega)]
   simp)
 have e0:(out++rH m values i 0,((rH m values i 0).length:Int))=(out,(0:Int)):=by simp [rH]
 rw [e0,List.length_map,List.length_range,← Cu hx] at h
 rw [h]
 simp only [Option.bind_some]
 by_cases hc:(jS m values i).length=1
 ·rw [if_pos hc,if_neg (by simp [hc])]
 ·rw [if_neg hc,if_pos (by simp; omega)]
theorem Cx (m:Model) (h:kS m) (values:List Bool):jr m values=some (decode m values):=by
 unfold jr decode
 rw [uc m h,Option.bind_some]
 cases hok:aX m with
 | false=>rfl
 | true =>
  by_cases hv:values.length=12
  ·have e1:((!true) || ((values.length:Int) != 12))=false:=by simp [hv]
   have e2:(true && ((values.length:Int) == 12))=true:=by simp [hv]
   rw [e1,e2]
   obtain ⟨hl,hz⟩:=B9 (b:=gR m values) (fun i x out hx ho=>Du hok hv i x out hx ho) m.sizes 0 [] rfl rfl (by simp)
   simp only [Bool.false_eq_true,if_false,if_true]
   rw [hl]
   cases hd:(ft m values m.sizes.length 0 []).2 with
   | true=>simp only [if_true,Option.bind_some]; rw [← hd]
   | false=>rw [hz hd]; rfl
  ·have e1:((!true) || ((values.length:Int) != 12))=true:=by simp; omega
   have e2:(true && ((values.length:Int) == 12))=false:=by simp; omega
   rw [e1,e2]; rfl
theorem oE (m:Model) (values:List Bool):∀(k c:Nat) (out:List Int),(ft m values k c out).2=true→(∀i,c≤i→i<c+k→(jS m values i).length=1)∧(ft m values k c out).1.length=out.length+k ∧
  (∀i,i<out.length→(ft m values k c out).1[i]?=out[i]?)∧∀i,c≤i→i<c+k→(ft m values k c out).1[out.length+(i - c)]?=(jS m values i)[0]?
 | 0,c,out,_=>⟨fun i h1 h2=>by omega,rfl,fun _ _=>rfl,fun i h1 h2=>by omega⟩
 | k+1,c,out,h=>by
  rw [ft] at h ⊢
  by_cases hc:(jS m values c).length=1
  ·rw [if_pos hc] at h ⊢
   obtain ⟨h1,h2,h3,h4⟩:=oE m values k (c+1) _ h
   have hlen:(out++jS m values c).length=out.length+1:=by rw [List.length_append,hc]
   refine ⟨fun i hi1 hi2=>?_,by rw [h2,hlen]; omega,fun i hi=>by rw [h3 i (by omega),List.getElem?_append_left hi],fun i hi1 hi2=>?_⟩
   ·by_cases e:i=c
    ·rw [e]; exact hc
    ·exact h1 i (by omega) (by omega)
   ·by_cases e:i=c
    ·subst e
     rw [show out.length+(i - i)=out.length from by omega,h3 out.length (by omega),List.getElem?_append_right (Nat.le_refl _),Nat.sub_self]
    ·have:=h4 i (by omega) (by omega)
     rw [hlen] at this
     rwa [show out.length+(i - c)=out.length+1+(i - (c+1)) from by omega]
  ·rw [if_neg hc] at h; cases h
theorem BX {m:Model} {values:List Bool} {c k:Nat} {x:Int}:x ∈ rH m values c k ↔ ∃ v:Nat,v<k∧pz m values c v=true∧(v:Int)=x:=by
 unfold rH
 simp only [List.mem_map,List.mem_filter,List.mem_range]
 constructor
 ·rintro ⟨v,⟨h1,h2⟩,h3⟩; exact ⟨v,h1,h2,h3⟩
 ·rintro ⟨v,h1,h2,h3⟩; exact ⟨v,⟨h1,h2⟩,h3⟩
theorem zu (m:Model) (cells:List Int) (p:Nat) (hp:p<12):∀n,(yY m cells n).getD p false=true ↔ ∃ i,i<n∧(bF m i (cells.getD i 0) - 1).toNat=p
 | 0=>by
  rw [yY,List.getD_eq_getElem?_getD,List.getElem?_replicate,if_pos hp]
  constructor
  ·intro h; cases h
  ·rintro ⟨i,hi,_⟩; omega
 | n+1=>by
  have ih:=zu m cells p hp n
  rw [yY,List.getD_eq_getElem?_getD,List.getElem?_set]
  rw [List.getD_eq_getElem?_getD] at ih
  by_cases e:(bF m n (cells.getD n 0) - 1).toNat=p
  ·rw [if_pos e,if_pos (by rw [uN]; omega)]
   exact ⟨fun _=>⟨n,by omega,e⟩,fun _=>rfl⟩
  ·rw [if_neg e,ih]
   constructor
   ·rintro ⟨i,hi,h⟩; exact ⟨i,by omega,h⟩
   ·rintro ⟨i,hi,h⟩
    refine ⟨i,?_,h⟩
    by_cases en:i=n
    ·subst en; exact absurd h e
    ·omega
def CM (m:Model):Nat→List Int→Option (List Int)
 | 0,_=>none
 | k+1,cs=>if jt m cs then some cs else match dX m.sizes cs with | some t=>CM m k t | none=>none
def first (m:Model) (cs:List Int):Option (List Int):=CM m (rem m.sizes cs+1) cs
def bn (n:Int):Int:=max n (-n)
def mY (t:Term):Bool:=(t.lit != 0 && decide (-12≤t.lit) && decide (t.lit≤12)) && (decide (1≤t.coef) && decide (t.coef≤1000))
def b6:Int→List Term→Bool
 | _,[]=>true
 | b,t :: ts=>(mY t && decide (b<bn t.lit)) && b6 (bn t.lit) ts
def okB (b:Int):Bool:=decide (0≤b) && decide (b≤20000)
def bp (c:Con):Bool:=b6 0 c.terms && okB c.bound
theorem sc:∀(ts:List Term) (i:Nat) (b:Int),∃ b',aw dw ts i b=some (if b6 b ts then .nx b' else .out false)
 | [],i,b=>⟨b,rfl⟩
 | t :: ts,i,b=>by
  obtain ⟨b',h⟩:=sc ts (i+1) (bn t.lit)
  refine ⟨b',?_⟩
  show (dw i t b).bind _=_
  have e:dw i t b=some (if mY t && decide (b<bn t.lit) then .cont (bn t.lit) else .out false):=by
   unfold dw gP cX dW mY bn
   by_cases h0:t.lit=0
   ·simp [h0]
   by_cases h1:-12≤t.lit∧t.lit≤12
   ·rw [aR (n:=-t.lit) (by omega) (by omega)]
    by_cases h2:1≤t.coef∧t.coef≤1000
    ·by_cases h3:b<max t.lit (-t.lit)
     ·have:¬ max t.lit (-t.lit)≤b:=by omega
      simp [h0,h1.1,h1.2,h2.1,h2.2,h3,this]
     ·have:max t.lit (-t.lit)≤b:=by omega
      simp [h0,h1.1,h1.2,h2.1,h2.2,h3,this]
    ·have h2':(decide (1≤t.coef) && decide (t.coef≤1000))=false:=by simp; omega
     simp only [h2']
     simp [h0,h1.1,h1.2]
   ·have h1':(decide (-12≤t.lit) && decide (t.lit≤12))=false:=by simp; omega
    simp only [Bool.and_assoc,h1']
    simp [h0]
  rw [e,b6]
  cases mY t && decide (b<bn t.lit) with
  | true=>simpa using h
  | false=>rfl
theorem kn (c:Con):bW c=some (bp c):=by
 unfold bW bp
 obtain ⟨b',h⟩:=sc c.terms 0 0
 rw [h]
 cases b6 0 c.terms <;> simp [cX,okB]
theorem CH (n:Int) (h1:-9223372036854775807≤n) (h2:n≤9223372036854775807):nr n=some (bn n):=by
 unfold nr bn
 by_cases h:n<0
 ·rw [if_pos (by simpa using h),aR (by omega) (by omega)]; congr 1; omega
 ·rw [if_neg (by simpa using h)]; congr 1; omega
theorem dE {t:Term} (h:mY t=true):t.lit ≠ 0∧-12≤t.lit∧t.lit≤12∧1≤t.coef∧t.coef≤1000:=by
 unfold mY at h
 simp at h
 exact ⟨h.1.1.1,h.1.1.2,h.1.2,h.2.1,h.2.2⟩
theorem sb (c:Con) (hl:c.terms.length≤ML):∀(ts:List Term) (i:Nat) (b:Int),c.terms.drop i=ts→(i=0∧b=0 ∨ ∃ t,0<i∧c.terms[i - 1]?=some t∧mY t=true∧b=bn t.lit) →
  aw (dx c) ts i ()=some (if b6 b ts then .nx () else .out false)
 | [],i,b,_,_=>rfl
 | t :: ts,i,b,hd,hb=>by
  show (dx c i t ()).bind _=_
  have e:dx c i t ()=some (if mY t && decide (b<bn t.lit) then .cont () else .out false):=by
   unfold dx qQ
   by_cases hk:mY t=true
   ·obtain ⟨h0,h1,h2,h3,h4⟩:=dE hk
    have e1:((!((t.lit != 0) && decide (t.lit ≥ -12) && decide (t.lit≤12)) || decide (t.coef<1)) || decide (t.coef > 1000))=false:=by simp; omega
    simp only [Option.bind_some,e1,hk]
    have hpos:0<bn t.lit:=by unfold bn; omega
    rcases hb with ⟨rfl,rfl⟩ | ⟨p,hi,hp,hpk,rfl⟩
    ·simp [hpos]
    ·obtain ⟨q0,q1,q2,_,_⟩:=dE hpk
     have hil:=(List.getElem?_eq_some_iff.1 hp).1
     unfold ML at hl
     have hi2:decide ((i:Int) > 0)=true:=by simpa using hi
     have e2:idx c.terms (i64 ((i:Int) - 1))=some p:=by
      rw [aR (by omega) (by omega),show (i:Int) - 1=((i - 1:Nat):Int) by omega,cN,hp]
     simp only [hi2,e2,Option.bind_some,CH p.lit (by omega) (by omega),CH t.lit (by omega) (by omega)]
     by_cases h5:bn p.lit<bn t.lit
     ·have:¬ bn p.lit ≥ bn t.lit:=by omega
      simp [h5,this]
     ·have:bn p.lit ≥ bn t.lit:=by omega
      simp [h5,this]
   ·have hk':mY t=false:=by simpa using hk
    have e1:((!((t.lit != 0) && decide (t.lit ≥ -12) && decide (t.lit≤12)) || decide (t.coef<1)) || decide (t.coef > 1000))=true:=by
     cases hx:((!((t.lit != 0) && decide (t.lit ≥ -12) && decide (t.lit≤12)) || decide (t.coef<1)) || decide (t.coef > 1000)) with
     | true=>rfl
     | false =>
      exfalso
      apply hk
      unfold mY
      simp at hx ⊢
      omega
    simp only [Option.bind_some,e1,hk']
    rfl
  rw [e,b6]
  cases hok:mY t && decide (b<bn t.lit) with
  | true =>
   rw [Bool.and_eq_true] at hok
   simpa using sb c hl ts (i+1) (bn t.lit) (aL hd) (.inr ⟨t,by omega,by have:=aY hd; rw [cN] at this; simpa using this,hok.1,rfl⟩)
  | false=>rfl
theorem DY (c:Con) (hl:c.terms.length≤ML):gL c=some (bp c):=by
 unfold gL bp
 rw [sb c hl c.terms 0 0 rfl (.inl ⟨rfl,rfl⟩)]
 cases b6 0 c.terms <;> simp [okB]
theorem tq:∀(ts:List Term) (b:Int),0≤b→b6 b ts=true→(ts.length:Int)+b≤12 ∨ ts=[]
 | [],_,_,_=>.inr rfl
 | t :: ts,b,hb,h=>by
  rw [b6,Bool.and_eq_true,Bool.and_eq_true] at h
  obtain ⟨⟨h1,h2⟩,h3⟩:=h
  obtain ⟨h0,l1,l2,_,_⟩:=dE h1
  have h2:=of_decide_eq_true h2
  have ha:bn t.lit≤12:=by unfold bn; omega
  left
  rcases tq ts (bn t.lit) (by omega) h3 with h | h
  ·simp; omega
  ·subst h; simp; omega
theorem pQ:∀(ts:List Term) (b:Int),b6 b ts=true→∀t ∈ ts,mY t=true
 | [],_,_,t,ht=>by cases ht
 | t :: ts,b,h,u,hu=>by
  rw [b6,Bool.and_eq_true,Bool.and_eq_true] at h
  rcases List.mem_cons.1 hu with rfl | hu
  ·exact h.1.1
  ·exact pQ ts _ h.2 u hu
theorem bH {c:Con} (h:bp c=true):b6 0 c.terms=true∧c.terms.length≤12∧(∀t ∈ c.terms,mY t=true)∧0≤c.bound∧c.bound≤20000:=by
 unfold bp okB at h
 simp at h
 refine ⟨h.1,?_,pQ _ _ h.1,h.2.1,h.2.2⟩
 rcases tq _ _ (Int.le_refl 0) h.1 with h | h
 ·omega
 ·rw [h]; simp
def vS (ts:List Term):Int:=ts.foldl (fun n t=>n+t.coef) 0
theorem A8 (ts:List Term) (t:Term):vS (ts++[t])=vS ts+t.coef:=by simp [vS,List.foldl_append]
theorem vd:∀(ts:List Term),(∀t ∈ ts,mY t=true)→(ts.length:Int)≤vS ts∧vS ts≤1000 * ts.length:=by
 intro ts
 have key:∀(ts:List Term) (n:Int),(∀t ∈ ts,mY t=true)→n+ts.length≤ts.foldl (fun n t=>n+t.coef) n∧ts.foldl (fun n t=>n+t.coef) n≤n+1000 * ts.length:=by
  intro ts
  induction ts with
  | nil=>intro n _; simp
  | cons t ts ih =>
   intro n h
   obtain ⟨_,_,_,h3,h4⟩:=dE (h t (by simp))
   have:=ih (n+t.coef) fun u hu=>h u (by simp [hu])
   simp only [List.foldl_cons,List.length_cons]
   omega
 intro h
 have:=key ts 0 h
 unfold vS
 omega
theorem Df {τ:Type} {b:Nat→Term→Int→Option (Lo Int τ)} (hb:∀i t n,b i t n=some (.cont (i64 (n+t.coef)))) (ts:List Term) (h:∀t ∈ ts,mY t=true) (hl:ts.length≤12) :
  aw b ts 0 0=some (.nx (vS ts)):=by
 have:=dT (b:=b) (fun i=>vS (ts.take i)) ts (by
  intro i t ht
  have hi:=(List.getElem?_eq_some_iff.1 ht).1
  have e:ts.take (i+1)=ts.take i++[t]:=by rw [List.take_add_one,ht]; rfl
  have h1:=vd (ts.take (i+1)) fun u hu=>h u (List.mem_of_mem_take hu)
  have h2:(ts.take (i+1)).length≤12:=by simp; omega
  rw [hb,e,A8] at *
  rw [aR (by omega) (by omega)])
 simpa [vS] using this
def Dn (c:Con):Int:=vS c.terms
theorem AZ {c:Con} (h:bp c=true):eY c=some (Dn c):=by
 obtain ⟨_,h2,h3,_⟩:=bH h
 unfold eY
 rw [Df (b:=gA) (fun _ _ _=>rfl) c.terms h3 h2]
 rfl
def gD (list:List Con):Bool:=list.all bp && decide ((list.length:Int)≤400)
theorem zN (s:List Con) {p:Con→Option Bool} {q:Con→Bool} (hp:∀c ∈ s,p c=some (q c)):cD s p=some (s.any q):=by
 unfold cD dv
 obtain ⟨j,h1,h2⟩:=kB (q:=q) (b:=di p) s (fun i x hx=>by show (p x).bind _=_; rw [hp x (List.mem_of_getElem? hx)]; show (if _ then _ else _)=_; cases q x <;> rfl)
 rw [h1]
 cases j with
 | nx u=>simp only at h2; rw [h2]; rfl
 | out t=>simp only at h2; rw [h2.2]; simp [h2.1]
theorem wm (list:List Con):il list=some (gD list):=by
 unfold il oJ gD
 rw [zN list (q:=fun c=>!bp c) fun c _=>by unfold jK; rw [kn]; rfl]
 have e:list.any (fun c=>!bp c)=!list.all bp:=kA _ _
 rw [e]
 cases h:decide ((list.length:Int)≤400) <;> simp [h]
def kH (p:List Int):Prop:=p.length=12∧∀x ∈ p,-1≤x∧x≤1
def iy (p:List Int) (l:Int):Int:=if l > 0 then p.getD (l - 1).toNat 0 else - p.getD (-l - 1).toNat 0
theorem tN {p:List Int} (hp:kH p) (k:Nat) (hk:k<12):p[k]?=some (p.getD k 0)∧-1≤p.getD k 0∧p.getD k 0≤1:=by
 have h:k<p.length:=by rw [hp.1]; exact hk
 have e:p.getD k 0=p[k]:=by rw [List.getD_eq_getElem?_getD,List.getElem?_eq_getElem h]; rfl
 rw [e]
 exact ⟨List.getElem?_eq_getElem h,hp.2 _ (List.getElem_mem h)⟩
theorem wO {p:List Int} (hp:kH p) {k:Int} (h0:0≤k) (h1:k<12):idx p k=some (p.getD k.toNat 0):=by
 have:=(tN hp k.toNat (by omega)).1
 obtain ⟨n,rfl⟩:∃ n:Nat,k=(n:Int):=⟨k.toNat,by omega⟩
 rw [cN]
 simpa using this
theorem s6 {p:List Int} (hp:kH p) {l:Int} (h0:l ≠ 0) (h1:-12≤l) (h2:l≤12):-1≤iy p l∧iy p l≤1:=by
 unfold iy
 split
 ·exact (tN hp _ (by omega)).2
 ·have:=(tN hp (-l - 1).toNat (by omega)).2; omega
theorem Aw {p:List Int} (hp:kH p) {l:Int} (h0:l ≠ 0) (h1:-12≤l) (h2:l≤12):np l p=some (iy p l):=by
 unfold np iy
 by_cases h:l<0
 ·have hr:=(tN hp (-l - 1).toNat (by omega)).2
  rw [if_pos (by simpa using h),if_neg (by omega),aR (n:=-l) (by omega) (by omega),aR (n:=-l - 1) (by omega) (by omega),wO hp (by omega) (by omega),Option.bind_some,aR (by omega) (by omega)]
 ·rw [if_neg (by simpa using h),if_pos (by omega),aR (by omega) (by omega),wO hp (by omega) (by omega)]; rfl
def me (p:List Int) (ts:List Term):Int:=ts.foldl (fun n t=>if iy p t.lit ≥ 0 then n+t.coef else n) 0
def ew (c:Con) (p:List Int):Int:=-c.bound+me p c.terms
theorem Ai (p:List Int) (ts:List Term) (t:Term):me p (ts++[t])=if iy p t.lit ≥ 0 then me p ts+t.coef else me p ts:=by simp [me,List.foldl_append]
theorem y3 (p:List Int):∀(ts:List Term),(∀t ∈ ts,mY t=true)→0≤me p ts∧me p ts≤1000 * ts.length:=by
 intro ts
 have key:∀(ts:List Term) (n:Int),(∀t ∈ ts,mY t=true)→n≤ts.foldl (fun n t=>if iy p t.lit ≥ 0 then n+t.coef else n) n∧ts.foldl (fun n t=>if iy p t.lit ≥ 0 then n+t.coef else n) n≤n+1000 * ts.length:=by
  intro ts
  induction ts with
  | nil=>intro n _; simp
  | cons t ts ih =>
   intro n h
   obtain ⟨_,_,_,h3,h4⟩:=dE (h t (by simp))
   simp only [List.foldl_cons,List.length_cons]
   split
   ·have:=ih (n+t.coef) fun u hu=>h u (by simp [hu])
    omega
   ·have:=ih n fun u hu=>h u (by simp [hu])
    omega
 intro h
 have:=key ts 0 h
 unfold me
 omega
theorem Ao {τ:Type} {p:List Int} {b:Nat→Term→Int→Option (Lo Int τ)} (c:Con) (h:bp c=true)
  (hb:∀i t n,mY t=true→b i t n=some (.cont (if iy p t.lit ≥ 0 then i64 (n+t.coef) else n))) :
  aw b c.terms 0 (i64 (-c.bound))=some (.nx (ew c p)):=by
 obtain ⟨_,h2,h3,h4,h5⟩:=bH h
 have:=dT (b:=b) (fun i=>-c.bound+me p (c.terms.take i)) c.terms (by
  intro i t ht
  have hi:=(List.getElem?_eq_some_iff.1 ht).1
  have e:c.terms.take (i+1)=c.terms.take i++[t]:=by rw [List.take_add_one,ht]; rfl
  have h1:=y3 p (c.terms.take i) fun u hu=>h3 u (List.mem_of_mem_take hu)
  have hl:(c.terms.take i).length≤12:=by simp; omega
  have hk:=h3 t (List.mem_of_getElem? ht)
  obtain ⟨_,_,_,q1,q2⟩:=dE hk
  rw [hb _ _ _ hk,e,Ai]
  split
  ·rw [aR (by omega) (by omega)]; congr 2; omega
  ·rfl)
 rw [aR (by omega) (by omega)]
 simpa [me,ew] using this
theorem AF {c:Con} (h:bp c=true) {p:List Int} (hp:kH p):e7 c p=some (ew c p):=by
 unfold e7
 rw [Ao (b:=gz p) (p:=p) c h fun i t n hk=>by
  obtain ⟨h0,h1,h2,_,_⟩:=dE hk
  show (np t.lit p).bind _=_
  rw [Aw hp h0 h1 h2,Option.bind_some]
  by_cases hs:iy p t.lit ≥ 0 <;> simp [hs]]
 rfl
def Bx (p:List Int) (sl:Int) (t:Term):Bool:=(iy p t.lit == 0) && decide (t.coef > sl)
def lR (p:List Int) (sl:Int) (ts:List Term):List Int:=(ts.filter (Bx p sl)).map (·.lit)
theorem Bi (p:List Int) (sl:Int) (ts:List Term) (t:Term):lR p sl (ts++[t])=if Bx p sl t then lR p sl ts++[t.lit] else lR p sl ts:=by
 unfold lR
 rw [List.filter_append,List.map_append]
 cases h:Bx p sl t <;> simp [h]
theorem Ch (p:List Int) (sl:Int) (ts:List Term):(lR p sl ts).length≤ts.length:=by
 unfold lR
 rw [List.length_map]
 exact List.length_filter_le _ _
theorem Bd {c:Con} (h:bp c=true) {p:List Int} (hp:kH p):fi c p=some (lR p (ew c p) c.terms):=by
 obtain ⟨_,h2,h3,_,_⟩:=bH h
 unfold fi
 rw [AF h hp,Option.bind_some]
 have:=dT (b:=fx p (ew c p)) (fun i=>lR p (ew c p) (c.terms.take i)) c.terms (by
  intro i t ht
  have e:c.terms.take (i+1)=c.terms.take i++[t]:=by rw [List.take_add_one,ht]; rfl
  have hk:=h3 t (List.mem_of_getElem? ht)
  obtain ⟨h0,h1,h2',_,_⟩:=dE hk
  have hl:=Ch p (ew c p) (c.terms.take i)
  show (np t.lit p).bind _=_
  rw [Aw hp h0 h1 h2',Option.bind_some,e,Bi]
  have hl2:(c.terms.take i).length≤12:=by simp; omega
  rw [bR (by simp; omega)]
  unfold Bx
  cases hs:(iy p t.lit == 0) && decide (t.coef > ew c p) <;> simp)
 have e0:lR p (ew c p) (c.terms.take 0)=[]:=rfl
 rw [e0] at this
 rw [this]
 simp
def tD (p:List Int) (l:Int):List Int:=if l > 0 then p.set (l - 1).toNat 1 else p.set (-l - 1).toNat (-1)
theorem mJ {p:List Int} (hp:kH p) (l:Int):kH (tD p l):=by
 unfold tD
 split
 all_goals
  refine ⟨by rw [List.length_set]; exact hp.1,fun x hx=>?_⟩
  rcases List.mem_or_eq_of_mem_set hx with h | h
  ·exact hp.2 x h
  ·subst h; omega
def cf (l:Int):Prop:=l ≠ 0∧-12≤l∧l≤12
def ey (p:List Int) (ls:List Int):List Int:=ls.foldl tD p
theorem iX:∀(ls:List Int) {p:List Int},kH p→kH (ey p ls)
 | [],_,hp=>hp
 | l :: ls,_,hp=>iX ls (mJ hp l)
theorem yE {τ:Type} {b:Nat→Int→(List Int × Bool)→Option (Lo (List Int × Bool) τ)} (hb:∀i l p m,kH p→cf l→b i l (p,m)=some (.cont (tD p l,true))) :
  ∀(ls:List Int) (i:Nat) (p:List Int) (m:Bool),kH p→(∀l ∈ ls,cf l)→aw b ls i (p,m)=some (.nx (ey p ls,m || !ls.isEmpty))
 | [],i,p,m,_,_=>by simp [aw,ey]
 | l :: ls,i,p,m,hp,hl=>by
  show (b i l (p,m)).bind _=_
  rw [hb i l p m hp (hl l (by simp))]
  show aw b ls (i+1) (tD p l,true)=_
  rw [yE hb ls (i+1) _ true (mJ hp l) fun x hx=>hl x (by simp [hx])]
  simp [ey]
theorem EK {p:List Int} (hp:kH p) (m:Bool) (ls:List Int) (hl:∀l ∈ ls,cf l):aw jz ls 0 (p,m)=some (.nx (ey p ls,m || !ls.isEmpty)):=
 yE (fun i l p m hp h=>by
  obtain ⟨h0,h1,h2⟩:=h
  rw [jz]; unfold tD
  by_cases h:l > 0
  ·rw [if_pos h,if_pos (decide_eq_true h),aR (by omega) (by omega),wO hp (by omega) (by omega)]; rfl
  ·rw [if_neg h,if_neg (by simpa using h),aR (n:=-l) (by omega) (by omega),aR (n:=-l - 1) (by omega) (by omega),wO hp (by omega) (by omega)]; rfl) ls 0 p m hp hl
def df (f:Term→Int):List Term→Int
 | []=>0
 | t :: ts=>f t+df f ts
theorem oZ (f:Term→Int):∀(ts:List Term) (n:Int),ts.foldl (fun n t=>n+f t) n=n+df f ts
 | [],n=>by simp [df]
 | t :: ts,n=>by rw [List.foldl_cons,oZ f ts,df]; omega
theorem oK {f g:Term→Int}:∀(ts:List Term),(∀t ∈ ts,f t≤g t)→df f ts≤df g ts
 | [],_=>Int.le_refl _
 | t :: ts,h=>by
  have h1:=h t (by simp)
  have h2:=oK (f:=f) (g:=g) ts fun u hu=>h u (by simp [hu])
  simp only [df]; omega
theorem qk {f g:Term→Int} (u:Term) (d:Int) (hd:f u+d≤g u):∀(ts:List Term),u ∈ ts→(∀t ∈ ts,f t≤g t)→df f ts+d≤df g ts
 | [],hu,_=>by cases hu
 | t :: ts,hu,h=>by
  have h1:=h t (by simp)
  have h2:=oK (f:=f) (g:=g) ts fun u hu=>h u (by simp [hu])
  simp only [df]
  rcases List.mem_cons.1 hu with e | hu
  ·rw [← e] at *; omega
  ·have:=qk (f:=f) (g:=g) u d hd ts hu fun u hu=>h u (by simp [hu]); omega
theorem mD (p:List Int) (ts:List Term):me p ts=df (fun t=>if iy p t.lit ≥ 0 then t.coef else 0) ts:=by
 have:=oZ (fun t=>if iy p t.lit ≥ 0 then t.coef else 0) ts 0
 rw [Int.zero_add] at this
 rw [← this,me]
 congr 1
 funext n t
 split <;> omega
def tu (p q:List Int):Prop:=∀k,k<12→p.getD k 0 ≠ 0→q.getD k 0=p.getD k 0
theorem vH (p:List Int):tu p p:=fun _ _ _=>rfl
theorem wF {p q r:List Int} (h:tu p q) (h':tu q r):tu p r:=fun k hk hn=>by
 have e:=h k hk hn
 rw [h' k hk (by rw [e]; exact hn),e]
theorem ue {p q:List Int} (h:tu p q) {l:Int} (hl:cf l) (hn:iy p l ≠ 0):iy q l=iy p l:=by
 obtain ⟨h0,h1,h2⟩:=hl
 unfold iy at *
 split
 ·rename_i hp
  rw [if_pos hp] at hn
  exact h _ (by omega) hn
 ·rename_i hp
  rw [if_neg hp] at hn
  rw [h _ (by omega) (by omega)]
theorem lu {t:Term} (h:mY t=true):cf t.lit:=⟨(dE h).1,(dE h).2.1,(dE h).2.2.1⟩
theorem pV (p:List Int) (i k:Nat) (x:Int) (hk:k<p.length):(p.set i x).getD k 0=if i=k then x else p.getD k 0:=by
 rw [List.getD_eq_getElem?_getD,List.getElem?_set,List.getD_eq_getElem?_getD]
 split
 ·rename_i h; subst h; simp [hk]
 ·rfl
theorem DH {p q:List Int} (hp:kH p) (h:tu p q) {l:Int} (hl:cf l) (hq:iy q l=1):tu (tD p l) q:=by
 obtain ⟨h0,h1,h2⟩:=hl
 intro k hk hn
 unfold tD iy at *
 split at hq
 ·rename_i hp'
  rw [if_pos hp',pV _ _ _ _ (by rw [hp.1]; exact hk)] at *
  split
  ·rename_i e; subst e; exact hq
  ·rename_i e; rw [if_neg e] at hn; exact h k hk hn
 ·rename_i hp'
  rw [if_neg hp',pV _ _ _ _ (by rw [hp.1]; exact hk)] at *
  split
  ·rename_i e; subst e; omega
  ·rename_i e; rw [if_neg e] at hn; exact h k hk hn
theorem vl {p q:List Int} (hp:kH p) (hq:kH q) (h:tu p q) {c:Con} (hc:bp c=true):ew c q≤ew c p:=by
 unfold ew
 rw [mD,mD]
 have:=oK (f:=fun t=>if iy q t.lit ≥ 0 then t.coef else 0) (g:=fun t=>if iy p t.lit ≥ 0 then t.coef else 0) c.terms fun t ht=>by
  have hk:=(bH hc).2.2.1 t ht
  have hl:=lu hk
  have h3:=(dE hk).2.2.2.1
  by_cases h0:iy p t.lit=0
  ·simp only [h0]; split <;> simp; omega
  ·simp only [ue h hl h0]; omega
 omega
def l6 (q:List Int) (c:Con):Prop:=0≤ew c q∧lR q (ew c q) c.terms=[]
theorem qf {p:List Int} {sl:Int} {ts:List Term} {l:Int} (h:l ∈ lR p sl ts):∃ t ∈ ts,t.lit=l∧iy p l=0∧t.coef > sl:=by
 unfold lR at h
 obtain ⟨t,ht,rfl⟩:=List.mem_map.1 h
 rw [List.mem_filter] at ht
 have:=ht.2
 unfold Bx at this
 simp at this
 exact ⟨t,ht.1,rfl,this.1,this.2⟩
theorem vo {p:List Int} {sl:Int} {ts:List Term} (h:lR p sl ts=[]) {t:Term} (ht:t ∈ ts) (h0:iy p t.lit=0):t.coef≤sl:=by
 unfold lR at h
 rw [List.map_eq_nil_iff,List.filter_eq_nil_iff] at h
 have:=h t ht
 unfold Bx at this
 simp [h0] at this
 exact this
theorem zY {p q:List Int} (hp:kH p) (hq:kH q) (h:tu p q) {c:Con} (hc:bp c=true) (hcl:l6 q c) {l:Int} (hl:l ∈ lR p (ew c p) c.terms):cf l∧iy q l=1:=by
 obtain ⟨t,ht,rfl,h0,hs⟩:=qf hl
 have hk:=(bH hc).2.2.1 t ht
 have hl:=lu hk
 refine ⟨hl,?_⟩
 have hm:=vl hp hq h hc
 have hr:=s6 hq hl.1 hl.2.1 hl.2.2
 by_cases e0:iy q t.lit=0
 ·have:=vo hcl.2 ht e0
  omega
 ·by_cases e1:iy q t.lit=1
  ·exact e1
  exfalso
  have hn:iy q t.lit<0:=by omega
  have:=qk (f:=fun t=>if iy q t.lit ≥ 0 then t.coef else 0) (g:=fun t=>if iy p t.lit ≥ 0 then t.coef else 0) t t.coef (by simp only [h0]; rw [if_neg (by omega)]; simp) c.terms ht fun t ht=>by
   have hk:=(bH hc).2.2.1 t ht
   have hl:=lu hk
   have h3:=(dE hk).2.2.2.1
   by_cases h0:iy p t.lit=0
   ·simp only [h0]; split <;> simp; omega
   ·simp only [ue h hl h0]; omega
  have hcl:=hcl.1
  unfold ew at hcl hs
  rw [mD] at hcl hs
  omega
inductive PR
 | conf (p:List Int) (i:Nat)
 | go (p:List Int) (m:Bool)
def pass:List Con→Nat→List Int→Bool→PR
 | [],_,p,m=>.go p m
 | c :: cs,i,p,m=>if ew c p<0 then .conf p i else pass cs (i+1) (ey p (lR p (ew c p) c.terms)) (m || !(lR p (ew c p) c.terms).isEmpty)
def prop:Nat→List Con→List Int→List Int × Int
 | 0,_,p=>(p,-1)
 | n+1,cs,p=>match pass cs 0 p false with
  | .conf p' i=>(p',(i:Int))
  | .go p' m=>if m then prop n cs p' else (p',-1)
def vT (p:List Int):Nat:=p.countP (· == 0)
theorem AD (p:List Int) (k:Nat) (x:Int) (hk:k<p.length) (hx:x ≠ 0):vT (p.set k x)+(if p.getD k 0=0 then 1 else 0)=vT p:=by
 unfold vT
 induction p generalizing k with
 | nil=>simp at hk
 | cons a p ih =>
  cases k with
  | zero=>simp only [List.set_cons_zero,List.countP_cons,List.getD_cons_zero]; simp [hx]
  | succ k =>
   have:=ih k (by simpa using hk)
   simp only [List.set_cons_succ,List.countP_cons,List.getD_cons_succ]
   omega
theorem xr {p:List Int} (hp:kH p) {l:Int} (hl:cf l):vT (tD p l)≤vT p∧(iy p l=0→vT (tD p l)<vT p):=by
 obtain ⟨h0,h1,h2⟩:=hl
 unfold tD iy
 split
 ·have:=AD p (l - 1).toNat 1 (by rw [hp.1]; omega) (by omega)
  constructor
  ·omega
  ·intro h; rw [if_pos h] at this; omega
 ·have:=AD p (-l - 1).toNat (-1) (by rw [hp.1]; omega) (by omega)
  constructor
  ·omega
  ·intro h; rw [if_pos (by omega)] at this; omega
theorem uJ:∀(ls:List Int) {p:List Int},kH p→(∀l ∈ ls,cf l)→vT (ey p ls)≤vT p
 | [],p,_,_=>Nat.le_refl _
 | l :: ls,p,hp,h=>Nat.le_trans (uJ ls (mJ hp l) fun x hx=>h x (by simp [hx])) (xr hp (h l (by simp))).1
theorem rR {p:List Int} {c:Con} (hc:bp c=true) {sl:Int}:∀l ∈ lR p sl c.terms,cf l:=by
 intro l hl
 obtain ⟨t,ht,rfl,_,_⟩:=qf hl
 exact lu ((bH hc).2.2.1 t ht)
theorem Dm {p:List Int} (hp:kH p) {c:Con} (hc:bp c=true) {sl:Int} (hn:lR p sl c.terms ≠ []):vT (ey p (lR p sl c.terms))<vT p:=by
 have hl:=rR (p:=p) hc (sl:=sl)
 cases h:lR p sl c.terms with
 | nil=>exact absurd h hn
 | cons l ls =>
  rw [h] at hl
  obtain ⟨t,ht,_,h0,_⟩:=qf (l:=l) (by rw [h]; simp)
  have:=uJ ls (mJ hp l) fun x hx=>hl x (by simp [hx])
  have:=(xr hp (hl l (by simp))).2 h0
  show vT (ey (tD p l) ls)<_
  omega
theorem ve:∀(cs:List Con) (i:Nat) (p:List Int) (m:Bool),kH p→(∀c ∈ cs,bp c=true)→∀p' m',pass cs i p m=.go p' m'→kH p'∧vT p'≤vT p∧(m'=true→m=true ∨ vT p'<vT p)
 | [],i,p,m,hp,_,p',m',h=>by
  cases h
  exact ⟨hp,Nat.le_refl _,fun h=>.inl h⟩
 | c :: cs,i,p,m,hp,hc,p',m',h=>by
  rw [pass] at h
  split at h
  ·cases h
  ·have hcc:=hc c (by simp)
   obtain ⟨g1,g2,g3⟩:=ve cs _ _ _ (iX _ hp) (fun x hx=>hc x (by simp [hx])) p' m' h
   have hz:=uJ (lR p (ew c p) c.terms) hp (rR hcc)
   refine ⟨g1,by omega,fun hm=>?_⟩
   rcases g3 hm with h1 | h1
   ·rw [Bool.or_eq_true] at h1
    rcases h1 with h1 | h1
    ·exact .inl h1
    ·refine .inr ?_
     have:=Dm hp hcc (sl:=ew c p) (by intro e; rw [e] at h1; simp at h1)
     omega
   ·exact .inr (by omega)
theorem r7:∀(ls:List Int) {p q:List Int},kH p→tu p q→(∀l ∈ ls,cf l∧iy q l=1)→tu (ey p ls) q
 | [],_,_,_,h,_=>h
 | l :: ls,_,_,hp,h,hl=>r7 ls (mJ hp l) (DH hp h (hl l (by simp)).1 (hl l (by simp)).2) fun x hx=>hl x (by simp [hx])
theorem tg {q:List Int} (hq:kH q):∀(cs:List Con) (i:Nat) (p:List Int) (m:Bool),kH p→tu p q→(∀c ∈ cs,bp c=true∧l6 q c)→∃ p' m',pass cs i p m=.go p' m'∧kH p'∧tu p' q
 | [],i,p,m,hp,hle,_=>⟨p,m,rfl,hp,hle⟩
 | c :: cs,i,p,m,hp,hle,hc=>by
  obtain ⟨h1,h2⟩:=hc c (by simp)
  have hs:=vl hp hq hle h1
  have:=h2.1
  rw [pass,if_neg (by omega)]
  exact tg hq cs _ _ _ (iX _ hp) (r7 _ hp hle fun l hl=>zY hp hq hle h1 h2 hl) fun x hx=>hc x (by simp [hx])
theorem pY {q:List Int} (hq:kH q) {cs:List Con} (hc:∀c ∈ cs,bp c=true∧l6 q c):∀(n:Nat) (p:List Int),kH p→tu p q→∃ p',prop n cs p=(p',-1)∧kH p'∧tu p' q
 | 0,p,hp,hle=>⟨p,rfl,hp,hle⟩
 | n+1,p,hp,hle=>by
  obtain ⟨p',m',e,h1,h2⟩:=tg hq cs 0 p false hp hle hc
  rw [prop,e]
  cases m' with
  | true=>exact pY hq hc n p' h1 h2
  | false=>exact ⟨p',rfl,h1,h2⟩
theorem xT {p:List Int} (hp:kH p) {l:Int} (hl:cf l) {k:Int} (hk:cf k):iy (tD p l) k=if bn k=bn l then (if k=l then 1 else -1) else iy p k:=by
 obtain ⟨h0,h1,h2⟩:=hl
 obtain ⟨k0,k1,k2⟩:=hk
 unfold tD iy bn
 split
 all_goals
  split
  all_goals
   rw [pV _ _ _ _ (by rw [hp.1]; omega)]
   split
   ·split
    ·split <;> omega
    ·omega
   ·split
    ·omega
    ·rfl
theorem wa:∀(cs:List Con) (i:Nat) (p:List Int) (m:Bool) (p':List Int),pass cs i p m=.go p' false→m=false∧p'=p∧∀c ∈ cs,l6 p c
 | [],i,p,m,p',h=>by
  cases h
  exact ⟨rfl,rfl,fun _ h=>by cases h⟩
 | c :: cs,i,p,m,p',h=>by
  rw [pass] at h
  split at h
  ·cases h
  ·rename_i hs
   obtain ⟨g1,g2,g3⟩:=wa cs _ _ _ p' h
   rw [Bool.or_eq_false_iff] at g1
   have e:lR p (ew c p) c.terms=[]:=by
    have:=g1.2
    cases h:lR p (ew c p) c.terms with
    | nil=>rfl
    | cons x xs=>rw [h] at this; simp at this
   rw [e] at g2 g3
   refine ⟨g1.1,g2,fun x hx=>?_⟩
   rcases List.mem_cons.1 hx with rfl | hx
   ·exact ⟨by omega,e⟩
   ·exact g3 x hx
theorem uu {cs:List Con} (hc:∀c ∈ cs,bp c=true):∀(n:Nat) (p:List Int),kH p→vT p<n→∀p',prop n cs p=(p',-1)→kH p'∧∀c ∈ cs,l6 p' c
 | 0,p,_,hz,_,_=>by omega
 | n+1,p,hp,hz,p',h=>by
  rw [prop] at h
  cases hpa:pass cs 0 p false with
  | conf p1 i=>rw [hpa] at h; simp only [Prod.mk.injEq] at h; omega
  | go p1 m1 =>
   rw [hpa] at h
   obtain ⟨g1,g2,g3⟩:=ve cs 0 p false hp hc p1 m1 hpa
   cases m1 with
   | true =>
    simp only [if_true] at h
    refine uu hc n p1 g1 ?_ p' h
    rcases g3 rfl with h | h
    ·cases h
    ·omega
   | false =>
    obtain ⟨_,rfl,h3⟩:=wa cs 0 p false p1 hpa
    simp at h
    subst h
    exact ⟨g1,h3⟩
def cO (v:List Bool) (l:Int):Bool:=if l > 0 then v.getD (l - 1).toNat false else !(v.getD (-l - 1).toNat false)
def eH (v:List Bool) (ts:List Term):Int:=df (fun t=>if cO v t.lit then t.coef else 0) ts
def fJ (c:Con) (v:List Bool):Bool:=decide (eH v c.terms ≥ c.bound)
def zv (v:List Bool):List Int:=v.map fun b=>if b then 1 else -1
theorem EL {v:List Bool} (h:v.length=12):kH (zv v):=by
 refine ⟨by simp [zv,h],fun x hx=>?_⟩
 obtain ⟨b,_,rfl⟩:=List.mem_map.1 hx
 cases b <;> simp
theorem sr (v:List Bool) (k:Nat) (h:k<v.length):(zv v).getD k 0=if v.getD k false then 1 else -1:=by
 rw [List.getD_eq_getElem?_getD,List.getD_eq_getElem?_getD,zv,List.getElem?_map,List.getElem?_eq_getElem h]
 rfl
theorem tP {v:List Bool} (h:v.length=12) {l:Int} (hl:cf l):iy (zv v) l=if cO v l then 1 else -1:=by
 obtain ⟨h0,h1,h2⟩:=hl
 unfold iy cO
 split
 ·rw [sr v _ (by omega)]
 ·rw [sr v _ (by omega)]
  cases v.getD (-l - 1).toNat false <;> rfl
theorem z5 {f g:Term→Int} (ts:List Term) (h:∀t ∈ ts,f t=g t):df f ts=df g ts:=
 Int.le_antisymm (oK ts fun t ht=>by rw [h t ht]; exact Int.le_refl _) (oK ts fun t ht=>by rw [h t ht]; exact Int.le_refl _)
theorem Bu {v:List Bool} (h:v.length=12) {c:Con} (hc:bp c=true):ew c (zv v)=eH v c.terms - c.bound:=by
 unfold ew eH
 rw [mD,z5 (g:=fun t=>if cO v t.lit then t.coef else 0)]
 ·omega
 ·intro t ht
  rw [tP h (lu ((bH hc).2.2.1 t ht))]
  cases cO v t.lit <;> simp
theorem vt {v:List Bool} (h:v.length=12) {c:Con} (hc:bp c=true):l6 (zv v) c ↔ fJ c v=true:=by
 unfold l6 fJ
 rw [Bu h hc]
 constructor
 ·intro ⟨h1,_⟩; simp; omega
 ·intro he
  simp at he
  refine ⟨by omega,?_⟩
  cases hi:lR (zv v) (eH v c.terms - c.bound) c.terms with
  | nil=>rfl
  | cons l ls =>
   exfalso
   obtain ⟨t,ht,rfl,h0,_⟩:=qf (l:=l) (by rw [hi]; simp)
   rw [tP h (lu ((bH hc).2.2.1 t ht))] at h0
   cases hb:cO v t.lit <;> simp [hb] at h0
def nE (c:Con):Con:=⟨c.terms.map fun t=>⟨t.coef,-t.lit⟩,max 0 (Dn c - c.bound+1)⟩
theorem DX (c:Con):Dn c=df (fun t=>t.coef) c.terms:=by
 have:=oZ (fun t=>t.coef) c.terms 0
 rw [Int.zero_add] at this
 rw [← this]; rfl
theorem pS (n:Int):bn (-n)=bn n:=by unfold bn; omega
theorem DA {t:Term} (h:mY t=true):mY ⟨t.coef,-t.lit⟩=true:=by
 obtain ⟨h0,h1,h2,h3,h4⟩:=dE h
 unfold mY
 simp
 omega
theorem tt:∀(ts:List Term) (b:Int),b6 b ts=true→b6 b (ts.map fun t=>⟨t.coef,-t.lit⟩)=true
 | [],_,_=>rfl
 | t :: ts,b,h=>by
  rw [b6,Bool.and_eq_true,Bool.and_eq_true] at h
  rw [List.map_cons,b6,Bool.and_eq_true,Bool.and_eq_true]
  refine ⟨⟨DA h.1.1,?_⟩,?_⟩
  ·rw [pS]; exact h.1.2
  ·rw [pS]; exact tt ts _ h.2
theorem sR {c:Con} (h:bp c=true):0≤Dn c∧Dn c≤12000:=by
 obtain ⟨_,h2,h3,_,_⟩:=bH h
 have:=vd c.terms h3
 unfold Dn
 omega
theorem Dx {c:Con} (h:bp c=true):bp (nE c)=true:=by
 have ht:=sR h
 obtain ⟨h1,_,_,h4,h5⟩:=bH h
 unfold bp okB nE
 simp only [tt _ _ h1]
 simp
 omega
theorem qz (v:List Bool) {l:Int} (h0:l ≠ 0):cO v (-l)=!cO v l:=by
 unfold cO
 by_cases h:l > 0
 ·rw [if_neg (by omega),if_pos h,Int.neg_neg]
 ·rw [if_pos (by omega),if_neg h,Bool.not_not]
def dA:List Int:=List.replicate 12 0
theorem eT:kH dA:=by
 refine ⟨rfl,fun x hx=>?_⟩
 rw [List.eq_of_mem_replicate hx]; omega
theorem za (q:List Int):tu dA q:=fun k hk hn=>by
 exfalso
 apply hn
 unfold dA
 rw [List.getD_eq_getElem?_getD,List.getElem?_replicate_of_lt hk]
 rfl
def uP (list:List Con) (c:Con):Bool:=decide (0≤(prop 13 (list++[nE c]) dA).2)
def gq (list:List Con) (v:List Bool):Bool:=list.all fun c=>fJ c v
theorem tY:∀(n:Nat) (cs:List Con) (p:List Int) (p':List Int) (a:Int),prop n cs p=(p',a)→a=-1 ∨ 0≤a
 | 0,cs,p,p',a,h=>by rw [prop] at h; simp at h; exact .inl h.2.symm
 | n+1,cs,p,p',a,h=>by
  rw [prop] at h
  split at h
  ·simp at h; omega
  ·split at h
   ·exact tY n _ _ _ _ h
   ·simp at h; exact .inl h.2.symm
theorem uX {τ:Type} {b:List Int × Bool→Option (Lo (List Int × Bool) τ)} (cs:List Con) (hc:∀c ∈ cs,bp c=true) (res:List Int→Int→τ)
  (hb1:∀p,kH p→b (p,true)=some (match pass cs 0 p false with | .conf p' i=>.out (res p' (i:Int)) | .go p' m=>.cont (p',m))) (hb2:∀p,b (p,false)=some (.brk (p,false))) :
  ∀(n k:Nat) (p:List Int),kH p→vT p<n→n<k→bx b k (p,true)=some (if 0≤(prop n cs p).2 then .out (res (prop n cs p).1 (prop n cs p).2) else .nx ((prop n cs p).1,false))
 | 0,_,p,_,hz,_=>by omega
 | n+1,0,p,_,_,hk=>by omega
 | n+1,1,p,_,_,hk=>by omega
 | n+1,k+2,p,hp,hz,hk=>by
  show (b (p,true)).bind _=_
  rw [hb1 p hp,prop]
  cases hpa:pass cs 0 p false with
  | conf p1 i=>simp
  | go p1 m1 =>
   obtain ⟨g1,g2,g3⟩:=ve cs 0 p false hp hc p1 m1 hpa
   cases m1 with
   | true =>
    have hz1:vT p1<n:=by
     rcases g3 rfl with h | h
     ·cases h
     ·omega
    simpa using uX cs hc res hb1 hb2 n (k+1) p1 g1 hz1 (by omega)
   | false =>
    show (b (p1,false)).bind _=_
    rw [hb2]
    simp
theorem Ck:∀(cs:List Con) (i:Nat) (p:List Int) (m:Bool),kH p→(∀c ∈ cs,bp c=true) →
  aw ir cs i (p,m)=some (match pass cs i p m with | .conf p' j=>.out (.out (p',(j:Int))) | .go p' m'=>.nx (p',m'))
 | [],i,p,m,_,_=>rfl
 | c :: cs,i,p,m,hp,hc=>by
  have hcc:=hc c (by simp)
  show (ir i c (p,m)).bind _=_
  rw [ir,AF hcc hp,Option.bind_some,pass]
  by_cases h:ew c p<0
  ·rw [if_pos h,if_pos (by simpa using h)]; rfl
  ·rw [if_neg h,if_neg (by simpa using h),Bd hcc hp,Option.bind_some,EK hp m _ (rR hcc),Option.bind_some]
   exact Ck cs (i+1) _ _ (iX _ hp) fun x hx=>hc x (by simp [hx])
theorem zR {p:List Int} (hp:kH p):vT p≤12:=by
 have:=List.countP_le_length (p:=(· == 0)) (l:=p)
 rw [hp.1] at this
 exact this
theorem gU (xs:List Int) (h:xs.length≤4000000):cJ xs=some xs:=by
 unfold cJ
 rw [bR (by simp; omega)]
 rfl
theorem rP (fu:Nat) (hf:FU≤fu) {cs:List Con} (hc:∀c ∈ cs,bp c=true) {p:List Int} (hp:kH p):kC fu cs p=some (prop 13 cs p):=by
 have hz:=zR hp
 unfold kC
 rw [gU p (by rw [hp.1]; omega),Option.bind_some,uX (b:=iv cs) cs hc (fun p a=>(p,a)) (fun p hp=>by
  rw [iv,if_pos rfl,Ck cs 0 p false hp hc]
  cases pass cs 0 p false <;> rfl) (fun p=>by rw [iv]; rfl) 13 fu p hp (by omega) (by unfold FU at hf; omega)]
 generalize hr:prop 13 cs p=r
 obtain ⟨p',a⟩:=r
 by_cases h:0≤a
 ·simp [h]
 ·have:=tY _ _ _ _ _ hr
  obtain rfl:a=-1:=by omega
  simp
theorem Cf {τ:Type} {b:Nat→Term→List Term→Option (Lo (List Term) τ)} {c:Con} (hc:bp c=true)
  (hb:∀i t out,b i t out=(app out ([({ coef:=t.coef,lit:=i64 (-t.lit) }:Term)])).bind fun x=>some (.cont x)):aw b c.terms 0 []=some (.nx (nE c).terms):=by
 obtain ⟨_,h2,h3,_,_⟩:=bH hc
 refine iI (fun t=>(⟨t.coef,-t.lit⟩:Term)) c.terms fun i t out ht hl=>?_
 obtain ⟨_,h1,h2',_,_⟩:=dE (h3 t (List.mem_of_getElem? ht))
 have hi:=(List.getElem?_eq_some_iff.1 ht).1
 rw [hb,bR (by simp; omega),Option.bind_some,aR (n:=-t.lit) (by omega) (by omega)]
theorem Fo {c:Con} (hc:bp c=true):eR c=some (nE c):=by
 have ht:=sR hc
 obtain ⟨_,_,_,h4,h5⟩:=bH hc
 unfold eR
 rw [AZ hc,Option.bind_some,Cf hc (b:=fe) fun _ _ _=>rfl]
 rw [aR (n:=Dn c - c.bound) (by omega) (by omega),aR (by omega) (by omega)]
 rfl
theorem rI:wi 12 0=some dA:=pn (n:=12) 0 (by omega)
theorem pR (xs:List Con) (h:xs.length≤4000000):cz xs=some xs:=by
 unfold cz
 rw [bR (by simp; omega)]
 rfl
theorem AG {list:List Con} (hl:∀x ∈ list,bp x=true) {c:Con} (hc:bp c=true):∀x ∈ list++[nE c],bp x=true:=fun x hx=>by
 rcases List.mem_append.1 hx with hx | hx
 ·exact hl x hx
 ·rw [List.mem_singleton] at hx; subst hx; exact Dx hc
theorem yZ (fu:Nat) (hf:FU≤fu) {list:List Con} (hl:∀x ∈ list,bp x=true) (hn:list.length≤2000000) {c:Con} (hc:bp c=true):zh fu list c=some (uP list c):=by
 unfold zh
 rw [pR list (by omega),Option.bind_some,Fo hc,Option.bind_some,bR (by simp; omega),Option.bind_some,rI,Option.bind_some,rP fu hf (AG hl hc) eT]
 rfl
theorem mw {list:List Con} (h:gD list=true):(∀x ∈ list,bp x=true)∧list.length≤400:=by
 unfold gD at h
 simp at h
 exact ⟨h.1,by omega⟩
theorem wU (v:List Bool) (ts:List Term) (t:Term):eH v (ts++[t])=if cO v t.lit then eH v ts+t.coef else eH v ts:=by
 have e:∀ts,eH v ts=ts.foldl (fun n t=>n+(if cO v t.lit then t.coef else 0)) 0:=fun ts=>by
  rw [oZ]; unfold eH; omega
 rw [e,e,List.foldl_append,List.foldl_cons,List.foldl_nil]
 cases cO v t.lit <;> simp
theorem uk (v:List Bool):∀(ts:List Term),(∀t ∈ ts,mY t=true)→0≤eH v ts∧eH v ts≤1000 * ts.length
 | [],_=>by simp [eH,df]
 | t :: ts,h=>by
  have:=uk v ts fun u hu=>h u (by simp [hu])
  obtain ⟨_,_,_,h3,h4⟩:=dE (h t (by simp))
  unfold eH at *
  simp only [df,List.length_cons]
  split <;> omega
def rb:Con:=⟨[],0⟩
theorem yd {b b':Int}:∀(ts:List Term),b'≤b→b6 b ts=true→b6 b' ts=true
 | [],_,_=>rfl
 | t :: ts,hb,h=>by
  rw [b6,Bool.and_eq_true,Bool.and_eq_true] at h
  rw [b6,Bool.and_eq_true,Bool.and_eq_true]
  have:=of_decide_eq_true h.1.2
  exact ⟨⟨h.1.1,decide_eq_true (by omega)⟩,h.2⟩
theorem uR:∀(ts:List Term) (b:Int),b6 b ts=true→∀t ∈ ts,b<bn t.lit
 | [],_,_,t,ht=>by cases ht
 | u :: ts,b,h,t,ht=>by
  rw [b6,Bool.and_eq_true,Bool.and_eq_true] at h
  have h2:=of_decide_eq_true h.1.2
  rcases List.mem_cons.1 ht with rfl | ht
  ·exact h2
  ·have:=uR ts _ h.2 t ht; omega
theorem m7 (q:Term→Bool):∀(ts:List Term) (b:Int),b6 b ts=true→b6 b (ts.filter q)=true
 | [],_,_=>rfl
 | t :: ts,b,h=>by
  rw [b6,Bool.and_eq_true,Bool.and_eq_true] at h
  have h2:=of_decide_eq_true h.1.2
  rw [List.filter_cons]
  split
  ·rw [b6,Bool.and_eq_true,Bool.and_eq_true]
   exact ⟨h.1,m7 q ts _ h.2⟩
  ·exact yd _ (by omega) (m7 q ts _ h.2)
theorem qn (f:Term→Term):∀(ts:List Term) (b:Int),b6 b ts=true→(∀t ∈ ts,mY t=true→mY (f t)=true∧(f t).lit=t.lit)→b6 b (ts.map f)=true
 | [],_,_,_=>rfl
 | t :: ts,b,h,hf=>by
  rw [b6,Bool.and_eq_true,Bool.and_eq_true] at h
  have:=hf t (by simp) h.1.1
  rw [List.map_cons,b6,Bool.and_eq_true,Bool.and_eq_true,this.2]
  exact ⟨⟨this.1,h.1.2⟩,qn f ts _ h.2 fun u hu=>hf u (by simp [hu])⟩
theorem nt (v:List Bool) {f:Term→Term}:∀(ts:List Term),(∀t ∈ ts,(f t).lit=t.lit)→eH v (ts.map f)=df (fun t=>if cO v t.lit then (f t).coef else 0) ts
 | [],_=>rfl
 | t :: ts,h=>by
  have:=nt v ts fun u hu=>h u (by simp [hu])
  unfold eH at *
  simp only [List.map_cons,df]
  rw [this,h t (by simp)]
theorem sU {c:Con} {v:List Bool}:fJ c v=true ↔ c.bound≤eH v c.terms:=by unfold fJ; simp
def D0 (l:Int):Bool:=l != 0 && (decide (-12≤l) && decide (l≤12))
def BJ (l:Int):Con × Bool:=if D0 l then (⟨[⟨1,l⟩],0⟩,true) else (rb,false)
theorem C5 {l:Int}:D0 l=true ↔ cf l:=by unfold D0 cf; simp
theorem Eg (l:Int):jy l=some (BJ l):=by
 unfold jy gP cX BJ D0
 cases h0:l != 0 with
 | false=>rfl
 | true=>cases h:(decide (-12≤l) && decide (l≤12)) <;> simp [h] <;> rfl
theorem Ds {l:Int} {c:Con} (h:BJ l=(c,true)):bp c=true∧∀v,fJ c v=true:=by
 unfold BJ at h
 split at h
 ·rename_i hl
  rw [C5] at hl
  obtain ⟨h0,h1,h2⟩:=hl
  cases h
  constructor
  ·have hp:0<bn l:=by unfold bn; omega
   show ((mY ⟨1,l⟩ && decide (0<bn l)) && true && (decide ((0:Int)≤0) && decide ((0:Int)≤20000)))=true
   have ht:mY ⟨1,l⟩=true:=by unfold mY; simp; exact ⟨⟨h0,h1⟩,h2⟩
   simp [ht,hp]
  ·intro v
   unfold fJ eH
   simp only [df]
   split <;> simp
 ·cases h
def aZ (x:Int) (t:Term):Bool:=bn t.lit == x
def wS (x:Int) (ts:List Term):Int:=df (fun t=>if aZ x t then t.coef else 0) ts
def wh (c:Con) (x:Int):Con × Bool:=
 if bp c && (decide (1≤x) && decide (x≤12)) then (⟨c.terms.filter (fun t=>!aZ x t),max 0 (c.bound - wS x c.terms)⟩,true) else (rb,false)
theorem qv (f:Term→Int) (ts:List Term) (t:Term):df f (ts++[t])=df f ts+f t:=by
 induction ts with
 | nil=>simp [df]
 | cons u ts ih=>rw [List.cons_append,df,ih,df]; omega
theorem uj {f:Term→Int}:∀(ts:List Term),(∀t ∈ ts,0≤f t∧f t≤1000)→0≤df f ts∧df f ts≤1000 * ts.length
 | [],_=>by simp [df]
 | t :: ts,h=>by
  have h1:=h t (by simp)
  have:=uj (f:=f) ts fun u hu=>h u (by simp [hu])
  simp only [df,List.length_cons]; omega
theorem C3 (x:Int) (ts:List Term) (h:∀t ∈ ts,mY t=true):0≤wS x ts∧wS x ts≤1000 * ts.length:=
 uj ts fun t ht=>by
  have:=dE (h t ht)
  show 0≤(if aZ x t then t.coef else 0)∧(if aZ x t then t.coef else 0)≤1000
  split <;> omega
theorem DD (x:Int) (ts:List Term) (t:Term):wS x (ts++[t])=wS x ts+(if aZ x t then t.coef else 0):=qv _ _ _
theorem ow {α:Type} {xs:List α} {i:Nat} {x:α} (h:xs[i]?=some x):xs.take (i+1)=xs.take i++[x]:=by rw [List.take_add_one,h]; rfl
theorem pT:∀(ts:List Term) (b:Int),b6 b ts=true→∀(i:Nat) (t:Term),ts[i]?=some t→∀u ∈ ts.take i,bn u.lit<bn t.lit
 | [],_,_,i,t,ht,_,_=>by simp at ht
 | y :: ts,b,h,0,t,ht,u,hu=>by simp at hu
 | y :: ts,b,h,i+1,t,ht,u,hu=>by
  rw [b6,Bool.and_eq_true,Bool.and_eq_true] at h
  rw [List.take_succ_cons] at hu
  have ht:ts[i]?=some t:=by simpa using ht
  rcases List.mem_cons.1 hu with rfl | hu
  ·exact uR ts _ h.2 t (List.mem_of_getElem? ht)
  ·exact pT ts _ h.2 i t ht u hu
theorem mz {f:Term→Int}:∀(ts:List Term),(∀t ∈ ts,f t=0)→df f ts=0
 | [],_=>rfl
 | t :: ts,h=>by rw [df,h t (by simp),mz ts fun u hu=>h u (by simp [hu])]; rfl
theorem Ce (c:Con) (x:Int):gi c x=some (wh c x):=by
 unfold gi wh cX
 rw [kn c,Option.bind_some]
 cases hc:bp c with
 | false=>rfl
 | true =>
  by_cases hx:1≤x∧x≤12
  ·have e':(true && (decide (1≤x) && decide (x≤12)))=true:=by simp [hx]
   have e'':(decide (1≤x) && decide (x≤12))=true:=by simp [hx]
   simp only [e'',Bool.not_true,Bool.false_eq_true,if_false,Option.bind_some,Bool.and_self,if_true]
   obtain ⟨h1,h2,h3,h4,h5⟩:=bH hc
   have:=dT (b:=eS c x) (fun i=>((c.terms.take i).filter (fun t=>!aZ x t),max 0 (c.bound - wS x (c.terms.take i)))) c.terms (by
    intro i t ht
    have hk:=h3 t (List.mem_of_getElem? ht)
    obtain ⟨q0,q1,q2,q3,q4⟩:=dE hk
    have hi:=(List.getElem?_eq_some_iff.1 ht).1
    have hl:(c.terms.take i).length≤12:=by simp; omega
    have hfl:=List.length_filter_le (fun t:Term=>!aZ x t) (c.terms.take i)
    rw [eS,dW,aR (n:=-t.lit) (by omega) (by omega),Option.bind_some,ow ht,List.filter_append,DD]
    show ((if (aZ x t) then _ else _:Option (List Term × Int)).bind _)=_
    cases he:aZ x t with
    | true =>
     have hz:wS x (c.terms.take i)=0:=mz _ fun u hu=>by
      have:=pT c.terms 0 h1 i t ht u hu
      have he:bn t.lit=x:=eq_of_beq he
      have:aZ x u=false:=by unfold aZ; simp; omega
      simp [this]
     rw [aR (by omega) (by omega),hz]
     simp [he]
    | false =>
     rw [bR (by simp; omega)]
     simp [he])
   have e0:(([]:List Term),c.bound)=((c.terms.take 0).filter (fun t=>!aZ x t),max 0 (c.bound - wS x (c.terms.take 0))):=by simp [wS,df]; omega
   rw [e0,this]
   simp only [Option.bind_some,List.take_length]
  ·have e'':(decide (1≤x) && decide (x≤12))=false:=by simp; omega
   simp only [e'',Bool.and_false]
   rfl
theorem C2 {c d:Con} {x:Int} (h:wh c x=(d,true)):bp d=true∧∀v,fJ c v=true→fJ d v=true:=by
 unfold wh at h
 split at h
 ·rename_i hc
  rw [Bool.and_eq_true] at hc
  obtain ⟨h1,h2,h3,h4,h5⟩:=bH hc.1
  simp only [Prod.mk.injEq,and_true] at h
  have hb:=C3 x c.terms h3
  subst h
  constructor
  ·unfold bp okB
   simp only [m7 _ _ _ h1]
   simp
   omega
  ·intro v hv
   unfold fJ at *
   simp at hv ⊢
   have key:∀ts:List Term,(∀t ∈ ts,mY t=true)→eH v ts≤eH v (ts.filter fun t=>!aZ x t)+wS x ts∧0≤eH v (ts.filter fun t=>!aZ x t):=by
    intro ts
    induction ts with
    | nil=>intro _; simp [eH,wS,df]
    | cons t ts ih =>
     intro h
     have:=ih fun u hu=>h u (by simp [hu])
     obtain ⟨_,_,_,q3,q4⟩:=dE (h t (by simp))
     rw [List.filter_cons]
     unfold eH wS at *
     cases he:aZ x t <;> simp only [he,Bool.not_false,Bool.not_true,df,if_true,Bool.false_eq_true,if_false] <;> cases cO v t.lit <;> simp <;> omega
   have:=key c.terms h3
   omega
 ·cases h
def Bt (c:Con):Con × Bool:=if bp c then (⟨if c.bound > 0 then c.terms.map (fun t=>⟨min t.coef c.bound,t.lit⟩) else [],c.bound⟩,true) else (rb,false)
theorem uC (c:Con):fm c=some (Bt c):=by
 unfold fm Bt
 rw [kn c,Option.bind_some]
 cases hc:bp c with
 | false=>rfl
 | true =>
  obtain ⟨h1,h2,h3,h4,h5⟩:=bH hc
  by_cases hb:c.bound > 0
  ·have:=iI (b:=ef c) (fun t=>(⟨min t.coef c.bound,t.lit⟩:Term)) c.terms fun i t out ht hlen=>by
    have hi:=(List.getElem?_eq_some_iff.1 ht).1
    rw [ef,bR (by simp; omega)]
    rfl
   simp [hb,this]
  ·simp [hb]
theorem Dp {c d:Con} (h:Bt c=(d,true)):bp d=true∧∀v,fJ c v=true→fJ d v=true:=by
 unfold Bt at h
 split at h
 ·rename_i hc
  obtain ⟨h1,h2,h3,h4,h5⟩:=bH hc
  simp only [Prod.mk.injEq,and_true] at h
  subst h
  by_cases hb:c.bound > 0
  ·rw [if_pos hb]
   constructor
   ·have:=qn (fun t=>(⟨min t.coef c.bound,t.lit⟩:Term)) c.terms 0 h1 fun t ht hk=>by
     obtain ⟨q0,q1,q2,q3,q4⟩:=dE hk
     refine ⟨?_,rfl⟩
     unfold mY
     simp
     omega
    unfold bp okB
    simp only [this]
    simp
    omega
   ·intro v hv
    rw [sU] at hv ⊢
    show c.bound≤eH v (c.terms.map fun t=>⟨min t.coef c.bound,t.lit⟩)
    rw [nt v (f:=fun t=>⟨min t.coef c.bound,t.lit⟩) c.terms fun _ _=>rfl]
    have key:∀ts:List Term,(∀t ∈ ts,mY t=true)→(0≤df (fun t=>if cO v t.lit then min t.coef c.bound else 0) ts)∧(df (fun t=>if cO v t.lit then min t.coef c.bound else 0) ts=eH v ts ∨ c.bound≤df (fun t=>if cO v t.lit then min t.coef c.bound else 0) ts):=by
     intro ts
     induction ts with
     | nil=>intro _; exact ⟨by simp [df],.inl rfl⟩
     | cons t ts ih =>
      intro h
      have:=ih fun u hu=>h u (by simp [hu])
      obtain ⟨_,_,_,q3,q4⟩:=dE (h t (by simp))
      unfold eH at *
      simp only [df]
      cases cO v t.lit <;> simp only [Bool.false_eq_true,if_false,if_true] <;> omega
    have:=key c.terms h3
    simp only at this ⊢
    omega
  ·rw [if_neg hb]
   constructor
   ·unfold bp okB
    simp [b6]
    omega
   ·intro v hv
    unfold fJ at *
    simp [eH,df]
    omega
 ·cases h
def rl (f:Int→Int) (c:Con):Con:=⟨c.terms.map (fun t=>⟨f t.coef,t.lit⟩),f c.bound⟩
def mW (c:Con):Con × Bool:=if bp c then (c,true) else (rb,false)
def En (k:Int):Bool:=decide (1≤k) && decide (k≤1000)
def mulC (c:Con) (k:Int):Con × Bool:=if bp c && En k then mW (rl (· * k) c) else (rb,false)
def vK (k n:Int):Int:=Int.tdiv (n+k - 1) k
def divC (c:Con) (k:Int):Con × Bool:=if bp c && En k then (rl (vK k) c,true) else (rb,false)
theorem tW {k:Int}:En k=true ↔ 1≤k∧k≤1000:=by unfold En; simp
theorem wY {n k B:Int} (h0:0≤n) (h1:n≤B) (k0:1≤k) (k1:k≤1000) (hB:0≤B):0≤n * k∧n * k≤B * 1000:=
 ⟨Int.mul_nonneg h0 (by omega),Int.mul_le_mul h1 k1 (by omega) hB⟩
theorem nR {n k:Int} (hn:0≤n) (hk:1≤k):n≤k * vK k n∧k * vK k n≤n+k - 1∧0≤vK k n:=by
 unfold vK
 have e:Int.tdiv (n+k - 1) k=(n+k - 1) / k:=Int.tdiv_eq_ediv_of_nonneg (by omega)
 rw [e]
 have h1:=Int.mul_ediv_add_emod (n+k - 1) k
 have h2:=Int.emod_nonneg (n+k - 1) (show k ≠ 0 by omega)
 have h3:=Int.emod_lt_of_pos (n+k - 1) (show 0<k by omega)
 refine ⟨by omega,by omega,Int.ediv_nonneg (by omega) (by omega)⟩
theorem Ar {n k B:Int} (hn:0≤n) (hk:1≤k) (hB:n≤B):vK k n≤B:=by
 obtain ⟨h1,h2,h3⟩:=nR hn hk
 apply Classical.byContradiction
 intro h
 have h4:k * (B+1)≤k * vK k n:=Int.mul_le_mul_of_nonneg_left (by omega) (by omega)
 have h5:k * (B+1)=k * B+k:=by rw [Int.mul_add,Int.mul_one]
 have h6:1 * B≤k * B:=Int.mul_le_mul_of_nonneg_right hk (by omega)
 omega
theorem D3 {n k:Int} (hn:1≤n) (hk:1≤k):1≤vK k n:=by
 obtain ⟨h1,h2,h3⟩:=nR (n:=n) (by omega) hk
 apply Classical.byContradiction
 intro h
 have:vK k n=0:=by omega
 rw [this] at h1
 omega
theorem yK (c:Con):e6 c=some (mW c):=by
 unfold e6 mW
 rw [kn,Option.bind_some]
 cases bp c <;> rfl
theorem uz (xs:List Term) (h:xs.length≤4000000):eW xs=some xs:=by
 unfold eW
 rw [bR (by simp; omega)]
 rfl
theorem wq {c:Con} (hc:bp c=true) (f:Int→Int) (g:Int→Option Int) (h1:g c.bound=some (f c.bound)) (h2:∀t ∈ c.terms,g t.coef=some (f t.coef)):ea c g=some (mW (rl f c)):=by
 obtain ⟨_,hn,_,_,_⟩:=bH hc
 unfold ea eZ
 rw [uz c.terms (by omega),Option.bind_some,Option.bind_some,h1,Option.bind_some]
 have:=dT (b:=dZ g) (fun i=>(c.terms.take i).map (fun t=>(⟨f t.coef,t.lit⟩:Term))++c.terms.drop i) c.terms (by
  intro i t ht
  have hi:=(List.getElem?_eq_some_iff.1 ht).1
  have hl:((c.terms.take i).map (fun t=>(⟨f t.coef,t.lit⟩:Term))).length=i:=by simp; omega
  have hd:c.terms.drop i=t :: c.terms.drop (i+1):=by
   rw [List.drop_eq_getElem_cons hi]
   have:=(List.getElem?_eq_some_iff.1 ht).2
   rw [this]
  have e1:idx ((c.terms.take i).map (fun t=>(⟨f t.coef,t.lit⟩:Term))++c.terms.drop i) (i:Int)=some t:=by
   rw [cN,List.getElem?_append_right (by omega),hl,Nat.sub_self,hd]
   rfl
  rw [dZ,e1,Option.bind_some,h2 t (List.mem_of_getElem? ht),Option.bind_some,Int.toNat_natCast,ow ht,List.map_append,hd]
  congr 2
  rw [List.set_append_right _ _ (by omega),hl,Nat.sub_self]
  simp)
 have e0:c.terms=(c.terms.take 0).map (fun t=>(⟨f t.coef,t.lit⟩:Term))++c.terms.drop 0:=by simp
 have e1:(c.terms.take c.terms.length).map (fun t=>(⟨f t.coef,t.lit⟩:Term))++c.terms.drop c.terms.length=(rl f c).terms:=by simp [rl]
 rw [← e0,e1] at this
 simp only
 rw [this,Option.bind_some]
 simp only
 rw [yK]
 rfl
theorem Ev (c:Con) (k:Int):fl c k=some (mulC c k):=by
 unfold fl mulC cX
 rw [kn c,Option.bind_some]
 cases hc:bp c with
 | false=>rfl
 | true =>
  obtain ⟨h1,h2,h3,h4,h5⟩:=bH hc
  have ek:(decide (1≤k) && decide (k≤1000))=En k:=rfl
  rw [ek]
  cases hk:En k with
  | false=>rfl
  | true =>
   rw [tW] at hk
   simp only [Bool.not_true,Bool.false_eq_true,if_false,Option.bind_some,Bool.and_self,if_true]
   rw [wq hc (· * k) (cQ k)]
   ·rfl
   ·have:=wY (n:=c.bound) (B:=20000) h4 h5 hk.1 hk.2 (by omega)
    rw [cQ,aR (by omega) (by omega)]
   ·intro t ht
    obtain ⟨_,_,_,q3,q4⟩:=dE (h3 t ht)
    have:=wY (n:=t.coef) (B:=1000) (by omega) q4 hk.1 hk.2 (by omega)
    rw [cQ,aR (by omega) (by omega)]
theorem Ej {n k B:Int} (hn:0≤n) (hB:n≤B) (hB2:B≤1000000) (hk:1≤k) (hk2:k≤1000):i64 (Int.tdiv (i64 ((i64 (n+k)) - 1)) k)=vK k n:=by
 have h1:=Ar hn hk hB
 have h2:=(nR hn hk).2.2
 rw [aR (n:=n+k) (by omega) (by omega),aR (n:=n+k - 1) (by omega) (by omega)]
 show i64 (vK k n)=_
 rw [aR (by omega) (by omega)]
theorem CX {c:Con} (hc:bp c=true) {k:Int} (hk:1≤k):bp (rl (vK k) c)=true:=by
 obtain ⟨h1,h2,h3,h4,h5⟩:=bH hc
 have:=qn (fun t=>(⟨vK k t.coef,t.lit⟩:Term)) c.terms 0 h1 fun t ht hkt=>by
  obtain ⟨q0,q1,q2,q3,q4⟩:=dE hkt
  have a1:=D3 q3 hk
  have a2:=Ar (n:=t.coef) (by omega) hk q4
  refine ⟨?_,rfl⟩
  unfold mY
  simp
  omega
 have a1:=(nR h4 hk).2.2
 have a2:=Ar h4 hk h5
 unfold bp okB rl
 simp only [this]
 simp
 omega
theorem Ew (c:Con) (k:Int):gm c k=some (divC c k):=by
 unfold gm divC cX
 rw [kn c,Option.bind_some]
 cases hc:bp c with
 | false=>rfl
 | true =>
  obtain ⟨h1,h2,h3,h4,h5⟩:=bH hc
  have ek:(decide (1≤k) && decide (k≤1000))=En k:=rfl
  rw [ek]
  cases hk:En k with
  | false=>rfl
  | true =>
   rw [tW] at hk
   simp only [Bool.not_true,Bool.false_eq_true,if_false,Option.bind_some,Bool.and_self,if_true]
   rw [wq hc (vK k) (dh k)]
   ·rw [Option.bind_some,mW,CX hc hk.1]
    rfl
   ·rw [dh,if_neg (by omega),Ej h4 h5 (by omega) hk.1 hk.2]
    rfl
   ·intro t ht
    obtain ⟨_,_,_,q3,q4⟩:=dE (h3 t ht)
    rw [dh,if_neg (by omega),Ej (n:=t.coef) (by omega) q4 (by omega) hk.1 hk.2]
    rfl
theorem D9 {c d:Con} {k:Int} (h:mulC c k=(d,true)):bp d=true∧∀v,fJ c v=true→fJ d v=true:=by
 unfold mulC at h
 split at h
 ·rename_i hc
  rw [Bool.and_eq_true,tW] at hc
  unfold mW at h
  split at h
  ·rename_i hd
   simp only [Prod.mk.injEq,and_true] at h
   subst h
   refine ⟨hd,fun v hv=>?_⟩
   rw [sU] at hv ⊢
   show c.bound * k≤eH v (c.terms.map fun t=>⟨t.coef * k,t.lit⟩)
   rw [nt v (f:=fun t=>⟨t.coef * k,t.lit⟩) c.terms fun _ _=>rfl]
   have key:∀ts:List Term,df (fun t=>if cO v t.lit then t.coef * k else 0) ts=eH v ts * k:=by
    intro ts
    induction ts with
    | nil=>simp [eH,df]
    | cons t ts ih =>
     unfold eH at *
     simp only [df]
     rw [ih,Int.add_mul]
     cases cO v t.lit <;> simp
   rw [key]
   exact Int.mul_le_mul_of_nonneg_right hv (by omega)
  ·cases h
 ·cases h
theorem DM {c d:Con} {k:Int} (h:divC c k=(d,true)):bp d=true∧∀v,fJ c v=true→fJ d v=true:=by
 unfold divC at h
 split at h
 ·rename_i hc
  rw [Bool.and_eq_true,tW] at hc
  simp only [Prod.mk.injEq,and_true] at h
  obtain ⟨h1,h2,h3,h4,h5⟩:=bH hc.1
  subst h
  refine ⟨CX hc.1 hc.2.1,fun v hv=>?_⟩
  rw [sU] at hv ⊢
  show vK k c.bound≤eH v (c.terms.map fun t=>⟨vK k t.coef,t.lit⟩)
  rw [nt v (f:=fun t=>⟨vK k t.coef,t.lit⟩) c.terms fun _ _=>rfl]
  show vK k c.bound≤df (fun t=>if cO v t.lit then vK k t.coef else 0) c.terms
  have key:∀ts:List Term,(∀t ∈ ts,mY t=true)→eH v ts≤k * df (fun t=>if cO v t.lit then vK k t.coef else 0) ts:=by
   intro ts
   induction ts with
   | nil=>intro _; simp [eH,df]
   | cons t ts ih =>
    intro h
    have:=ih fun u hu=>h u (by simp [hu])
    obtain ⟨_,_,_,q3,q4⟩:=dE (h t (by simp))
    have hu:=(nR (n:=t.coef) (by omega) hc.2.1).1
    unfold eH at *
    simp only [df]
    rw [Int.mul_add]
    cases cO v t.lit <;> simp <;> omega
  have:=key c.terms h3
  obtain ⟨u1,u2,u3⟩:=nR h4 hc.2.1
  apply Classical.byContradiction
  intro hlt
  have h6:k * (df (fun t=>if cO v t.lit then vK k t.coef else 0) c.terms+1)≤k * vK k c.bound:=Int.mul_le_mul_of_nonneg_left (by omega) (by omega)
  rw [Int.mul_add,Int.mul_one] at h6
  omega
 ·cases h
def pA (k:Int) (t:Term):Int:=if t.lit=k then t.coef else if t.lit=-k then -t.coef else 0
def dC (ts:List Term) (k:Int):Int:=df (pA k) ts
def qT (ts:List Term):Int:=df (fun t=>if t.lit<0 then t.coef else 0) ts
def kN (t:Term):Prop:=cf t.lit∧-1000≤t.coef∧t.coef≤1000
theorem va {f:Term→Int}:∀(ts:List Term),(∀t ∈ ts,-1000≤f t∧f t≤1000)→-(1000 * (ts.length:Int))≤df f ts∧df f ts≤1000 * ts.length
 | [],_=>by simp [df]
 | t :: ts,h=>by
  have h1:=h t (by simp)
  have:=va (f:=f) ts fun u hu=>h u (by simp [hu])
  simp only [df,List.length_cons]; omega
theorem ph {ts:List Term} (h:∀t ∈ ts,kN t) (hl:ts.length≤100) (k:Int):-100000≤dC ts k∧dC ts k≤100000:=by
 have:=va (f:=pA k) ts fun t ht=>by
  obtain ⟨_,h1,h2⟩:=h t ht
  unfold pA
  split
  ·omega
  ·split <;> omega
 unfold dC
 omega
theorem uh {ts:List Term} (h:∀t ∈ ts,kN t) (hl:ts.length≤100):-100000≤qT ts∧qT ts≤100000:=by
 have:=va (f:=fun t=>if t.lit<0 then t.coef else 0) ts fun t ht=>by
  obtain ⟨_,h1,h2⟩:=h t ht
  split <;> omega
 unfold qT
 omega
def jY (ts:List Term):List Int:=(List.range 13).map fun (k:Nat)=>dC ts (k:Int)
theorem ui (ts:List Term):(jY ts).length=13:=by simp [jY]
theorem lL (ts:List Term) (k:Nat) (h:k<13):(jY ts)[k]?=some (dC ts (k:Int)):=by
 unfold jY
 rw [List.getElem?_map,List.getElem?_range h]
 rfl
theorem Bl (ts:List Term) (t:Term) (k:Int):dC (ts++[t]) k=dC ts k+pA k t:=qv _ _ _
theorem BP (ts:List Term) (t:Term):qT (ts++[t])=qT ts+(if t.lit<0 then t.coef else 0):=qv _ _ _
theorem xA (ts:List Term) (t:Term) (ht:kN t) (k:Nat) (hk:(k:Int)=bn t.lit) (y:Int) (hy:y=dC ts (k:Int)+(if t.lit > 0 then t.coef else -t.coef)):(jY ts).set k y=jY (ts++[t]):=by
 obtain ⟨⟨h0,h1,h2⟩,_,_⟩:=ht
 unfold bn at hk
 apply List.ext_getElem?
 intro j
 by_cases hj:j<13
 ·rw [lL _ _ hj,List.getElem?_set,Bl,lL _ _ hj,ui]
  by_cases e:k=j
  ·subst e
   rw [if_pos rfl,if_pos hj,hy]
   unfold pA
   congr 2
   split
   ·rw [if_pos (by omega)]
   ·rw [if_neg (by omega),if_pos (by omega)]
  ·rw [if_neg e]
   unfold pA
   rw [if_neg (by omega),if_neg (by omega)]
   simp
 ·rw [List.getElem?_eq_none (by rw [List.length_set,ui]; omega),List.getElem?_eq_none (by rw [ui]; omega)]
theorem CE {τ:Type} {b:Nat→Term→Int × List Int→Option (Lo (Int × List Int) τ)} (ts:List Term) (bound:Int) (hts:∀t ∈ ts,kN t) (hl:ts.length≤100) (hb0:-100000≤bound∧bound≤100000)
  (hb:∀i t bd (xs:List Term),kN t→xs.length≤100→(∀t ∈ xs,kN t)→-200000≤bd∧bd≤200000→b i t (bd,jY xs)=some (.cont (bd - (if t.lit<0 then t.coef else 0),jY (xs++[t])))) :
  aw b ts 0 (bound,jY [])=some (.nx (bound - qT ts,jY ts)):=by
 have:=dT (b:=b) (fun i=>(bound - qT (ts.take i),jY (ts.take i))) ts (by
  intro i t ht
  have ho:=hts t (List.mem_of_getElem? ht)
  have hoo:∀u ∈ ts.take i,kN u:=fun u hu=>hts u (List.mem_of_mem_take hu)
  have hlen:(ts.take i).length≤100:=by simp; omega
  have hn:=uh hoo hlen
  rw [hb i t _ _ ho hlen hoo (by omega),ow ht,BP]
  congr 3
  omega)
 have e0:(bound,jY [])=(bound - qT (ts.take 0),jY (ts.take 0)):=by
  have:qT (ts.take 0)=0:=rfl
  rw [this]; simp
 rw [e0,this,List.take_length]
theorem yC:List.replicate 13 (0:Int)=jY []:=by decide
theorem EO:wi 13 (0:Int)=some (jY []):=by rw [← yC]; exact pn (n:=13) (0:Int) (by omega)
theorem yn (i:Nat) (t:Term) (bd:Int) (xs:List Term) (ho:kN t) (hl:xs.length≤100) (hxs:∀t ∈ xs,kN t) (hb:-200000≤bd∧bd≤200000) :
  kz i t (bd,jY xs)=some (.cont (bd - (if t.lit<0 then t.coef else 0),jY (xs++[t]))):=by
 have ho':=ho
 obtain ⟨⟨h0,h1,h2⟩,h3,h4⟩:=ho
 rw [kz]
 by_cases h:t.lit > 0
 ·obtain ⟨k,hk⟩:∃ k:Nat,t.lit=(k:Int):=⟨t.lit.toNat,by omega⟩
  have hn:=ph hxs hl (k:Int)
  rw [if_neg (by simp; omega),hk,cN,lL _ _ (by omega),Option.bind_some,Int.toNat_natCast,aR (by omega) (by omega),if_neg (by omega),
   xA xs t ho' k (by unfold bn; omega) (dC xs (k:Int)+t.coef) (by rw [if_pos h])]
  simp
 ·obtain ⟨k,hk⟩:∃ k:Nat,-t.lit=(k:Int):=⟨(-t.lit).toNat,by omega⟩
  have hn:=ph hxs hl (k:Int)
  rw [if_pos (by simp; omega),aR (n:=-t.lit) (by omega) (by omega),hk,cN,lL _ _ (by omega),Option.bind_some,Int.toNat_natCast,aR (n:=bd - t.coef) (by omega) (by omega),aR (by omega) (by omega),if_pos (by omega),
   xA xs t ho' k (by unfold bn; omega) (dC xs (k:Int) - t.coef) (by rw [if_neg h]; omega)]
  rfl
def piece (f:Int→Int) (k:Int):List Term:=if f k > 0 then [⟨f k,k⟩] else if f k<0 then [⟨-f k,-k⟩] else []
def fR (f:Int→Int):Nat→List Term
 | 0=>[]
 | n+1=>fR f n++piece f ((n+1:Nat):Int)
def jT (f:Int→Int):Nat→Int
 | 0=>0
 | n+1=>jT f n+min (f ((n+1:Nat):Int)) 0
def px (ts:List Term) (bound:Int):Con × Bool:=mW ⟨fR (dC ts) 12,max 0 (bound - qT ts - jT (dC ts) 12)⟩
theorem qC (f:Int→Int):∀n,(fR f n).length≤n
 | 0=>Nat.le_refl _
 | n+1=>by
  have:=qC f n
  rw [fR,List.length_append]
  have:(piece f ((n+1:Nat):Int)).length≤1:=by
   unfold piece
   split
   ·simp
   ·split <;> simp
  omega
theorem rD {f:Int→Int} (h:∀k,-100000≤f k∧f k≤100000):∀n:Nat,-(100000 * (n:Int))≤jT f n∧jT f n≤0
 | 0=>by simp [jT]
 | n+1=>by
  have h1:=rD h n
  have h2:=h ((n+1:Nat):Int)
  rw [jT]
  omega
theorem te {f:Int→Int} (hf:∀k,-100000≤f k∧f k≤100000) (n:Nat) (hn:n<12) (bd:Int) (hb:-10000000≤bd∧bd≤10000000) :
  (bd - min (f ((n+1:Nat):Int)) 0,fR f (n+1))=(if f ((n+1:Nat):Int) > 0 then (bd,fR f n++[⟨f ((n+1:Nat):Int),((n+1:Nat):Int)⟩]) else if f ((n+1:Nat):Int)<0 then (bd - f ((n+1:Nat):Int),fR f n++[⟨-f ((n+1:Nat):Int),-((n+1:Nat):Int)⟩]) else (bd,fR f n)):=by
 rw [fR]
 unfold piece
 split
 ·rw [show min (f ((n+1:Nat):Int)) 0=0 by omega]; simp
 ·split
  ·rw [show min (f ((n+1:Nat):Int)) 0=f ((n+1:Nat):Int) by omega]
  ·rw [show min (f ((n+1:Nat):Int)) 0=0 by omega]; simp
theorem E3 {ts:List Term} (hts:∀t ∈ ts,kN t) (hl:ts.length≤100) (bd:Int) (hb:-300000≤bd∧bd≤300000):nc (jY ts) bd=some (mW ⟨fR (dC ts) 12,max 0 (bd - jT (dC ts) 12)⟩):=by
 unfold nc
 have e:jL 1 (12+1)=some 12:=by rw [oC (s:=1) (by omega) (by omega)]; congr 1
 have hf:=fun k=>ph hts hl k
 rw [e,Option.bind_some]
 have:=jo (b:=ke (jY ts)) (fun i=>(bd - jT (dC ts) (i - 1),fR (dC ts) (i - 1))) 12 1 (by
  intro i h1 h2
  obtain ⟨n,rfl⟩:∃ n,i=n+1:=⟨i - 1,by omega⟩
  simp only [Nat.add_sub_cancel]
  have hm:=rD hf n
  have hfn:=hf ((n+1:Nat):Int)
  have hnl:=qC (dC ts) n
  have e2:(bd - jT (dC ts) (n+1),fR (dC ts) (n+1))=(bd - jT (dC ts) n - min (dC ts ((n+1:Nat):Int)) 0,fR (dC ts) (n+1)):=by rw [jT]; congr 1; omega
  rw [e2,te hf n (by omega) _ (by omega),ke,cN,lL _ _ (by omega),Option.bind_some]
  by_cases c1:dC ts ((n+1:Nat):Int) > 0
  ·have c2:¬ dC ts ((n+1:Nat):Int)<0:=by omega
   simp only [c1,c2,decide_true,decide_false,if_true,Bool.false_eq_true,if_false]
   rw [bR (by simp; omega)]
   rfl
  ·by_cases c2:dC ts ((n+1:Nat):Int)<0
   ·simp only [c1,c2,decide_true,decide_false,if_true,Bool.false_eq_true,if_false,Option.bind_some]
    rw [bR (by simp; omega),aR (n:=-dC ts ((n+1:Nat):Int)) (by omega) (by omega),aR (n:=-((n+1:Nat):Int)) (by omega) (by omega),Option.bind_some,aR (by omega) (by omega)]
    rfl
   ·simp only [c1,c2,decide_false,Bool.false_eq_true,if_false,Option.bind_some])
 have e0:(bd,([]:List Term))=(bd - jT (dC ts) (1 - 1),fR (dC ts) (1 - 1)):=by simp [jT,fR]
 rw [e0,this,Option.bind_some]
 simp only [show 1+12 - 1=12 from rfl]
 have hnl:=qC (dC ts) 12
 have em:(if decide (bd - jT (dC ts) 12<0) then (some 0) else (some (bd - jT (dC ts) 12)):Option Int)=some (max 0 (bd - jT (dC ts) 12)):=by
  by_cases h:bd - jT (dC ts) 12<0
  ·rw [if_pos (decide_eq_true h)]; congr 1; omega
  ·rw [if_neg (by simpa using h)]; congr 1; omega
 rw [em,Option.bind_some,DY _ (by unfold ML; simp only; omega),Option.bind_some,mW]
 cases bp ⟨fR (dC ts) 12,max 0 (bd - jT (dC ts) 12)⟩ <;> rfl
theorem Bw {ts:List Term} (hts:∀t ∈ ts,kN t):dC ts 0=0:=
 mz ts fun t ht=>by
  have:=(hts t ht).1.1
  unfold pA
  rw [if_neg (by omega),if_neg (by omega)]
theorem CY {ts:List Term} (hts:∀t ∈ ts,kN t) (hl:ts.length≤100) (bound:Int) (hb:-100000≤bound∧bound≤100000):mR ts bound=some (px ts bound):=by
 unfold mR
 have hns:=uh hts hl
 rw [yC,CE (b:=kz) ts bound hts hl hb yn,Option.bind_some]
 simp only
 have e:jL 0 13=some 13:=mH (n:=13) (by omega)
 have hf:=fun k=>ph hts hl k
 rw [e,Option.bind_some]
 generalize hbd:bound - qT ts=bd
 have hbd2:-300000≤bd∧bd≤300000:=by omega
 have r0:fS (jY ts) 0 (bd,[])=some (.cont (bd,[])):=by
  rw [fS,cN,lL _ _ (by omega),Option.bind_some]
  have z:dC ts ((0:Nat):Int)=0:=Bw hts
  rw [z]
  rfl
 have:=jo (b:=fS (jY ts)) (fun i=>(bd - jT (dC ts) (i - 1),fR (dC ts) (i - 1))) 12 1 (by
  intro i h1 h2
  obtain ⟨n,rfl⟩:∃ n,i=n+1:=⟨i - 1,by omega⟩
  simp only [Nat.add_sub_cancel]
  have hm:=rD hf n
  have hfn:=hf ((n+1:Nat):Int)
  have hnl:=qC (dC ts) n
  have e2:(bd - jT (dC ts) (n+1),fR (dC ts) (n+1))=(bd - jT (dC ts) n - min (dC ts ((n+1:Nat):Int)) 0,fR (dC ts) (n+1)):=by rw [jT]; congr 1; omega
  rw [e2,te hf n (by omega) _ (by omega),fS,cN,lL _ _ (by omega),Option.bind_some]
  by_cases c1:dC ts ((n+1:Nat):Int) > 0
  ·simp only [c1,decide_true,if_true]
   rw [bR (by simp; omega)]
   rfl
  ·by_cases c2:dC ts ((n+1:Nat):Int)<0
   ·simp only [c1,c2,decide_true,decide_false,if_true,Bool.false_eq_true,if_false]
    rw [bR (by simp; omega),aR (n:=-dC ts ((n+1:Nat):Int)) (by omega) (by omega),aR (n:=-((n+1:Nat):Int)) (by omega) (by omega),Option.bind_some,aR (by omega) (by omega)]
    rfl
   ·simp only [c1,c2,decide_false,Bool.false_eq_true,if_false,Option.bind_some])
 have e0:(bd,([]:List Term))=(bd - jT (dC ts) (1 - 1),fR (dC ts) (1 - 1)):=by simp [jT,fR]
 have e13:cI (fS (jY ts)) 13 0 (bd,[])=some (.nx (bd - jT (dC ts) 12,fR (dC ts) 12)):=by
  show (fS (jY ts) 0 (bd,[])).bind _=_
  rw [r0]
  show cI (fS (jY ts)) 12 1 (bd,[])=_
  rw [e0,this]
 rw [e13,Option.bind_some]
 simp only
 rw [yK,Option.bind_some]
 unfold px
 rw [hbd]
def Bz (a b:Con):Con × Bool:=if bp a && bp b then px (a.terms++b.terms) (a.bound+b.bound) else (rb,false)
theorem wH {t:Term} (h:mY t=true):kN t:=by
 have:=dE h
 exact ⟨lu h,by omega,by omega⟩
theorem wC {a b:Con} (ha:bp a=true) (hb:bp b=true):(∀t ∈ a.terms++b.terms,kN t)∧(a.terms++b.terms).length≤24:=by
 obtain ⟨_,a2,a3,_⟩:=bH ha
 obtain ⟨_,b2,b3,_⟩:=bH hb
 refine ⟨fun t ht=>?_,by simp; omega⟩
 rcases List.mem_append.1 ht with h | h
 ·exact wH (a3 t h)
 ·exact wH (b3 t h)
theorem BZ (xs ys:List Term) (h1:xs.length≤1000) (h2:ys.length≤1000):eB [xs,ys]=some (xs++ys):=by
 unfold eB
 have hb:∀(i:Nat) (x:List Term) (s:Int),0≤s→s≤1000000→x.length≤1000→ct i x s=some (.cont (s+(x.length:Int))):=fun i x s h1 h2 h3=>by
  rw [ct,aR (by omega) (by omega),if_neg (by simp; omega)]
  rfl
 have e1:aw ct [xs,ys] 0 0=some (.nx ((xs.length:Int)+ys.length)):=by
  show (ct 0 xs 0).bind _=_
  rw [hb 0 xs 0 (by omega) (by omega) h1]
  show (ct 1 ys (0+(xs.length:Int))).bind _=_
  rw [hb 1 ys _ (by omega) (by omega) h2]
  show some (Jn.nx (0+(xs.length:Int)+(ys.length:Int)))=_
  rw [Int.zero_add]
 have e2:eM ((xs.length:Int)+ys.length)=some []:=by
  unfold eM
  have e0:i64 (0 - 0)=0:=aR (by omega) (by omega)
  rw [if_neg (by simp; omega),e0,Int.sub_zero,aR (by omega) (by omega)]
  simp only [Option.bind_some]
  by_cases h:(xs.length:Int)+ys.length > 0
  ·rw [if_pos (decide_eq_true h)]
   have:=pn (n:=xs.length+ys.length) ({ coef:=0,lit:=0 }:Term) (by omega)
   rw [show ((xs.length+ys.length:Nat):Int)=(xs.length:Int)+ys.length by omega] at this
   rw [this,Option.bind_some]
   have:=rp (xs:=List.replicate (xs.length+ys.length) ({ coef:=0,lit:=0 }:Term)) (i:=0) (by omega)
   rw [show ((0:Nat):Int)=0 from rfl] at this
   rw [this]
   rfl
  ·rw [if_neg (by simpa using h)]
   rfl
 rw [e1,Option.bind_some]
 simp only
 rw [e2,Option.bind_some]
 simp only [aw,eN]
 rw [bR (by simp; omega)]
 simp only [Option.bind_some,List.nil_append]
 rw [bR (by omega)]
 rfl
theorem Es (a b:Con):iw a b=some (Bz a b):=by
 unfold iw Bz
 rw [kn a,Option.bind_some]
 cases h1:bp a with
 | false=>rfl
 | true =>
  rw [kn b]
  cases h2:bp b with
  | false=>rfl
  | true =>
   obtain ⟨g1,g2⟩:=wC h1 h2
   obtain ⟨_,a2,a3,a4,a5⟩:=bH h1
   obtain ⟨_,b2,b3,b4,b5⟩:=bH h2
   simp only [Bool.not_true,Bool.false_eq_true,if_false,Option.bind_some,Bool.and_self,if_true]
   rw [BZ _ _ (by omega) (by omega),Option.bind_some,aR (by omega) (by omega),CY g1 (by omega) _ (by omega)]
   generalize px (a.terms++b.terms) (a.bound+b.bound)=z
   rfl
def xv (v:List Bool) (k:Int):Bool:=v.getD (k - 1).toNat false
def rJ (g:Int→Int):Nat→Int
 | 0=>0
 | n+1=>rJ g n+g ((n+1:Nat):Int)
theorem zi (f g:Int→Int):∀n,rJ (fun k=>f k+g k) n=rJ f n+rJ g n
 | 0=>rfl
 | n+1=>by rw [rJ,rJ,rJ,zi f g n]; omega
theorem yO (g:Int→Int) (j:Nat) (hj:1≤j):∀n,(∀k:Nat,k ≠ j→g (k:Int)=0)→rJ g n=if j≤n then g (j:Int) else 0
 | 0,_=>by rw [rJ,if_neg (by omega)]
 | n+1,h=>by
  rw [rJ,yO g j hj n h]
  by_cases e:j=n+1
  ·subst e
   rw [if_neg (by omega),if_pos (Nat.le_refl _)]; omega
  ·rw [h (n+1) (by omega)]
   by_cases h2:j≤n
   ·rw [if_pos h2,if_pos (by omega)]; omega
   ·rw [if_neg h2,if_neg (by omega)]; rfl
theorem Bh (n:Nat):rJ (fun _=>0) n=0:=by
 induction n with
 | zero=>rfl
 | succ n ih=>rw [rJ,ih]; rfl
theorem uV (v:List Bool) (k:Int) (h:0<k):cO v k=xv v k∧cO v (-k)=!xv v k:=by
 unfold cO xv
 rw [if_pos h,if_neg (by omega),Int.neg_neg]
 exact ⟨rfl,rfl⟩
theorem xm (v:List Bool):∀(ts:List Term),(∀t ∈ ts,kN t)→eH v ts=rJ (fun k=>if xv v k then dC ts k else 0) 12+qT ts
 | [],_=>by
  have:(fun k=>if xv v k then dC [] k else 0)=fun _=>(0:Int):=by funext k; simp [dC,df]
  rw [this,Bh]
  rfl
 | t :: ts,h=>by
  have ih:=xm v ts fun u hu=>h u (by simp [hu])
  obtain ⟨⟨h0,h1,h2⟩,_,_⟩:=h t (by simp)
  have e:(fun k=>if xv v k then dC (t :: ts) k else 0)=fun k=>(if xv v k then pA k t else 0)+(if xv v k then dC ts k else 0):=by
   funext k
   show (if xv v k then pA k t+dC ts k else 0)=_
   cases xv v k <;> simp
  rw [e,zi]
  show (if cO v t.lit then t.coef else 0)+eH v ts=_+((if t.lit<0 then t.coef else 0)+qT ts)
  obtain ⟨j,hj⟩:∃ j:Nat,bn t.lit=(j:Int):=⟨(bn t.lit).toNat,by unfold bn; omega⟩
  unfold bn at hj
  have hz:∀k:Nat,k ≠ j→pA (k:Int) t=0:=fun k hk=>by
   unfold pA
   rw [if_neg (by omega),if_neg (by omega)]
  rw [yO _ j (by omega) 12 fun k hk=>by rw [hz k hk]; simp,if_pos (c:=j≤12) (by omega)]
  by_cases hp:t.lit > 0
  ·have ej:t.lit=(j:Int):=by omega
   have hc:pA (j:Int) t=t.coef:=by unfold pA; rw [if_pos ej]
   rw [hc,ej,(uV v (j:Int) (by omega)).1,if_neg (c:=(j:Int)<0) (by omega)]
   omega
  ·have ej:t.lit=-(j:Int):=by omega
   have hc:pA (j:Int) t=-t.coef:=by unfold pA; rw [if_neg (by omega),if_pos ej]
   rw [hc,ej,(uV v (j:Int) (by omega)).2,if_pos (c:=-(j:Int)<0) (by omega)]
   cases xv v (j:Int) <;> simp <;> omega
theorem vc (v:List Bool) (xs ys:List Term):eH v (xs++ys)=eH v xs+eH v ys:=by
 unfold eH
 induction xs with
 | nil=>simp [df]
 | cons t xs ih=>rw [List.cons_append,df,ih,df]; omega
theorem BI (v:List Bool) (f:Int→Int) (k:Int) (hk:0<k):eH v (piece f k)=(if xv v k then f k else 0) - min (f k) 0:=by
 have ht:=uV v k hk
 generalize hy:f k=y
 unfold piece
 rw [hy]
 split
 ·simp only [eH,df]
  rw [ht.1]
  omega
 ·split
  ·simp only [eH,df]
   rw [ht.2]
   cases xv v k <;> simp <;> omega
  ·simp only [eH,df]
   split <;> omega
theorem vp (v:List Bool) (f:Int→Int):∀n,eH v (fR f n)=rJ (fun k=>if xv v k then f k else 0) n - jT f n
 | 0=>rfl
 | n+1=>by
  rw [fR,vc,vp v f n,rJ,jT]
  have e:=BI v f ((n+1:Nat):Int) (by omega)
  omega
theorem tm (v:List Bool):∀(ts:List Term),(∀t ∈ ts,mY t=true)→0≤eH v ts:=fun ts h=>(uk v ts h).1
theorem CO {ts:List Term} (hts:∀t ∈ ts,kN t) {bound:Int} {d:Con} (h:px ts bound=(d,true)):bp d=true∧∀v,eH v ts ≥ bound→fJ d v=true:=by
 unfold px mW at h
 split at h
 ·rename_i hd
  simp only [Prod.mk.injEq,and_true] at h
  subst h
  refine ⟨hd,fun v hv=>?_⟩
  have hn:=tm v _ (bH hd).2.2.1
  have h1:=vp v (dC ts) 12
  have h2:=xm v ts hts
  unfold fJ
  simp only at hn ⊢
  simp
  omega
 ·cases h
theorem DF {a b d:Con} (h:Bz a b=(d,true)):bp d=true∧∀v,fJ a v=true→fJ b v=true→fJ d v=true:=by
 unfold Bz at h
 split at h
 ·rename_i hc
  rw [Bool.and_eq_true] at hc
  obtain ⟨g1,g2⟩:=wC hc.1 hc.2
  obtain ⟨h1,h2⟩:=CO g1 h
  refine ⟨h1,fun v ha hb=>h2 v ?_⟩
  unfold fJ at ha hb
  simp at ha hb
  rw [vc]
  omega
 ·cases h
theorem uv {α:Type} [DecidableEq α] (s1 s2:List α) {b:Nat→α→Unit→Option (Lo Unit Bool)} (hb:∀(i:Nat) x,b i x ()=(idx s2 (i:Int)).bind fun y=>if decide (x=y) then some (.cont ()) else some (.out false)) (hl:s1.length=s2.length) :
  aw b s1 0 ()=some (if decide (s1=s2) then .nx () else .out false):=by
 rw [jC (fun i x=>decide (s2[i]?=some x)) false s1 fun i x hx=>by
  have hi:=(List.getElem?_eq_some_iff.1 hx).1
  have h2:i<s2.length:=by omega
  rw [hb,cN,List.getElem?_eq_getElem h2,Option.bind_some]
  by_cases h:x=s2[i]
  ·simp [h]
  ·simp [h,Ne.symm h]]
 congr 2
 have:fM (fun i x=>decide (s2[i]?=some x)) s1 0=decide (s1=s2):=by
  rw [Bool.eq_iff_iff,jj]
  simp only [decide_eq_true_eq,Nat.zero_add]
  constructor
  ·intro h
   apply List.ext_getElem?
   intro i
   cases h1:s1[i]? with
   | some x=>rw [h i x h1]
   | none=>rw [List.getElem?_eq_none_iff] at h1; rw [List.getElem?_eq_none (by omega)]
  ·intro h i x hx
   rw [← h]; exact hx
 rw [this]
theorem DV (s1 s2:List Term):eV s1 s2=some (decide (s1=s2)):=by
 unfold eV
 by_cases hl:s1.length=s2.length
 ·rw [if_neg (by simp [hl]),uv s1 s2 (b:=dP s2) (fun i x=>by
   rw [dP]
   congr 1
   funext y
   by_cases h:x=y <;> simp [h]) hl]
  by_cases h:s1=s2 <;> simp [h]
 ·rw [if_pos (by simp; omega),decide_eq_false (by intro h; rw [h] at hl; exact hl rfl)]
theorem CJ (a b:Con):fW a b=some (decide (a=b)):=by
 unfold fW
 rw [DV]
 obtain ⟨t1,b1⟩:=a
 obtain ⟨t2,b2⟩:=b
 by_cases h1:b1=b2
 ·by_cases h2:t1=t2 <;> simp [h1,h2]
 ·simp [h1]
def pW (c:Con):Bool:=bp c && decide (Dn c<c.bound)
theorem Di (c:Con):gM c=some (pW c):=by
 unfold gM pW
 rw [kn c,Option.bind_some]
 cases h:bp c with
 | false=>rfl
 | true=>simp [AZ h]
def FQ (c:Con):Bool:=((c.terms.length:Int) == 0) && (c.bound == 0)
def um (s:Step):Bool:=
 if s.kind=1 ∨ s.kind=2 ∨ s.kind=3 ∨ s.kind=5 then FQ s.given
 else if s.kind=4 ∨ s.kind=6 ∨ s.kind=8 then FQ s.given && s.b == 0
 else if s.kind=7 then s.a == 0 && s.b == 0 else false
theorem rm (k:Int):k=1 ∨ k=2 ∨ k=3 ∨ k=4 ∨ k=5 ∨ k=6 ∨ k=7 ∨ k=8 ∨ (k ≠ 1∧k ≠ 2∧k ≠ 3∧k ≠ 4∧k ≠ 5∧k ≠ 6∧k ≠ 7∧k ≠ 8):=by omega
theorem Fb (c:Con):decide (c=⟨[],0⟩)=FQ c:=by
 obtain ⟨ts,b⟩:=c
 unfold FQ
 cases ts with
 | nil=>by_cases h:b=0 <;> simp [h]
 | cons t ts=>simp; omega
def ug (k:Int):Int × Bool:=if k=1 then (2,false) else if k=2 ∨ k=3 ∨ k=5 then (1,true) else if k=4 ∨ k=8 then (1,false) else if k=6 ∨ k=7 then (0,false) else (-1,false)
theorem Ei (k:Int):nT k=some (ug k):=by
 unfold nT ug
 rcases rm k with h | h | h | h | h | h | h | h | ⟨h1,h2,h3,h4,h5,h6,h7,h8⟩
 all_goals first | (subst h; simp) | simp [h1,h2,h3,h4,h5,h6,h7,h8]
theorem B3 (s:Step):jX s=some (um s):=by
 unfold jX um
 rw [Ei,CJ,Fb,Option.bind_some]
 obtain ⟨kind,a,b,given⟩:=s
 simp only [ug]
 rcases rm kind with h | h | h | h | h | h | h | h | ⟨h1,h2,h3,h4,h5,h6,h7,h8⟩
 all_goals first | (subst h; (by_cases ha:a=0) <;> (by_cases hb:b=0) <;> simp [ha,hb]) | simp [h1,h2,h3,h4,h5,h6,h7,h8]
structure OkDb (d:Db):Prop where
 len:d.gone.length=d.list.length
 ok:∀c ∈ d.list,bp c=true
 big:d.list.length≤2000
def nB (d:Db) (k:Int):Bool:=decide (0≤k) && (decide (k<(d.list.length:Int)) && !(d.gone.getD k.toNat true))
def lk:List Con→List Bool→List Con
 | c :: cs,g :: gs=>if g then lk cs gs else c :: lk cs gs
 | _,_=>[]
def sd (d:Db):List Con:=lk d.list d.gone
theorem Eo {gs:List Bool} {k:Int} (h0:0≤k) (h1:k<(gs.length:Int)):idx gs k=some (gs.getD k.toNat true):=by
 have hl:k.toNat<gs.length:=by omega
 rw [sv h0 hl,List.getD_eq_getElem?_getD,List.getElem?_eq_getElem hl]
 rfl
theorem Fq {d:Db} (hd:OkDb d) (k:Int):iP d k=some (nB d k):=by
 have:=hd.big
 unfold iP nB cX
 rw [aR (by omega) (by omega),Option.bind_some]
 by_cases h0:0≤k
 ·by_cases h1:k<(d.list.length:Int)
  ·have h2:k≤(d.list.length:Int) - 1:=by omega
   rw [Eo h0 (by rw [hd.len]; exact h1)]
   simp [h0,h1,h2]
  ·have h2:¬ k≤(d.list.length:Int) - 1:=by omega
   simp [h0,h1,h2]
 ·simp [h0]
theorem vb:∀(cs:List Con) (gs:List Bool) (c:Con) (g:Bool),gs.length=cs.length→lk (cs++[c]) (gs++[g])=lk cs gs++(if g then [] else [c])
 | [],[],c,g,_=>by cases g <;> rfl
 | [],_ :: _,_,_,h=>by simp at h
 | _ :: _,[],_,_,h=>by simp at h
 | x :: cs,y :: gs,c,g,h=>by
  have:=vb cs gs c g (by simpa using h)
  cases y <;> simp [lk,this]
theorem sE:∀(cs:List Con) (gs:List Bool),(lk cs gs).length≤cs.length
 | [],_=>by simp [lk]
 | _ :: _,[]=>by simp [lk]
 | x :: cs,y :: gs=>by
  have:=sE cs gs
  cases y <;> simp [lk] <;> omega
theorem sQ:∀(cs:List Con) (gs:List Bool),∀c ∈ lk cs gs,c ∈ cs
 | [],_,c,h=>by simp [lk] at h
 | _ :: _,[],c,h=>by simp [lk] at h
 | x :: cs,y :: gs,c,h=>by
  rw [lk] at h
  split at h
  ·exact List.mem_cons_of_mem _ (sQ cs gs c h)
  ·rcases List.mem_cons.1 h with rfl | h
   ·exact List.mem_cons_self
   ·exact List.mem_cons_of_mem _ (sQ cs gs c h)
theorem Bg {τ:Type} {d:Db} (hd:OkDb d) {b:Nat→Con→List Con→Option (Lo (List Con) τ)} (hb:∀(i:Nat) c out,b i c out=(idx d.gone (i:Int)).bind fun g=>((if (!g) then ((app out ([c])).bind fun x=>some x) else (some out)):Option (List Con)).bind fun o=>some (.cont o)) :
  aw b d.list 0 []=some (.nx (sd d)):=by
 have hbig:=hd.big
 have:=dT (b:=b) (fun i=>lk (d.list.take i) (d.gone.take i)) d.list (by
  intro i c hc
  have hi:=(List.getElem?_eq_some_iff.1 hc).1
  have hg:d.gone[i]?=some (d.gone.getD i true):=by
   have hl:i<d.gone.length:=by rw [hd.len]; exact hi
   rw [List.getD_eq_getElem?_getD,List.getElem?_eq_getElem hl]; rfl
  have hk:=sE (d.list.take i) (d.gone.take i)
  rw [hb,cN,hg,Option.bind_some,ow hc,ow hg,vb _ _ _ _ (by simp [hd.len])]
  have hl:(d.list.take i).length≤2000:=by simp; omega
  cases d.gone.getD i true with
  | true=>simp
  | false=>rw [bR (by simp; omega)]; simp)
 have e0:lk (d.list.take 0) (d.gone.take 0)=[]:=rfl
 rw [e0] at this
 rw [this,List.take_length,← hd.len,List.take_length]
 rfl
theorem Cz {d:Db} (hd:OkDb d):jA d=some (sd d):=by
 unfold jA
 rw [Bg hd (b:=iY d) fun _ _ _=>rfl]
 rfl
def qV (d:Db) (k:Int):Con:=d.list.getD k.toNat rb
def ni (d:Db) (s:Step):Con × Bool:=
 if s.kind=6 then BJ s.a
 else if s.kind=7 then (s.given,bp s.given && uP (sd d) s.given)
 else if nB d s.a=false then (rb,false)
 else if s.kind=1 then if nB d s.b=false then (rb,false) else Bz (qV d s.a) (qV d s.b)
 else if s.kind=2 then mulC (qV d s.a) s.b
 else if s.kind=3 then divC (qV d s.a) s.b
 else if s.kind=4 then Bt (qV d s.a)
 else wh (qV d s.a) s.b
def nN (d:Db) (c:Con):Db:=⟨d.list++[c],d.gone++[false]⟩
def nQ (d:Db) (s:Step):Option Db:=
 if um s=false then none
 else if s.kind=8 then if nB d s.a then some ⟨d.list,d.gone.set s.a.toNat true⟩ else none
 else if (ni d s).2 then some (nN d (ni d s).1) else none
theorem m6 {d:Db} (hd:OkDb d) {k:Int} (h:nB d k=true):idx d.list k=some (qV d k)∧bp (qV d k)=true∧0≤k∧k<(d.list.length:Int)∧d.gone.getD k.toNat true=false:=by
 unfold nB at h
 simp at h
 obtain ⟨h0,h1,h2⟩:=h
 have hl:k.toNat<d.list.length:=by omega
 have e:qV d k=d.list[k.toNat]:=by unfold qV; rw [List.getD_eq_getElem?_getD,List.getElem?_eq_getElem hl]; rfl
 refine ⟨?_,?_,h0,h1,by simpa using h2⟩
 ·rw [sv h0 hl,e]
 ·rw [e]; exact hd.ok _ (List.getElem_mem hl)
theorem Dr {d:Db} (hd:OkDb d):(∀c ∈ sd d,bp c=true)∧(sd d).length≤2000:=by
 have h1:=sE d.list d.gone
 have:=hd.big
 exact ⟨fun c hc=>hd.ok c (sQ _ _ c hc),by unfold sd; omega⟩
theorem z6 {d:Db} (hd:OkDb d) {s:Step} {c:Con} (h:ni d s=(c,true)):bp c=true:=by
 unfold ni at h
 split at h
 ·exact (Ds h).1
 split at h
 ·simp at h; rw [← h.1]; exact h.2.1
 split at h
 ·cases h
 split at h
 ·split at h
  ·cases h
  ·exact (DF h).1
 split at h
 ·exact (D9 h).1
 split at h
 ·exact (DM h).1
 split at h
 ·exact (Dp h).1
 ·exact (C2 h).1
theorem yT {d d':Db} (hd:OkDb d) (hb:d.list.length<2000) {s:Step} (h:nQ d s=some d'):OkDb d'∧d'.list.length≤d.list.length+1:=by
 unfold nQ at h
 split at h
 ·cases h
 split at h
 ·split at h
  ·cases h
   exact ⟨⟨by simp [hd.len],hd.ok,hd.big⟩,by simp⟩
  ·cases h
 ·split at h
  ·rename_i hok
   cases h
   have hc:=z6 hd (s:=s) (c:=(ni d s).1) (by rw [← hok])
   refine ⟨⟨by simp [nN,hd.len],?_,by simp [nN]; omega⟩,by simp [nN]⟩
   intro c hc'
   rcases List.mem_append.1 hc' with h | h
   ·exact hd.ok c h
   ·rw [List.mem_singleton] at h; subst h; exact hc
  ·cases h
theorem Dz (fu:Nat) (hf:FU≤fu) {d:Db} (hd:OkDb d) (s:Step):∃ l g,ia fu d s=some (match nQ d s with | some d'=>(true,d'.list,d'.gone) | none=>(false,l,g)):=by
 have hbig:=hd.big
 have hlen:=hd.len
 obtain ⟨k1,k2⟩:=Dr hd
 unfold ia nQ
 rw [Ei,B3,Option.bind_some,Option.bind_some]
 cases hp:um s with
 | false=>exact ⟨d.list,d.gone,by simp⟩
 | true =>
  have app1:∀(xs:List Con) (c:Con),xs.length≤2000→app xs [c]=some (xs++[c]):=fun xs c h=>bR (by simp; omega)
  have app2:app d.gone [false]=some (d.gone++[false]):=bR (by simp; omega)
  have hk:(s.kind=1 ∨ s.kind=2 ∨ s.kind=3 ∨ s.kind=4 ∨ s.kind=5 ∨ s.kind=6 ∨ s.kind=7 ∨ s.kind=8):=by
   rcases rm s.kind with h | h | h | h | h | h | h | h | ⟨h1,h2,h3,h4,h5,h6,h7,h8⟩
   all_goals first | (simp [h]; done) | (exfalso; unfold um at hp; simp [h1,h2,h3,h4,h5,h6,h7,h8] at hp)
  unfold ni
  rcases hk with h | h | h | h | h | h | h | h
  all_goals simp only [h,ug,Fq hd]
  ·cases hl:nB d s.a with
   | false=>exact ⟨d.list,d.gone,by simp⟩
   | true =>
    cases hm:nB d s.b with
    | false=>exact ⟨d.list,d.gone,by simp⟩
    | true =>
     obtain ⟨a1,_⟩:=m6 hd hl
     obtain ⟨b1,_⟩:=m6 hd hm
     cases hok:(Bz (qV d s.a) (qV d s.b)).2 with
     | false=>exact ⟨_,_,by simp [a1,b1,Es,app1 _ _ hbig,app2,hok]; exact ⟨rfl,rfl⟩⟩
     | true=>exact ⟨[],[],by simp [a1,b1,Es,app1 _ _ hbig,app2,hok,nN]⟩
  ·cases hl:nB d s.a with
   | false=>exact ⟨d.list,d.gone,by simp⟩
   | true =>
    obtain ⟨a1,_⟩:=m6 hd hl
    cases hok:(mulC (qV d s.a) s.b).2 with
    | false=>exact ⟨_,_,by simp [a1,Ev,app1 _ _ hbig,app2,hok]; exact ⟨rfl,rfl⟩⟩
    | true=>exact ⟨[],[],by simp [a1,Ev,app1 _ _ hbig,app2,hok,nN]⟩
  ·cases hl:nB d s.a with
   | false=>exact ⟨d.list,d.gone,by simp⟩
   | true =>
    obtain ⟨a1,_⟩:=m6 hd hl
    cases hok:(divC (qV d s.a) s.b).2 with
    | false=>exact ⟨_,_,by simp [a1,Ew,app1 _ _ hbig,app2,hok]; exact ⟨rfl,rfl⟩⟩
    | true=>exact ⟨[],[],by simp [a1,Ew,app1 _ _ hbig,app2,hok,nN]⟩
  ·cases hl:nB d s.a with
   | false=>exact ⟨d.list,d.gone,by simp⟩
   | true =>
    obtain ⟨a1,_⟩:=m6 hd hl
    cases hok:(Bt (qV d s.a)).2 with
    | false=>exact ⟨_,_,by simp [a1,uC,app1 _ _ hbig,app2,hok]; exact ⟨rfl,rfl⟩⟩
    | true=>exact ⟨[],[],by simp [a1,uC,app1 _ _ hbig,app2,hok,nN]⟩
  ·cases hl:nB d s.a with
   | false=>exact ⟨d.list,d.gone,by simp⟩
   | true =>
    obtain ⟨a1,_⟩:=m6 hd hl
    cases hok:(wh (qV d s.a) s.b).2 with
    | false=>exact ⟨_,_,by simp [a1,Ce,app1 _ _ hbig,app2,hok]; exact ⟨rfl,rfl⟩⟩
    | true=>exact ⟨[],[],by simp [a1,Ce,app1 _ _ hbig,app2,hok,nN]⟩
  ·cases hok:(BJ s.a).2 with
   | false=>exact ⟨_,_,by simp [Eg,app1 _ _ hbig,app2,hok]; exact ⟨rfl,rfl⟩⟩
   | true=>exact ⟨[],[],by simp [Eg,app1 _ _ hbig,app2,hok,nN]⟩
  ·cases hv:bp s.given with
   | false=>exact ⟨_,_,by simp [kn,app1 _ _ hbig,app2,hv]; exact ⟨rfl,rfl⟩⟩
   | true =>
    cases hr:uP (sd d) s.given with
    | false=>exact ⟨_,_,by simp [kn,Cz hd,yZ fu hf k1 (by omega) hv,app1 _ _ hbig,app2,hv,hr]; exact ⟨rfl,rfl⟩⟩
    | true=>exact ⟨[],[],by simp [kn,Cz hd,yZ fu hf k1 (by omega) hv,app1 _ _ hbig,app2,hv,hr,nN]⟩
  ·cases hl:nB d s.a with
   | false=>exact ⟨d.list,d.gone,by simp⟩
   | true =>
    obtain ⟨_,_,a3,a4,_⟩:=m6 hd hl
    have:=Eo (gs:=d.gone) a3 (by rw [hlen]; exact a4)
    exact ⟨[],[],by simp [this]⟩
def nd:Db→List Step→Nat→Db × Int
 | d,[],_=>(d,-1)
 | d,s :: ss,i=>match nQ d s with
  | some d'=>nd d' ss (i+1)
  | none=>(d,(i:Int))
theorem A0:∀(ss:List Step) (d:Db) (i:Nat),OkDb d→d.list.length+ss.length≤2000→OkDb (nd d ss i).1∧(nd d ss i).1.list.length≤d.list.length+ss.length
 | [],d,i,h,_=>⟨h,Nat.le_refl _⟩
 | s :: ss,d,i,h,hl=>by
  simp only [List.length_cons] at *
  rw [nd]
  cases he:nQ d s with
  | none=>exact ⟨h,by simp only; omega⟩
  | some d' =>
   obtain ⟨h1,h2⟩:=yT h (by omega) he
   have:=A0 ss d' (i+1) h1 (by omega)
   exact ⟨this.1,by have:=this.2; simp only; omega⟩
def kT (list:List Con):Db:=⟨list,List.replicate list.length false⟩
theorem zf {list:List Con} (h:gD list=true):OkDb (kT list):=by
 obtain ⟨h1,h2⟩:=mw h
 exact ⟨by simp [kT],h1,by simp [kT]; omega⟩
def qd (list:List Con) (steps:List Step):Bool:=gD list && decide ((steps.length:Int)≤1000)
theorem vh {list:List Con} {steps:List Step} (h:qd list steps=true):gD list=true∧list.length≤400∧steps.length≤1000:=by
 unfold qd at h
 rw [Bool.and_eq_true] at h
 have:=of_decide_eq_true h.2
 exact ⟨h.1,(mw h.1).2,by omega⟩
def qh (list:List Con) (steps:List Step):Db × Int:=nd (kT list) steps 0
theorem uW (fu:Nat) (hf:FU≤fu) (list:List Con):∀(ss:List Step) (d:Db) (i:Nat),OkDb d→d.list.length+ss.length≤2000 →
  aw (nW fu list) ss i (d.list,d.gone)=some (if (nd d ss i).2<0 then .nx ((nd d ss i).1.list,(nd d ss i).1.gone) else .out (none,(nd d ss i).2))
 | [],d,i,_,_=>rfl
 | s :: ss,d,i,h,hl=>by
  simp only [List.length_cons] at *
  show (nW fu list i s (d.list,d.gone)).bind _=_
  obtain ⟨l,g,e⟩:=Dz fu hf h s
  have e':ia fu ({ list:=d.list,gone:=d.gone }:Db) s=_:=e
  rw [nW,e',nd]
  cases he:nQ d s with
  | none=>simp
  | some d' =>
   obtain ⟨h1,h2⟩:=yT h (by omega) he
   simpa using uW fu hf list ss d' (i+1) h1 (by omega)
def CC (list:List Con) (steps:List Step):Option Db × Int:=
 if qd list steps then if (qh list steps).2<0 then (some (qh list steps).1,-1) else (none,(qh list steps).2) else (none,0)
theorem Cd (fu:Nat) (hf:FU≤fu) (list:List Con) (steps:List Step):zt fu list steps=some (CC list steps):=by
 unfold zt CC
 rw [wm,Option.bind_some]
 cases hfi:qd list steps with
 | false =>
  have:((!gD list) || decide ((steps.length:Int) > 1000))=true:=by
   unfold qd at hfi
   cases h:gD list with
   | false=>rfl
   | true=>rw [h] at hfi; simp at hfi ⊢; omega
  rw [if_pos this]
  rfl
 | true =>
  obtain ⟨h1,h2,h3⟩:=vh hfi
  have:((!gD list) || decide ((steps.length:Int) > 1000))=false:=by simp [h1]; omega
  rw [if_neg (by rw [this]; simp),pR list (by omega),Option.bind_some,pn (n:=list.length) false (by omega),Option.bind_some]
  have:=uW fu hf list steps (kT list) 0 (zf h1) (by simp [kT]; omega)
  simp only [kT] at this
  rw [this,Option.bind_some,if_pos rfl]
  unfold qh kT
  generalize nd ⟨list,List.replicate list.length false⟩ steps 0=r
  obtain ⟨d,a⟩:=r
  simp only
  by_cases hn:a<0 <;> simp [hn]
theorem Dl {list:List Con} {steps:List Step} (h:qd list steps=true):OkDb (qh list steps).1∧(qh list steps).1.list.length≤list.length+steps.length:=by
 obtain ⟨h1,h2,h3⟩:=vh h
 exact A0 steps (kT list) 0 (zf h1) (by simp [kT]; omega)
end Go.L
