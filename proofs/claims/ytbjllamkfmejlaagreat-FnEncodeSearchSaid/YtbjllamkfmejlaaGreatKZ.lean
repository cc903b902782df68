/- The plain law: what the functions compute, and that it answers as the statement says. -/
import Derived.Test.YtbjllamkfmejlaaGreatKA
namespace Go.L
open Go Go.E
set_option linter.unusedVariables false
set_option linter.unusedSimpArgs false
set_option maxRecDepth 100000
theorem FJ (c:Con) (h:c.terms.length≤4000000):eZ c=some c:=by
 unfold eZ
 rw [uz _ h]
 rfl
def zP:List Con→List Bool→Nat→Int
 | c :: cs,g :: gs,i=>if !g && pW c then (i:Int) else zP cs gs (i+1)
 | _,_,_=>-1
def xE (d:Db):Int:=zP d.list d.gone 0
theorem yp:∀(cs:List Con) (gs:List Bool) (i:Nat),zP cs gs i=-1 ∨ ∃ k:Nat,zP cs gs i=((i+k:Nat):Int)∧∃ c,cs[k]?=some c∧pW c=true∧gs[k]?=some false
 | [],_,_=>.inl (by simp [zP])
 | _ :: _,[],_=>.inl (by simp [zP])
 | c :: cs,g :: gs,i=>by
  rw [zP]
  split
  ·rename_i h
   rw [Bool.and_eq_true] at h
   exact .inr ⟨0,rfl,c,rfl,h.2,by simpa using h.1⟩
  ·rcases yp cs gs (i+1) with h | ⟨k,h1,c',h2,h3,h4⟩
   ·exact .inl h
   ·exact .inr ⟨k+1,by rw [h1]; congr 1; omega,c',by simpa using h2,h3,by simpa using h4⟩
theorem yQ:∀(cs:List Con) (gs:List Bool) (i k:Nat) (c:Con),cs[k]?=some c→pW c=true→gs[k]?=some false→0≤zP cs gs i
 | [],_,_,k,c,h,_,_=>by simp at h
 | _ :: _,[],_,k,c,_,_,h=>by simp at h
 | x :: cs,g :: gs,i,k,c,h1,h2,h3=>by
  rw [zP]
  split
  ·omega
  ·rename_i hn
   cases k with
   | zero =>
    simp at h1 h3
    subst h1 h3
    simp [h2] at hn
   | succ k=>exact yQ cs gs (i+1) k c (by simpa using h1) h2 (by simpa using h3)
theorem uU {τ:Type} {b:Nat→Con→Unit→Option (Lo Unit τ)} (res:Int→τ) (gone:List Bool) (hb:∀(i:Nat) c g,gone[i]?=some g→bp c=true→b i c ()=some (if !g && pW c then .out (res (i:Int)) else .cont ())):∀(cs:List Con) (gs:List Bool) (i:Nat),gone.drop i=gs→gs.length=cs.length→(∀c ∈ cs,bp c=true) →
  aw b cs i ()=some (if 0≤zP cs gs i then .out (res (zP cs gs i)) else .nx ())
 | [],[],i,_,_,_=>by simp [aw,zP]
 | [],_ :: _,_,_,h,_=>by simp at h
 | _ :: _,[],_,_,h,_=>by simp at h
 | c :: cs,g :: gs,i,hd,hl,hc=>by
  have hg:gone[i]?=some g:=by
   have:=aY hd
   rwa [cN] at this
  show (b i c ()).bind _=_
  rw [hb i c g hg (hc c (by simp)),zP]
  cases hq:!g && pW c with
  | true=>simp
  | false=>simpa using uU res gone hb cs gs (i+1) (aL hd) (by simpa using hl) fun x hx=>hc x (by simp [hx])
theorem EX (cs:List Con) (gs:List Bool) (i:Nat):zP cs gs i=-1 ∨ 0≤zP cs gs i:=by
 rcases yp cs gs i with h | ⟨k,h,_⟩
 ·exact .inl h
 ·exact .inr (by omega)
def DB (list:List Con) (steps:List Step):Option Db × Int:=if qd list steps && decide ((qh list steps).2<0) then (some (qh list steps).1,xE (qh list steps).1) else (none,-1)
theorem vQ (fu:Nat) (hf:FU≤fu) (list:List Con) (steps:List Step):mG fu list steps=some (DB list steps):=by
 unfold mG DB
 rw [Cd fu hf,Option.bind_some]
 unfold CC
 cases h:qd list steps with
 | false=>rfl
 | true =>
  simp only [if_true]
  by_cases hn:(qh list steps).2<0
  ·have hd:=(Dl h).1
   generalize (qh list steps).1=d at hd
   simp only [hn,if_true,Option.bind_some,decide_true,Bool.and_self]
   rw [if_neg (by simp),uU (b:=j9 d) (fun i=>(some d,i)) d.gone (fun i c g hg hc=>by
    rw [j9,cN,hg,Option.bind_some,Di c]
    cases g <;> cases pW c <;> rfl) d.list d.gone 0 rfl hd.len hd.ok]
   unfold xE
   rcases EX d.list d.gone 0 with h | h
   ·simp [h]
   ·simp [h]
  ·have hn':(qh list steps).2 ≥ 0:=by omega
   simp [hn,hn']
def BY (list:List Con) (steps:List Step):Bool:=decide (0≤(DB list steps).2)
theorem Fh (fu:Nat) (hf:FU≤fu) (list:List Con) (steps:List Step):gT fu list steps=some (BY list steps):=by
 unfold gT BY
 rw [vQ fu hf]
 rfl
theorem Cw {list:List Con} {steps:List Step}:BY list steps=true ↔ qd list steps=true∧(qh list steps).2<0∧0≤xE (qh list steps).1:=by
 unfold BY DB
 cases h:qd list steps with
 | false=>simp
 | true =>
  by_cases hn:(qh list steps).2<0
  ·simp [hn]
  ·simp [hn]
theorem EW (a b:List Con):kx a b=some (decide (a=b)):=by
 unfold kx
 by_cases hl:a.length=b.length
 ·rw [if_neg (by simp [hl]),uv a b (b:=jF b) (fun i x=>by
   rw [jF]
   congr 1
   funext y
   rw [CJ]
   by_cases h:x=y <;> simp [h]) hl]
  by_cases h:a=b <;> simp [h]
 ·rw [if_pos (by simp; omega),decide_eq_false (by intro h; rw [h] at hl; exact hl rfl)]
theorem yF:∀(cs:List Con),lk cs (List.replicate cs.length false)=cs
 | []=>rfl
 | c :: cs=>by rw [List.length_cons,List.replicate_succ,lk,yF cs]; simp
theorem BE (cs:List Con) (c:Con):nN (kT cs) c=kT (cs++[c]):=by
 unfold nN kT
 rw [List.length_append,List.length_singleton,List.replicate_succ']
def u7:Con:=⟨[],0⟩
def seenAt (ls:List Int) (v:Int):Int:=if ls.contains v then v else if ls.contains (-v) then -v else 0
def q7 (ls:List Int):Nat→List Term
 | 0=>[]
 | n+1=>q7 ls n++(if seenAt ls ((n+1:Nat):Int) ≠ 0 then [⟨1,seenAt ls ((n+1:Nat):Int)⟩] else [])
def lj (ls:List Int):Con:=⟨q7 ls 12,1⟩
def rZ (l:Int):Bool:=l != 0 && (decide (-12≤l) && decide (l≤12))
theorem nL {l:Int}:rZ l=true ↔ cf l:=by unfold rZ cf; simp
def pD (ls:List Int):Bool:=ls.all fun l=>rZ l && !ls.contains (-l)
def xn (ls:List Int):Con × Bool:=if ls.length≤40 && pD ls then (lj ls,true) else (u7,false)
theorem fH {ls:List Int}:pD ls=true ↔ ∀l ∈ ls,cf l∧¬ (-l) ∈ ls:=by
 unfold pD
 rw [List.all_eq_true]
 constructor
 ·intro h l hl
  have:=h l hl
  rw [Bool.and_eq_true,nL] at this
  exact ⟨this.1,by simpa using this.2⟩
 ·intro h l hl
  rw [Bool.and_eq_true,nL]
  exact ⟨(h l hl).1,by simpa using (h l hl).2⟩
def qq (ls:List Int):List Int:=(List.range 13).map fun (k:Nat)=>seenAt ls (k:Int)
theorem qx (ls:List Int) (k:Nat) (h:k<13):(qq ls)[k]?=some (seenAt ls (k:Int)):=by
 unfold qq
 rw [List.getElem?_map,List.getElem?_range h]
 rfl
theorem s9 (ls:List Int):(qq ls).length=13:=by simp [qq]
theorem yN {ls:List Int} {l:Int} (hl:cf l) (h:¬ (-l) ∈ ls) (h0:∀x ∈ ls,cf x) (k:Nat) (hk:k<13):seenAt (ls++[l]) (k:Int)=if (k:Int)=bn l then l else seenAt ls (k:Int):=by
 obtain ⟨a0,a1,a2⟩:=hl
 unfold seenAt bn
 simp only [List.contains_eq_mem,List.mem_append,List.mem_singleton,decide_eq_true_eq]
 by_cases e:(k:Int)=max l (-l)
 ·rw [if_pos e]
  by_cases hp:l > 0
  ·have ek:(k:Int)=l:=by omega
   rw [if_pos (.inr ek),ek]
  ·have ek:(k:Int)=-l:=by omega
   have n1:¬ ((k:Int) ∈ ls ∨ (k:Int)=l):=by
    rintro (h1 | h1)
    ·rw [ek] at h1; exact h h1
    ·omega
   rw [if_neg n1,if_pos (.inr (by omega))]
   omega
 ·rw [if_neg e]
  have n1:((k:Int) ∈ ls ∨ (k:Int)=l) ↔ (k:Int) ∈ ls:=⟨fun h=>h.elim id fun h=>by exfalso; omega,.inl⟩
  have n2:(-(k:Int) ∈ ls ∨ -(k:Int)=l) ↔ -(k:Int) ∈ ls:=⟨fun h=>h.elim id fun h=>by exfalso; omega,.inl⟩
  simp only [n1,n2]
theorem FZ:wi 13 (0:Int)=some (qq []):=by
 have:List.replicate 13 (0:Int)=qq []:=by decide
 rw [← this]; exact pn (n:=13) (0:Int) (by omega)
theorem lv {α:Type} {xs:List α} {i:Nat} {x:α} (h:xs[i]?=some x):xs.take (i+1)=xs.take i++[x]:=by rw [List.take_add_one,h]; rfl
theorem xx (ls:List Int):∀n,(q7 ls n).length≤n
 | 0=>Nat.le_refl _
 | n+1=>by
  have:=xx ls n
  rw [q7,List.length_append]
  split <;> simp <;> omega
theorem EB {l:Int} (h:cf l):nr l=some (bn l):=CH l (by have:=h.2.1; omega) (by have:=h.2.2; omega)
theorem CZ (ls:List Int):jk ls=some (xn ls):=by
 unfold jk xn
 rw [FZ,Option.bind_some]
 by_cases h40:ls.length≤40
 ·rw [if_neg (by simp; omega)]
  have hd:decide (ls.length≤40)=true:=decide_eq_true h40
  rw [hd,Bool.true_and]
  obtain ⟨j,hj,hQ⟩:=qA (b:=ka) ls (fun i s=>s=qq (ls.take i)∧pD (ls.take i)=true)
   (fun j=>match j with | .nx s=>s=qq ls∧pD ls=true | .out t=>t=(u7,false)∧pD ls=false)
   (fun s h=>by simpa using h) (by
    rintro i l s hl ⟨rfl,hok⟩
    have hi:=(List.getElem?_eq_some_iff.1 hl).1
    have hml:=List.mem_of_getElem? hl
    rw [ka]
    unfold qQ
    cases hlo:rZ l with
    | false =>
     refine ⟨.out (u7,false),?_,rfl,?_⟩
     ·have:(((l != 0) && (decide (l ≥ (-12)))) && (decide (l≤12)))=false:=by rw [← hlo]; unfold rZ; rw [Bool.and_assoc]
      rw [this]; rfl
     ·cases hc:pD ls with
      | false=>rfl
      | true=>rw [nL.2 (fH.1 hc l hml).1] at hlo; cases hlo
    | true =>
     have h12:=nL.1 hlo
     obtain ⟨a0,a1,a2⟩:=h12
     have:(((l != 0) && (decide (l ≥ (-12)))) && (decide (l≤12)))=true:=by rw [← hlo]; unfold rZ; rw [Bool.and_assoc]
     rw [this]
     simp only [Option.bind_some,Bool.not_true,Bool.false_eq_true,if_false]
     obtain ⟨k,hk⟩:∃ k:Nat,bn l=(k:Int):=⟨(bn l).toNat,by unfold bn; omega⟩
     have hk13:k<13:=by unfold bn at hk; omega
     rw [EB ⟨a0,a1,a2⟩,Option.bind_some,hk,cN,qx _ _ hk13,Option.bind_some,aR (by omega) (by omega)]
     have hnn:∀x ∈ ls.take i,cf x:=fun x hx=>(fH.1 hok x hx).1
     by_cases hc:(-l) ∈ ls.take i
     ·refine ⟨.out (u7,false),?_,rfl,?_⟩
      ·have hs:seenAt (ls.take i) (k:Int)=-l:=by
        have hnl:¬ l ∈ ls.take i:=fun h=>by
         have:=(fH.1 hok (-l) hc).2
         rw [Int.neg_neg] at this
         exact this h
        unfold seenAt
        unfold bn at hk
        simp only [List.contains_eq_mem,decide_eq_true_eq]
        by_cases hp:l > 0
        ·have e1:(k:Int)=l:=by omega
         rw [e1,if_neg hnl,if_pos hc]
        ·have e1:(k:Int)=-l:=by omega
         rw [e1,if_pos hc]
       rw [hs,beq_self_eq_true]
       rfl
      ·cases hx:pD ls with
       | false=>rfl
       | true=>exact absurd (List.mem_of_mem_take hc) (fH.1 hx l hml).2
     ·have hs:(seenAt (ls.take i) (k:Int) == -l)=false:=by
       unfold seenAt
       unfold bn at hk
       simp only [List.contains_eq_mem,decide_eq_true_eq]
       rw [beq_eq_false_iff_ne]
       intro e
       split at e
       ·rename_i hm; rw [e] at hm; exact hc hm
       ·split at e
        ·rename_i hm; rw [e] at hm; exact hc hm
        ·omega
      rw [hs]
      refine ⟨.cont (qq (ls.take (i+1))),?_,rfl,?_⟩
      ·simp only [Bool.false_eq_true,if_false,Int.toNat_natCast]
       congr 2
       rw [lv hl]
       apply List.ext_getElem?
       intro q
       by_cases hq:q<13
       ·rw [qx _ _ hq,List.getElem?_set,yN ⟨a0,a1,a2⟩ hc hnn q hq,s9,qx _ _ hq]
        by_cases e:k=q
        ·subst e; rw [if_pos rfl,if_pos hk13,hk,if_pos rfl]
        ·rw [if_neg e,hk,if_neg (by omega)]
       ·rw [List.getElem?_eq_none (by rw [List.length_set,s9]; omega),List.getElem?_eq_none (by rw [s9]; omega)]
      ·rw [lv hl,fH]
       intro x hx
       rcases List.mem_append.1 hx with hx | hx
       ·have:=fH.1 hok x hx
        refine ⟨this.1,fun hm=>?_⟩
        rcases List.mem_append.1 hm with hm | hm
        ·exact this.2 hm
        ·rw [List.mem_singleton] at hm
         apply hc
         rw [← hm,Int.neg_neg]; exact hx
       ·rw [List.mem_singleton] at hx
        subst hx
        refine ⟨⟨a0,a1,a2⟩,fun hm=>?_⟩
        rcases List.mem_append.1 hm with hm | hm
        ·exact hc hm
        ·rw [List.mem_singleton] at hm; omega) (qq []) ⟨rfl,rfl⟩
  rw [hj,Option.bind_some]
  cases j with
  | out t=>obtain ⟨rfl,h⟩:=hQ; rw [h]; rfl
  | nx s =>
   obtain ⟨rfl,h⟩:=hQ
   rw [h]
   simp only [if_true]
   have e:jL 1 (12+1)=some 12:=by rw [oC (s:=1) (by omega) (by omega)]; congr 1
   rw [e,Option.bind_some]
   have:=jo (b:=jW (qq ls)) (fun i=>q7 ls (i - 1)) 12 1 (by
    intro i h1 h2
    obtain ⟨n,rfl⟩:∃ n,i=n+1:=⟨i - 1,by omega⟩
    have hl:=xx ls n
    rw [jW,cN,qx _ _ (by omega),Option.bind_some]
    simp only [Nat.add_sub_cancel,q7]
    by_cases hz:seenAt ls ((n+1:Nat):Int)=0
    ·have hz':(seenAt ls ((n+1:Nat):Int) != 0)=false:=by simpa using hz
     rw [hz',if_neg (by simp),if_neg (by simpa using hz),List.append_nil]
     rfl
    ·have hz':(seenAt ls ((n+1:Nat):Int) != 0)=true:=by simpa using hz
     rw [hz',if_pos rfl,bR (by simp; omega),if_pos hz]
     rfl)
   have e0:([]:List Term)=q7 ls (1 - 1):=rfl
   rw [e0,this]
   rfl
 ·rw [if_pos (by simp; omega),decide_eq_false h40]
  rfl
def FR (a b:Int):Prop:=bn a≤bn b
theorem Fz {a b:Int} (ha:cf a) (hb:cf b):b7 a b=some (bn a - bn b):=by
 obtain ⟨_,a1,a2⟩:=ha
 obtain ⟨_,b1,b2⟩:=hb
 unfold b7 dW
 rw [aR (n:=-a) (by omega) (by omega),Option.bind_some,aR (n:=-b) (by omega) (by omega),Option.bind_some]
 show some (i64 (bn a - bn b))=_
 rw [aR (by unfold bn; omega) (by unfold bn; omega)]
theorem AO {α:Type} (pre:List α) (y x z:α) (r:List α) (k:Nat) (hk:k=pre.length):(pre++x :: r).set k y=pre++y :: r:=by
 subst hk
 rw [List.set_append_right _ _ (Nat.le_refl _),Nat.sub_self,List.set_cons_zero]
theorem zr (a:Int) (ha:a=0) (x:Int) (hx:cf x) (rest:List Int):∀(n:Nat) (pre mid:List Int) (k:Nat),pre.length=n→n<k→pre.length≤100→(∀y ∈ pre,cf y) →
  ∃ p q,p++q=pre∧bx (bc a b7) k (pre++x :: (mid++rest),(n:Int))=some (.nx (p++x :: (q++mid++rest),(p.length:Int)))∧(∀y ∈ q,bn x<bn y)∧(∀y,p.getLast?=some y→bn y≤bn x)
 | 0,pre,mid,k,hn,hk,h1,h2=>by
  obtain ⟨k,rfl⟩:∃ k',k=k'+1:=⟨k - 1,by omega⟩
  have hp:pre=[]:=List.length_eq_zero_iff.1 hn
  subst hp ha
  refine ⟨[],[],rfl,?_,by simp,by simp⟩
  show (bc 0 b7 _).bind _=_
  rw [bc]
  simp
 | n+1,pre,mid,k,hn,hk,h1,h2=>by
  obtain ⟨k,rfl⟩:∃ k',k=k'+1:=⟨k - 1,by omega⟩
  subst ha
  obtain ⟨pre',y,rfl⟩:∃ p y,pre=p++[y]:=by
   refine ⟨pre.dropLast,pre.getLast (by intro h; subst h; simp at hn),?_⟩
   exact (List.dropLast_concat_getLast _).symm
  have hl:pre'.length=n:=by simpa using hn
  have hy:=h2 y (by simp)
  have i1:idx (pre'++[y]++x :: (mid++rest)) ((n+1:Nat):Int)=some x:=by
   rw [cN,List.getElem?_append_right (by simp; omega)]
   simp [hl]
  have i2:idx (pre'++[y]++x :: (mid++rest)) (i64 (((n+1:Nat):Int) - 1))=some y:=by
   rw [aR (by omega) (by omega),show ((n+1:Nat):Int) - 1=(n:Int) by omega,cN,List.append_assoc,List.getElem?_append_right (by omega),hl,Nat.sub_self]
   rfl
  have ec:(if decide (((n+1:Nat):Int) > 0) then ((idx (pre'++[y]++x :: (mid++rest)) ((n+1:Nat):Int)).bind fun x14=>(idx (pre'++[y]++x :: (mid++rest)) (i64 (((n+1:Nat):Int) - 1))).bind fun x19=>(b7 x14 x19).bind fun x22=>some (decide (x22<0))) else some false)=some (decide (bn x<bn y)):=by
   rw [if_pos (decide_eq_true (by omega)),i1,Option.bind_some,i2,Option.bind_some,Fz hx hy,Option.bind_some]
   congr 1
   by_cases h:bn x<bn y
   ·rw [decide_eq_true h,decide_eq_true (by omega)]
   ·rw [decide_eq_false h,decide_eq_false (by omega)]
  by_cases hc:bn x<bn y
  ·obtain ⟨p,q,e1,e2,e3,e4⟩:=zr 0 rfl x hx rest n pre' (y :: mid) k hl (by omega) (by simp at h1; omega) (fun z hz=>h2 z (by simp [hz]))
   refine ⟨p,q++[y],by rw [← e1]; simp,?_,?_,e4⟩
   ·show (bc 0 b7 _).bind _=_
    rw [bc,ec,Option.bind_some,decide_eq_true hc,if_pos rfl,i2,Option.bind_some,i1,Option.bind_some]
    have s1:(pre'++[y]++x :: (mid++rest)).set (Int.toNat ((n+1:Nat):Int)) y=pre'++[y]++y :: (mid++rest):=AO _ y x x _ _ (by simp; omega)
    have e5:i64 (((n+1:Nat):Int) - 1)=(n:Int):=by rw [aR (by omega) (by omega)]; omega
    rw [s1,e5]
    have i3:idx (pre'++[y]++y :: (mid++rest)) (n:Int)=some y:=by
     rw [cN,List.append_assoc,List.getElem?_append_right (by omega),hl,Nat.sub_self]
     rfl
    rw [i3,Option.bind_some]
    have s2:(pre'++[y]++y :: (mid++rest)).set (Int.toNat (n:Int)) x=pre'++x :: (y :: (mid++rest)):=by
     rw [List.append_assoc]
     exact AO pre' x y y _ _ (by simp; omega)
    rw [s2]
    show bx (bc 0 b7) k (pre'++x :: (y :: mid++rest),(n:Int))=_
    rw [e2]
    simp
   ·intro z hz
    rcases List.mem_append.1 hz with hz | hz
    ·exact e3 z hz
    ·rw [List.mem_singleton] at hz; subst hz; exact hc
  ·refine ⟨pre'++[y],[],by simp,?_,by simp,?_⟩
   ·show (bc 0 b7 _).bind _=_
    rw [bc,ec,Option.bind_some,decide_eq_false hc]
    simp [hl]
   ·intro z hz
    simp at hz
    subst hz
    omega
def kM (xs:List Int):Prop:=xs.Pairwise FR
theorem Ae {p q:List Int} {x:Int} (h:kM (p++q)) (h1:∀y ∈ q,bn x<bn y) (h2:∀y,p.getLast?=some y→bn y≤bn x):kM (p++x :: q):=by
 unfold kM at *
 rw [List.pairwise_append] at h
 obtain ⟨hp,hq,hpq⟩:=h
 have hpx:∀y ∈ p,FR y x:=by
  intro y hy
  cases hlast:p.getLast? with
  | none=>rw [List.getLast?_eq_none_iff] at hlast; subst hlast; cases hy
  | some z =>
   have hz:=h2 z hlast
   have:FR y z:=by
    obtain ⟨p',rfl⟩:∃ p',p=p'++[z]:=by
     rw [List.getLast?_eq_some_iff] at hlast
     exact hlast
    rw [List.pairwise_append] at hp
    rcases List.mem_append.1 hy with hy | hy
    ·exact hp.2.2 y hy z (by simp)
    ·rw [List.mem_singleton] at hy; subst hy; exact Int.le_refl _
   exact Int.le_trans this hz
 rw [List.pairwise_append]
 refine ⟨hp,?_,?_⟩
 ·rw [List.pairwise_cons]
  exact ⟨fun y hy=>Int.le_of_lt (h1 y hy),hq⟩
 ·intro y hy z hz
  rcases List.mem_cons.1 hz with rfl | hz
  ·exact hpx y hy
  ·exact hpq y hy z hz
theorem BS (fu:Nat) (hf:FU≤fu) (ls:List Int) (hl:∀l ∈ ls,cf l) (h12:ls.length≤12) (h1:1≤ls.length):∃ r,bQ fu ls 0 (ls.length:Int) b7=some r∧r.Perm ls∧kM r:=by
 unfold FU at hf
 unfold bQ
 obtain ⟨j,hj,hQ⟩:=iN (b:=br fu 0 (ls.length:Int) b7)
  (fun n (s:List Int × Int)=>∃ i:Nat,s.2=(i:Int)∧i+n=ls.length∧∃ P,s.1=P++ls.drop i∧P.Perm (ls.take i)∧kM P)
  (fun j=>∃ r k,j=.nx (r,k)∧r.Perm ls∧kM r) (fun n s hI=>by
   obtain ⟨d,k⟩:=s
   obtain ⟨i,hk,hi,P,hd,hp,hs⟩:=hI
   simp only at hk hd
   subst hk hd
   cases n with
   | zero =>
    refine ⟨_,by rw [br,if_neg (by simp; omega)],?_⟩
    have:i=ls.length:=by omega
    subst this
    rw [List.take_length] at hp
    exact ⟨_,_,rfl,by simpa using hp,by simpa using hs⟩
   | succ n =>
    have hil:i<ls.length:=by omega
    have hdr:ls.drop i=ls[i] :: ls.drop (i+1):=List.drop_eq_getElem_cons hil
    have hpl:P.length=i:=by rw [hp.length_eq]; simp; omega
    have hP:∀y ∈ P,cf y:=fun y hy=>hl y (List.mem_of_mem_take (hp.mem_iff.1 hy))
    obtain ⟨p,q,e1,e2,e3,e4⟩:=zr 0 rfl ls[i] (hl _ (List.getElem_mem hil)) (ls.drop (i+1)) i P [] fu hpl (by omega) (by omega) hP
    refine ⟨.cont (p++ls[i] :: (q++[]++ls.drop (i+1)),((i+1:Nat):Int)),?_,n,by omega,i+1,rfl,by omega,p++ls[i] :: q,by simp,?_,?_⟩
    ·rw [br,if_pos (decide_eq_true (by omega)),hdr]
     show ((bx _ fu (P++ls[i] :: ([]++ls.drop (i+1)),(i:Int))).bind _)=_
     rw [e2,Option.bind_some]
     simp only
     rw [aR (by omega) (by omega)]
     rfl
    ·rw [lv (List.getElem?_eq_getElem hil)]
     have h1:(p++ls[i] :: q).Perm (ls[i] :: (p++q)):=List.perm_middle
     rw [e1] at h1
     refine h1.trans ?_
     have h2:(ls[i] :: P).Perm (ls[i] :: ls.take i):=hp.cons _
     refine h2.trans ?_
     exact (List.perm_append_singleton _ _).symm
    ·rw [← e1] at hs
     exact Ae hs e3 e4)
  fu (ls.length - 1) (ls,i64 (0+1)) ⟨1,by simp [aR],by omega,ls.take 1,(List.take_append_drop 1 ls).symm,List.Perm.refl _,by
   obtain ⟨a,t,rfl⟩:∃ a t,ls=a :: t:=by
    cases ls with
    | nil=>simp at h1
    | cons a t=>exact ⟨a,t,rfl⟩
   simp [kM]⟩ (by omega)
 rw [hj]
 obtain ⟨r,k,rfl,h2,h3⟩:=hQ
 exact ⟨r,rfl,h2,h3⟩
theorem B4 (fu:Nat) (hf:FU≤fu) (ls:List Int) (hl:∀l ∈ ls,cf l) (h12:ls.length≤12):∃ r,fF fu ls b7=some r∧r.Perm ls∧kM r:=by
 have hF:=hf
 unfold FU at hf
 have h0:∃ r,bQ fu ls 0 (ls.length:Int) b7=some r∧r.Perm ls∧kM r:=by
  by_cases h1:1≤ls.length
  ·exact BS fu hF ls hl h12 h1
  ·have:ls=[]:=List.length_eq_zero_iff.1 (by omega)
   subst this
   refine ⟨[],?_,List.Perm.refl _,List.Pairwise.nil⟩
   unfold bQ
   obtain ⟨k,rfl⟩:∃ k,fu=k+1:=⟨fu - 1,by omega⟩
   have:bx (br (k+1) 0 (([]:List Int).length:Int) b7) (k+1) ([],i64 (0+1))=some (.nx ([],i64 (0+1))):=by
    show (br (k+1) 0 (([]:List Int).length:Int) b7 ([],i64 (0+1))).bind _=_
    rw [br,if_neg (by rw [aR (by omega) (by omega)]; simp)]
    rfl
   rw [this]
   rfl
 obtain ⟨r,h1,h2,h3⟩:=h0
 refine ⟨r,?_,h2,h3⟩
 unfold fF
 have hb:bits_Len (IntKind.u64.wrap (ls.length:Int))=some (Go.Lib.bitLen (IntKind.u64.wrap (ls.length:Int)).toNat:Int):=by
  unfold bits_Len
  have:IntKind.u64.wrap (ls.length:Int)=(ls.length:Int):=by rw [IntKind.wrap_u64]; omega
  rw [this,if_pos (by omega)]
 rw [hb,Option.bind_some]
 unfold eL
 obtain ⟨k,rfl⟩:∃ k,fu=k+1:=⟨fu - 1,by omega⟩
 have:bx (cK (k+1) ls 0 (ls.length:Int) b7) (k+1) ()=some (.out r):=by
  show (cK (k+1) ls 0 (ls.length:Int) b7 ()).bind _=_
  rw [cK,aR (by omega) (by omega),if_pos (decide_eq_true (by omega)),h1]
  rfl
 rw [this]
 rfl
theorem yG (xs:List Int) (v:Int):cV xs v=some (xs.contains v):=by
 unfold cV iu
 obtain ⟨j,h1,h2⟩:=kB (q:=fun x=>v == x) (b:=eE v) xs (fun i x hx=>by rw [eE]; cases v == x <;> rfl)
 rw [h1]
 have e:(xs.any fun x=>v == x)=xs.contains v:=by
  rw [List.contains_eq_any_beq]
 cases j with
 | nx u=>simp only at h2; rw [← e,h2]; rfl
 | out t=>simp only at h2; rw [← e,h2.2]; simp [h2.1]
theorem zT (ls:List Int) (hl:ls.length≤1000) (h:∀i a b,ls[i]?=some a→ls[i+1]?=some b→b ≠ a):gu ls=some ls:=by
 unfold gu
 by_cases h2:ls.length<2
 ·rw [if_pos (decide_eq_true (by omega))]
 ·rw [if_neg (by simp; omega),oC (s:=1) (by omega) (by omega),Option.bind_some]
  have:=jo (b:=eQ ls) (fun _=>()) ((ls.length:Int) - (1:Nat)).toNat 1 (by
   intro i h1 h3
   obtain ⟨n,rfl⟩:∃ n,i=n+1:=⟨i - 1,by omega⟩
   have hn:n+1<ls.length:=by omega
   have e1:ls[n]?=some ls[n]:=List.getElem?_eq_getElem (by omega)
   have e2:ls[n+1]?=some ls[n+1]:=List.getElem?_eq_getElem hn
   have hne:=h n _ _ e1 e2
   have e3:(ls[n+1] == ls[n])=false:=by rw [beq_eq_false_iff_ne]; exact hne
   rw [eQ,cN,e2,Option.bind_some,aR (by omega) (by omega),show ((n+1:Nat):Int) - 1=(n:Int) by omega,cN,e1,Option.bind_some,e3]
   rfl)
  rw [this]
  rfl
def nw (xs:List Int):Prop:=xs.Pairwise fun a b=>bn a<bn b
theorem r4 (n:Int):∀(xs:List Int),nw xs→xs.filter (fun l=>decide (bn l≤n+1))=xs.filter (fun l=>decide (bn l≤n))++xs.filter (fun l=>decide (bn l=n+1))
 | [],_=>rfl
 | x :: xs,h=>by
  unfold nw at h
  rw [List.pairwise_cons] at h
  have ih:=r4 n xs h.2
  have tl:∀m:Int,m<bn x→xs.filter (fun l=>decide (bn l≤m))=[]:=fun m hm=>by
   rw [List.filter_eq_nil_iff]
   intro y hy
   have:=h.1 y hy
   simp; omega
  have cp:∀(p:Int→Bool),p x=true→(x :: xs).filter p=x :: xs.filter p:=fun p hp=>by rw [List.filter_cons,if_pos hp]
  have cn:∀(p:Int→Bool),p x=false→(x :: xs).filter p=xs.filter p:=fun p hp=>by rw [List.filter_cons,hp]; rfl
  by_cases h1:bn x≤n
  ·rw [cp (fun l=>decide (bn l≤n+1)) (decide_eq_true (by omega)),cp (fun l=>decide (bn l≤n)) (decide_eq_true h1),cn (fun l=>decide (bn l=n+1)) (decide_eq_false (by omega)),ih,List.cons_append]
  ·rw [cn (fun l=>decide (bn l≤n)) (decide_eq_false h1)]
   rw [tl n (by omega),List.nil_append] at ih ⊢
   by_cases h2:bn x=n+1
   ·rw [cp (fun l=>decide (bn l≤n+1)) (decide_eq_true (by omega)),cp (fun l=>decide (bn l=n+1)) (decide_eq_true h2),ih]
   ·rw [cn (fun l=>decide (bn l≤n+1)) (decide_eq_false (by omega)),cn (fun l=>decide (bn l=n+1)) (decide_eq_false h2),ih]
theorem filter_one (v:Int) (hv:0<v):∀(xs:List Int),nw xs→(∀x ∈ xs,cf x)→xs.filter (fun l=>decide (bn l=v))=(if seenAt xs v ≠ 0 then [seenAt xs v] else [])
 | [],_,_=>by simp [seenAt]
 | x :: xs,h,hl=>by
  unfold nw at h
  rw [List.pairwise_cons] at h
  have hx:=hl x (by simp)
  obtain ⟨x0,_,_⟩:=hx
  rw [List.filter_cons]
  by_cases h1:bn x=v
  ·have e1:xs.filter (fun l=>decide (bn l=v))=[]:=by
    rw [List.filter_eq_nil_iff]
    intro y hy
    have:=h.1 y hy
    simp; omega
   have hn:∀y ∈ xs,bn y ≠ v:=fun y hy=>by have:=h.1 y hy; omega
   have hs:seenAt (x :: xs) v=x:=by
    unfold seenAt
    unfold bn at h1
    simp only [List.contains_eq_mem,List.mem_cons,decide_eq_true_eq]
    by_cases hp:x > 0
    ·have:v=x:=by omega
     rw [if_pos (.inl this),this]
    ·have e:v=-x:=by omega
     have n1:¬ (v=x ∨ v ∈ xs):=by
      rintro (h | h)
      ·omega
      ·have:=hn v h; unfold bn at this; omega
     rw [if_neg n1,if_pos (.inl (by omega))]
     omega
   rw [if_pos (decide_eq_true h1),e1,hs,if_pos x0]
  ·have hs:seenAt (x :: xs) v=seenAt xs v:=by
    unfold seenAt
    unfold bn at h1
    simp only [List.contains_eq_mem,List.mem_cons,decide_eq_true_eq]
    have n1:(v=x ∨ v ∈ xs) ↔ v ∈ xs:=⟨fun h=>h.elim (fun h=>by exfalso; omega) id,.inr⟩
    have n2:(-v=x ∨ -v ∈ xs) ↔ -v ∈ xs:=⟨fun h=>h.elim (fun h=>by exfalso; omega) id,.inr⟩
    simp only [n1,n2]
   rw [if_neg (by simpa using h1),hs]
   exact filter_one v hv xs h.2 fun y hy=>hl y (by simp [hy])
theorem vn (xs:List Int) (h:nw xs) (hl:∀x ∈ xs,cf x):∀n:Nat,q7 xs n=(xs.filter fun l=>decide (bn l≤(n:Int))).map fun l=>(⟨1,l⟩:Term)
 | 0=>by
  have:xs.filter (fun l=>decide (bn l≤((0:Nat):Int)))=[]:=by
   rw [List.filter_eq_nil_iff]
   intro y hy
   have:=(hl y hy).1
   unfold bn
   simp; omega
  rw [q7,this]; rfl
 | n+1=>by
  rw [q7,vn xs h hl n,show ((n+1:Nat):Int)=(n:Int)+1 by omega,r4 (n:Int) xs h,List.map_append,filter_one ((n:Int)+1) (by omega) xs h hl]
  congr 1
  split <;> rfl
theorem zU (xs:List Int) (h:nw xs) (hl:∀x ∈ xs,cf x):q7 xs 12=xs.map fun l=>(⟨1,l⟩:Term):=by
 rw [vn xs h hl]
 congr 1
 rw [List.filter_eq_self]
 intro x hx
 obtain ⟨_,h1,h2⟩:=hl x hx
 unfold bn
 simp; omega
theorem zo {xs ys:List Int} (h:∀x,x ∈ xs ↔ x ∈ ys) (v:Int):seenAt xs v=seenAt ys v:=by
 unfold seenAt
 simp only [List.contains_eq_mem,h]
theorem ya {xs ys:List Int} (h:∀x,x ∈ xs ↔ x ∈ ys):∀n,q7 xs n=q7 ys n
 | 0=>rfl
 | n+1=>by rw [q7,q7,ya h n,zo h]
theorem sw {α β:Type} (f:α→β):∀(ls:List α) (i j:Nat) (a b:α),(ls.map f).Nodup→i<j→ls[i]?=some a→ls[j]?=some b→f a ≠ f b
 | x :: xs,0,j+1,a,b,h,_,ha,hb=>by
  rw [List.map_cons,List.nodup_cons] at h
  simp only [List.getElem?_cons_zero,Option.some.injEq,List.getElem?_cons_succ] at ha hb
  subst ha
  intro e
  exact h.1 (by rw [e]; exact List.mem_map_of_mem (List.mem_of_getElem? hb))
 | x :: xs,i+1,j+1,a,b,h,hij,ha,hb=>by
  rw [List.map_cons,List.nodup_cons] at h
  simp only [List.getElem?_cons_succ] at ha hb
  exact sw f xs i j a b h.2 (by omega) ha hb
def dq (ls:List Int):Prop:=(ls.map bn).Nodup
theorem Be {xs:List Int} (h:kM xs) (hd:dq xs):nw xs:=by
 unfold kM nw dq at *
 induction xs with
 | nil=>exact List.Pairwise.nil
 | cons x xs ih =>
  rw [List.pairwise_cons] at *
  rw [List.map_cons,List.nodup_cons] at hd
  refine ⟨fun y hy=>?_,ih h.2 hd.2⟩
  have h1:=h.1 y hy
  unfold FR at h1
  have h2:bn x ≠ bn y:=fun e=>hd.1 (by rw [e]; exact List.mem_map_of_mem hy)
  omega
theorem jq {ls:List Int} (hl:∀l ∈ ls,cf l) (hd:dq ls):pD ls=true:=by
 rw [fH]
 intro l h
 refine ⟨hl l h,fun hn=>?_⟩
 unfold dq at hd
 have hne:-l ≠ l:=by have:=(hl l h).1; omega
 obtain ⟨i,hi⟩:=List.getElem?_of_mem h
 obtain ⟨j,hj⟩:=List.getElem?_of_mem hn
 have hij:i ≠ j:=by intro e; subst e; rw [hi] at hj; injection hj with hj; exact hne hj.symm
 have hil:=(List.getElem?_eq_some_iff.1 hi).1
 have hjl:=(List.getElem?_eq_some_iff.1 hj).1
 rcases Nat.lt_or_ge i j with hlt | hge
 ·exact sw bn ls i j l (-l) hd hlt hi hj (pS l).symm
 ·exact sw bn ls j i (-l) l hd (by omega) hj hi (pS l)
theorem uT (fu:Nat) (hf:FU≤fu) (ls:List Int) (hl:∀l ∈ ls,cf l) (hd:dq ls) (h12:ls.length≤12):ku fu ls=some (lj ls,true):=by
 have hok:=jq hl hd
 unfold ku
 rw [if_neg (by simp; omega),mA (fun l=>rZ l && !ls.contains (-l)) (u7,false) ls fun i l hli=>by
  have hm:=List.mem_of_getElem? hli
  have hlo:=nL.2 (hl l hm)
  have h1:gP l=some true:=by
   unfold gP cX
   unfold rZ at hlo
   rw [Bool.and_eq_true] at hlo
   rw [hlo.1]
   simp [hlo.2]
  have hl':=hl l hm
  rw [lz,h1,yG,aR (by have:=hl'.2.2; omega) (by have:=hl'.2.1; omega),hlo]
  cases ls.contains (-l) <;> rfl,Option.bind_some]
 have hall:(ls.all fun l=>rZ l && !ls.contains (-l))=true:=hok
 rw [hall]
 simp only [if_true]
 rw [gU ls (by omega),Option.bind_some]
 obtain ⟨r,h1,h2,h3⟩:=B4 fu hf ls hl h12
 have hdr:dq r:=by
  unfold dq at *
  exact (h2.map bn).nodup_iff.2 hd
 have hrl:∀x ∈ r,cf x:=fun x hx=>hl x (h2.mem_iff.1 hx)
 have hst:=Be h3 hdr
 have hlen:=h2.length_eq
 rw [h1,Option.bind_some,zT r (by omega) (by
  intro i a b ha hb e
  subst e
  have hil:=(List.getElem?_eq_some_iff.1 ha).1
  have hjl:=(List.getElem?_eq_some_iff.1 hb).1
  unfold dq at hdr
  exact sw bn r i (i+1) b b hdr (by omega) ha hb rfl),Option.bind_some]
 have:=iI (b:=j0) (fun l=>(⟨1,l⟩:Term)) r fun i x out hx hlo=>by
  have hi:=(List.getElem?_eq_some_iff.1 hx).1
  rw [j0,bR (by simp; omega)]
  rfl
 rw [this,Option.bind_some,← zU r hst hrl,ya (fun x=>h2.mem_iff)]
 rfl
theorem DO {p:List Int} (hp:kH p) {l:Int} (hl:cf l) (k:Nat) (hk:k<12):(tD p l).getD k 0=if bn l=(k:Int)+1 then (if l > 0 then 1 else -1) else p.getD k 0:=by
 obtain ⟨h0,h1,h2⟩:=hl
 unfold tD bn
 by_cases h:l > 0
 ·rw [if_pos h,if_pos h,pV _ _ _ _ (by rw [hp.1]; exact hk)]
  by_cases e:(l - 1).toNat=k
  ·rw [if_pos e,if_pos (by omega)]
  ·rw [if_neg e,if_neg (by omega)]
 ·rw [if_neg h,if_neg h,pV _ _ _ _ (by rw [hp.1]; exact hk)]
  by_cases e:(-l - 1).toNat=k
  ·rw [if_pos e,if_pos (by omega)]
  ·rw [if_neg e,if_neg (by omega)]
theorem DT (p:List Int) {l:Int} (hl:cf l):∃ k:Nat,k<12∧bn l=(k:Int)+1∧(iy p l=p.getD k 0 ∨ iy p l=- p.getD k 0):=by
 obtain ⟨h0,h1,h2⟩:=hl
 unfold iy bn
 by_cases h:l > 0
 ·exact ⟨(l - 1).toNat,by omega,by omega,.inl (by rw [if_pos h])⟩
 ·exact ⟨(-l - 1).toNat,by omega,by omega,.inr (by rw [if_neg h])⟩
theorem C9 {p p':List Int} (hp':kH p') (h:tu p p') {l:Int} (hl:cf l) (h0:iy p l=0):tu p (tD p' l):=by
 intro k hk hn
 rw [DO hp' hl k hk]
 split
 ·rename_i e
  obtain ⟨k',h1,h2,h3⟩:=DT p hl
  have:k'=k:=by omega
  subst this
  exfalso; apply hn; omega
 ·exact h k hk hn
theorem xb {p:List Int}:∀(ls:List Int) {p':List Int},kH p'→tu p p'→(∀l ∈ ls,cf l∧iy p l=0)→tu p (ey p' ls)
 | [],_,_,h,_=>h
 | l :: ls,_,hp',h,hl=>xb ls (mJ hp' l) (C9 hp' h (hl l (by simp)).1 (hl l (by simp)).2) fun x hx=>hl x (by simp [hx])
theorem xc:∀(cs:List Con) (i:Nat) (p:List Int) (m:Bool),kH p→(∀c ∈ cs,bp c=true)→∀p' m',pass cs i p m=.go p' m'→kH p'∧tu p p'
 | [],_,p,m,hp,_,p',m',h=>by
  rw [pass] at h
  injection h with h1 h2
  subst h1
  exact ⟨hp,vH _⟩
 | c :: cs,i,p,m,hp,hc,p',m',h=>by
  rw [pass] at h
  split at h
  ·cases h
  ·have hcc:=hc c (by simp)
   have ho:kH (ey p (lR p (ew c p) c.terms)):=iX _ hp
   obtain ⟨h1,h2⟩:=xc cs (i+1) _ _ ho (fun x hx=>hc x (by simp [hx])) p' m' h
   refine ⟨h1,wF (xb _ hp (vH p) fun l hl=>?_) h2⟩
   obtain ⟨t,_,_,h0,_⟩:=qf hl
   exact ⟨rR hcc l hl,h0⟩
theorem jM:∀(n:Nat) {cs:List Con} (p:List Int),kH p→(∀c ∈ cs,bp c=true)→∀p',prop n cs p=(p',-1)→kH p'∧tu p p'
 | 0,_,p,hp,_,p',h=>by
  rw [prop] at h
  injection h with h
  subst h
  exact ⟨hp,vH _⟩
 | n+1,cs,p,hp,hc,p',h=>by
  rw [prop] at h
  cases hq:pass cs 0 p false with
  | conf q i =>
   rw [hq] at h
   injection h with h1 h2
   omega
  | go q m =>
   rw [hq] at h
   obtain ⟨h1,h2⟩:=xc cs 0 p false hp hc q m hq
   simp only at h
   split at h
   ·obtain ⟨h3,h4⟩:=jM n q h1 hc p' h
    exact ⟨h3,wF h2 h4⟩
   ·injection h with h
    subst h
    exact ⟨h1,h2⟩
def bz:List Int→Nat→Int
 | [],_=>0
 | x :: xs,i=>if x=0 then (i:Int)+1 else bz xs (i+1)
theorem ru:∀(p:List Int) (i:Nat),bz p i=0→∀x ∈ p,x ≠ 0
 | [],_,_=>by simp
 | x :: xs,i,h=>by
  rw [bz] at h
  split at h
  ·omega
  ·intro y hy
   rcases List.mem_cons.1 hy with rfl | hy
   ·assumption
   ·exact ru xs (i+1) h y hy
theorem s8:∀(p:List Int) (i:Nat),bz p i ≠ 0→∃ k:Nat,k<p.length∧bz p i=(i:Int)+k+1∧p.getD k 0=0∧∀j,j<k→p.getD j 0 ≠ 0
 | [],i,h=>by simp [bz] at h
 | x :: xs,i,h=>by
  rw [bz] at h ⊢
  split
  ·rename_i e
   exact ⟨0,by simp,by simp,by simpa using e,by omega⟩
  ·rename_i e
   rw [if_neg e] at h
   obtain ⟨k,h1,h2,h3,h4⟩:=s8 xs (i+1) h
   refine ⟨k+1,by simp; omega,by omega,by simpa using h3,fun j hj=>?_⟩
   cases j with
   | zero=>simpa using e
   | succ j=>simpa using h4 j (by omega)
def mc (p:List Int):List Bool:=p.map fun x=>decide (x > 0)
def kt (d:List Int):List Int:=d.map fun l=>-l
def lr (s:Sst) (d:List Int):Sst:=⟨s.list++[lj (kt d)],s.steps++[⟨7,0,0,lj (kt d)⟩],s.fuel⟩
def cU:Nat→Sst→List Int→Sst × Int × List Bool
 | 0,s,_=>(s,0,[])
 | n+1,s,d =>
  if s.fuel=0 ∨ 1000≤s.steps.length then (s,0,[]) else
  if 0≤(prop 13 s.list (ey dA d)).2 then (lr ⟨s.list,s.steps,s.fuel - 1⟩ d,2,[]) else
  if bz (prop 13 s.list (ey dA d)).1 0=0 then (⟨s.list,s.steps,s.fuel - 1⟩,1,mc (prop 13 s.list (ey dA d)).1) else
  if (cU n ⟨s.list,s.steps,s.fuel - 1⟩ (d++[bz (prop 13 s.list (ey dA d)).1 0])).2.1 ≠ 2 then cU n ⟨s.list,s.steps,s.fuel - 1⟩ (d++[bz (prop 13 s.list (ey dA d)).1 0]) else
  if (cU n (cU n ⟨s.list,s.steps,s.fuel - 1⟩ (d++[bz (prop 13 s.list (ey dA d)).1 0])).1 (d++[-bz (prop 13 s.list (ey dA d)).1 0])).2.1 ≠ 2 then
   cU n (cU n ⟨s.list,s.steps,s.fuel - 1⟩ (d++[bz (prop 13 s.list (ey dA d)).1 0])).1 (d++[-bz (prop 13 s.list (ey dA d)).1 0]) else
  if 1000≤(cU n (cU n ⟨s.list,s.steps,s.fuel - 1⟩ (d++[bz (prop 13 s.list (ey dA d)).1 0])).1 (d++[-bz (prop 13 s.list (ey dA d)).1 0])).1.steps.length then
   ((cU n (cU n ⟨s.list,s.steps,s.fuel - 1⟩ (d++[bz (prop 13 s.list (ey dA d)).1 0])).1 (d++[-bz (prop 13 s.list (ey dA d)).1 0])).1,0,[]) else
   (lr (cU n (cU n ⟨s.list,s.steps,s.fuel - 1⟩ (d++[bz (prop 13 s.list (ey dA d)).1 0])).1 (d++[-bz (prop 13 s.list (ey dA d)).1 0])).1 d,2,[])
inductive Srs (n:Nat) (s:Sst) (d:List Int):Sst × Int × List Bool→Prop
 | dry (h:s.fuel=0 ∨ 1000≤s.steps.length):Srs n s d (s,0,[])
 | conf (h1:s.fuel ≠ 0) (h2:s.steps.length<1000) (h:0≤(prop 13 s.list (ey dA d)).2):Srs n s d (lr ⟨s.list,s.steps,s.fuel - 1⟩ d,2,[])
 | leaf (h1:s.fuel ≠ 0) (h2:s.steps.length<1000) (p:List Int) (h:prop 13 s.list (ey dA d)=(p,-1)) (hf:bz p 0=0):Srs n s d (⟨s.list,s.steps,s.fuel - 1⟩,1,mc p)
 | one (h1:s.fuel ≠ 0) (h2:s.steps.length<1000) (p:List Int) (h:prop 13 s.list (ey dA d)=(p,-1)) (hf:bz p 0 ≠ 0) (r:Sst × Int × List Bool) (hr:cU n ⟨s.list,s.steps,s.fuel - 1⟩ (d++[bz p 0])=r) (h3:r.2.1 ≠ 2):Srs n s d r
 | two (h1:s.fuel ≠ 0) (h2:s.steps.length<1000) (p:List Int) (h:prop 13 s.list (ey dA d)=(p,-1)) (hf:bz p 0 ≠ 0) (r:Sst × Int × List Bool) (hr:cU n ⟨s.list,s.steps,s.fuel - 1⟩ (d++[bz p 0])=r) (h3:r.2.1=2)
   (q:Sst × Int × List Bool) (hq:cU n r.1 (d++[-bz p 0])=q) (h4:q.2.1 ≠ 2):Srs n s d q
 | much (h1:s.fuel ≠ 0) (h2:s.steps.length<1000) (p:List Int) (h:prop 13 s.list (ey dA d)=(p,-1)) (hf:bz p 0 ≠ 0) (r:Sst × Int × List Bool) (hr:cU n ⟨s.list,s.steps,s.fuel - 1⟩ (d++[bz p 0])=r) (h3:r.2.1=2)
   (q:Sst × Int × List Bool) (hq:cU n r.1 (d++[-bz p 0])=q) (h4:q.2.1=2) (h5:1000≤q.1.steps.length):Srs n s d (q.1,0,[])
 | fail (h1:s.fuel ≠ 0) (h2:s.steps.length<1000) (p:List Int) (h:prop 13 s.list (ey dA d)=(p,-1)) (hf:bz p 0 ≠ 0) (r:Sst × Int × List Bool) (hr:cU n ⟨s.list,s.steps,s.fuel - 1⟩ (d++[bz p 0])=r) (h3:r.2.1=2)
   (q:Sst × Int × List Bool) (hq:cU n r.1 (d++[-bz p 0])=q) (h4:q.2.1=2) (h5:q.1.steps.length<1000):Srs n s d (lr q.1 d,2,[])
theorem m5 (n:Nat) (s:Sst) (d:List Int):Srs n s d (cU (n+1) s d):=by
 rw [cU]
 by_cases h1:s.fuel=0 ∨ 1000≤s.steps.length
 ·rw [if_pos h1]; exact .dry h1
 rw [if_neg h1]
 have f1:s.fuel ≠ 0:=fun h=>h1 (.inl h)
 have f2:s.steps.length<1000:=by have:¬ 1000≤s.steps.length:=fun h=>h1 (.inr h); omega
 by_cases h2:0≤(prop 13 s.list (ey dA d)).2
 ·rw [if_pos h2]; exact .conf f1 f2 h2
 rw [if_neg h2]
 obtain ⟨p,hp⟩:∃ p,prop 13 s.list (ey dA d)=(p,-1):=by
  cases hq:prop 13 s.list (ey dA d) with
  | mk p a =>
   rw [hq] at h2
   rcases tY 13 _ _ p a hq with rfl | h
   ·exact ⟨p,rfl⟩
   ·exact absurd h h2
 simp only [hp]
 by_cases h3:bz p 0=0
 ·rw [if_pos h3]; exact .leaf f1 f2 p hp h3
 rw [if_neg h3]
 generalize hr:cU n ⟨s.list,s.steps,s.fuel - 1⟩ (d++[bz p 0])=r
 by_cases h4:r.2.1 ≠ 2
 ·rw [if_pos h4]; exact .one f1 f2 p hp h3 r hr h4
 rw [if_neg h4]
 have h4:r.2.1=2:=Classical.not_not.1 h4
 generalize hq:cU n r.1 (d++[-bz p 0])=q
 by_cases h5:q.2.1 ≠ 2
 ·rw [if_pos h5]; exact .two f1 f2 p hp h3 r hr h4 q hq h5
 rw [if_neg h5]
 have h5:q.2.1=2:=Classical.not_not.1 h5
 by_cases h6:1000≤q.1.steps.length
 ·rw [if_pos h6]; exact .much f1 f2 p hp h3 r hr h4 q hq h5 h6
 ·rw [if_neg h6]; exact .fail f1 f2 p hp h3 r hr h4 q hq h5 (by omega)
structure Dec (d:List Int):Prop where
 lit:∀l ∈ d,cf l
 dis:dq d
 few:d.length+vT (ey dA d)≤12
theorem BL (p:List Int) (d:List Int) (l:Int):ey p (d++[l])=tD (ey p d) l:=by simp [ey]
theorem xz (p:List Int) {l:Int} (h:l ≠ 0):iy p (-l)=- iy p l:=by
 unfold iy
 by_cases h1:l > 0
 ·rw [if_pos h1,if_neg (by omega),Int.neg_neg]
 ·rw [if_neg h1,if_pos (by omega)]; omega
theorem AW {p:List Int} (hp:kH p) {l k:Int} (hl:cf l) (hk:cf k) (h:iy p k ≠ 0 ∨ bn k=bn l):iy (tD p l) k ≠ 0:=by
 rw [xT hp hl hk]
 split
 ·split <;> omega
 ·rename_i e; exact h.resolve_right e
theorem vj:∀(ls:List Int) {p:List Int},kH p→(∀l ∈ ls,cf l)→∀{k:Int},cf k→(iy p k ≠ 0 ∨ bn k ∈ ls.map bn)→iy (ey p ls) k ≠ 0
 | [],_,_,_,k,_,h=>h.resolve_right (by simp)
 | l :: ls,p,hp,hl,k,hk,h=>by
  have hl':=hl l (by simp)
  refine vj ls (mJ hp l) (fun x hx=>hl x (by simp [hx])) hk ?_
  rcases h with h | h
  ·exact .inl (AW hp hl' hk (.inl h))
  ·rw [List.map_cons,List.mem_cons] at h
   rcases h with h | h
   ·exact .inl (AW hp hl' hk (.inr h))
   ·exact .inr h
theorem Dec.nil:Dec []:=⟨by simp,by simp [dq],by decide⟩
theorem Dec.snoc {d:List Int} (h:Dec d) {l:Int} (hl:cf l) (h0:iy (ey dA d) l=0):Dec (d++[l]):=by
 have hok:=iX d eT
 refine ⟨?_,?_,?_⟩
 ·intro x hx
  rcases List.mem_append.1 hx with hx | hx
  ·exact h.lit x hx
  ·rw [List.mem_singleton] at hx; subst hx; exact hl
 ·unfold dq
  rw [List.map_append,List.nodup_append]
  refine ⟨h.dis,by simp,?_⟩
  intro a ha b hb e
  simp at hb
  subst hb e
  exact vj d eT h.lit hl (.inr ha) h0
 ·rw [BL,List.length_append]
  have h1:=(xr hok hl).2 h0
  have:=h.few
  simp only [List.length_cons,List.length_nil]
  omega
theorem Dec.free {d:List Int} (h:Dec d) {list:List Con} (hc:∀c ∈ list,bp c=true) {p:List Int} (hp:prop 13 list (ey dA d)=(p,-1)) (hf:bz p 0 ≠ 0) :
  cf (bz p 0)∧cf (-bz p 0)∧Dec (d++[bz p 0])∧Dec (d++[-bz p 0]):=by
 obtain ⟨hok,hle⟩:=jM 13 _ (iX d eT) hc p hp
 obtain ⟨k,h1,h2,h3,_⟩:=s8 p 0 hf
 rw [hok.1] at h1
 have hl:cf (bz p 0):=⟨hf,by omega,by omega⟩
 have hn:cf (-bz p 0):=⟨by omega,by omega,by omega⟩
 have h0:iy (ey dA d) (bz p 0)=0:=by
  apply Classical.byContradiction
  intro hne
  have:=ue hle hl hne
  have h4:iy p (bz p 0)=0:=by
   unfold iy
   rw [if_pos (by omega),show (bz p 0 - 1).toNat=k by omega,h3]
  omega
 refine ⟨hl,hn,h.snoc hl h0,h.snoc hn (by rw [xz _ hf]; omega)⟩
theorem AR {v:List Bool}:∀(d:List Int),(∀l ∈ d,cf l)→((kt d).any (cO v))=!(d.all (cO v))
 | [],_=>rfl
 | l :: d,h=>by
  have:=AR (v:=v) d fun x hx=>h x (by simp [hx])
  unfold kt at *
  rw [List.map_cons,List.any_cons,this,List.all_cons,qz v (h l (by simp)).1]
  cases cO v l <;> rfl
theorem Au {ls:List Int} (h:pD ls=true) (v:List Bool):∀n:Nat,0≤eH v (q7 ls n)∧(1≤eH v (q7 ls n) ↔ ∃ l ∈ ls,bn l≤(n:Int)∧cO v l=true)
 | 0=>by
  refine ⟨by simp [q7,eH,df],?_⟩
  constructor
  ·intro h1; simp [q7,eH,df] at h1
  ·rintro ⟨l,hl,h1,_⟩
   have:=((fH.1 h) l hl).1.1
   unfold bn at h1; omega
 | n+1=>by
  obtain ⟨h0,h1⟩:=Au h v n
  have hs:∀l ∈ ls,bn l=((n+1:Nat):Int)→seenAt ls ((n+1:Nat):Int)=l:=by
   intro l hl e
   obtain ⟨⟨l0,_,_⟩,hn⟩:=(fH.1 h) l hl
   unfold seenAt
   unfold bn at e
   simp only [List.contains_eq_mem,decide_eq_true_eq]
   by_cases hp:l > 0
   ·have:((n+1:Nat):Int)=l:=by omega
    rw [this,if_pos hl]
   ·have e1:((n+1:Nat):Int)=-l:=by omega
    rw [e1,if_neg hn,Int.neg_neg,if_pos hl]
  have hm:seenAt ls ((n+1:Nat):Int) ≠ 0→seenAt ls ((n+1:Nat):Int) ∈ ls∧bn (seenAt ls ((n+1:Nat):Int))=((n+1:Nat):Int):=by
   unfold seenAt
   simp only [List.contains_eq_mem,decide_eq_true_eq]
   split
   ·rename_i e; intro _; exact ⟨e,by unfold bn; omega⟩
   ·split
    ·rename_i e; intro _; exact ⟨e,by unfold bn; omega⟩
    ·intro h; exact absurd rfl h
  rw [q7]
  by_cases e:seenAt ls ((n+1:Nat):Int) ≠ 0
  ·rw [if_pos e,wU]
   obtain ⟨m1,m2⟩:=hm e
   simp only
   by_cases ht:cO v (seenAt ls ((n+1:Nat):Int))=true
   ·rw [if_pos ht]
    exact ⟨by omega,fun _=>⟨_,m1,by omega,ht⟩,fun _=>by omega⟩
   ·rw [if_neg ht]
    refine ⟨h0,h1.trans ⟨?_,?_⟩⟩
    ·rintro ⟨l,a1,a2,a3⟩; exact ⟨l,a1,by omega,a3⟩
    ·rintro ⟨l,a1,a2,a3⟩
     refine ⟨l,a1,?_,a3⟩
     by_cases ee:bn l=((n+1:Nat):Int)
     ·rw [hs l a1 ee] at ht; exact absurd a3 ht
     ·omega
  ·rw [if_neg e,List.append_nil]
   refine ⟨h0,h1.trans ⟨?_,?_⟩⟩
   ·rintro ⟨l,a1,a2,a3⟩; exact ⟨l,a1,by omega,a3⟩
   ·rintro ⟨l,a1,a2,a3⟩
    refine ⟨l,a1,?_,a3⟩
    by_cases ee:bn l=((n+1:Nat):Int)
    ·rw [hs l a1 ee] at e
     have:=((fH.1 h) l a1).1.1
     omega
    ·omega
theorem vx {ls:List Int} (h:pD ls=true) (v:List Bool):fJ (lj ls) v=ls.any (cO v):=by
 unfold fJ lj
 rw [Bool.eq_iff_iff,decide_eq_true_eq,List.any_eq_true]
 refine ((Au h v 12).2).trans ⟨?_,?_⟩
 ·rintro ⟨l,a1,a2,a3⟩; exact ⟨l,a1,a3⟩
 ·rintro ⟨l,a1,a3⟩
  refine ⟨l,a1,?_,a3⟩
  obtain ⟨_,h1,h2⟩:=((fH.1 h) l a1).1
  unfold bn; omega
theorem yM {d:List Int} (h:∀l ∈ d,cf l):∀l ∈ kt d,cf l:=by
 intro l hl
 obtain ⟨x,hx,rfl⟩:=List.mem_map.1 hl
 obtain ⟨h0,h1,h2⟩:=h x hx
 exact ⟨by omega,by omega,by omega⟩
theorem ye {d:List Int} (h:dq d):dq (kt d):=by
 unfold dq kt at *
 rw [List.map_map]
 have:(bn ∘ fun l=>-l)=bn:=by funext l; exact pS l
 rw [this]; exact h
theorem nJ {t:Term} (ht:mY t=true) {n:Int} (hn:n<bn t.lit):∀(xs:List Term) (b:Int),b6 b xs=true→(∀x ∈ xs,bn x.lit≤n)→b≤n→b6 b (xs++[t])=true
 | [],b,_,_,hb=>by
  show (mY t && decide (b<bn t.lit)) && true=true
  rw [ht,decide_eq_true (by omega)]; rfl
 | x :: xs,b,h,hx,hb=>by
  rw [b6,Bool.and_eq_true,Bool.and_eq_true] at h
  show ((mY x && decide (b<bn x.lit)) && b6 (bn x.lit) (xs++[t]))=true
  rw [h.1.1,h.1.2,nJ ht hn xs _ h.2 (fun y hy=>hx y (by simp [hy])) (hx x (by simp))]; rfl
theorem Dc {ls:List Int} (h:pD ls=true):∀n:Nat,n≤12→b6 0 (q7 ls n)=true∧∀t ∈ q7 ls n,bn t.lit≤(n:Int)
 | 0,_=>⟨rfl,by simp [q7]⟩
 | n+1,hn=>by
  obtain ⟨h1,h2⟩:=Dc h n (by omega)
  rw [q7]
  by_cases e:seenAt ls ((n+1:Nat):Int) ≠ 0
  ·rw [if_pos e]
   have e2:bn (seenAt ls ((n+1:Nat):Int))=((n+1:Nat):Int):=by
    revert e
    unfold seenAt
    split
    ·intro _; unfold bn; omega
    ·split
     ·intro _; unfold bn; omega
     ·intro h; exact absurd rfl h
   have e3:mY ⟨1,seenAt ls ((n+1:Nat):Int)⟩=true:=by
    revert e e2
    generalize seenAt ls ((n+1:Nat):Int)=a
    intro e e2
    unfold bn at e2
    unfold mY
    simp
    omega
   refine ⟨nJ e3 (n:=(n:Int)) (by simp only [e2]; omega) _ 0 h1 h2 (by omega),?_⟩
   intro t ht
   rcases List.mem_append.1 ht with ht | ht
   ·have:=h2 t ht; omega
   ·rw [List.mem_singleton] at ht; subst ht; simp only [e2]; omega
  ·rw [if_neg e,List.append_nil]
   exact ⟨h1,fun t ht=>by have:=h2 t ht; omega⟩
theorem qi {ls:List Int} (h:pD ls=true):bp (lj ls)=true:=by
 unfold bp lj
 simp only [(Dc h 12 (by omega)).1]
 rfl
structure Sok (s:Sst):Prop where
 ok:∀c ∈ s.list,bp c=true
 len:s.list.length≤400+s.steps.length
 few:s.steps.length≤1000
 fuel0:0≤s.fuel
 fuel1:s.fuel≤2000
theorem na {d:List Int} (h:Dec d):pD (kt d)=true:=jq (yM h.lit) (ye h.dis)
theorem Sok.Ep {s:Sst} (h:Sok s) (hs:s.steps.length<1000) {d:List Int} (hd:Dec d):Sok (lr s d):=by
 refine ⟨?_,?_,?_,h.fuel0,h.fuel1⟩
 ·intro c hc
  rcases List.mem_append.1 hc with hc | hc
  ·exact h.ok c hc
  ·rw [List.mem_singleton] at hc; subst hc; exact qi (na hd)
 ·have:=h.len
  simp [lr]; omega
 ·simp [lr]; omega
theorem Sok.less {s:Sst} (h:Sok s) (hf:s.fuel ≠ 0):Sok ⟨s.list,s.steps,s.fuel - 1⟩:=by
 have:=h.fuel0
 have:=h.fuel1
 exact ⟨h.ok,h.len,h.few,by show (0:Int)≤s.fuel - 1; omega,by show s.fuel - 1≤2000; omega⟩
theorem dD:∀(n:Nat) (s:Sst) (d:List Int),Sok s→Dec d→Sok (cU n s d).1∧s.steps.length≤(cU n s d).1.steps.length∧((cU n s d).2.1=0 ∨ (cU n s d).2.1=1 ∨ (cU n s d).2.1=2)∧((cU n s d).2.1 ≠ 1→(cU n s d).2.2=[])∧∃ t,(cU n s d).1.list=s.list++t
 | 0,s,d,hs,hd=>⟨hs,Nat.le_refl _,.inl rfl,fun _=>rfl,[],(List.append_nil _).symm⟩
 | n+1,s,d,hs,hd=>by
  have hcase:=m5 n s d
  generalize cU (n+1) s d=R at hcase ⊢
  cases hcase with
  | dry h=>exact ⟨hs,Nat.le_refl _,.inl rfl,fun _=>rfl,[],(List.append_nil _).symm⟩
  | conf h1 h2 h=>exact ⟨(hs.less h1).Ep h2 hd,by simp [lr],.inr (.inr rfl),fun _=>rfl,_,rfl⟩
  | leaf h1 h2 p h hf=>exact ⟨hs.less h1,Nat.le_refl _,.inr (.inl rfl),fun h=>absurd rfl h,[],(List.append_nil _).symm⟩
  | one h1 h2 p h hf r hr h3 =>
   obtain ⟨f1,f2,d1,d2⟩:=hd.free hs.ok h hf
   obtain ⟨a1,a2,a3,a4,a5⟩:=dD n _ _ (hs.less h1) d1
   rw [hr] at a1 a2 a3 a4 a5
   exact ⟨a1,a2,a3,a4,a5⟩
  | two h1 h2 p h hf r hr h3 q hq h4 =>
   obtain ⟨f1,f2,d1,d2⟩:=hd.free hs.ok h hf
   obtain ⟨a1,a2,a3,a4,t,a5⟩:=dD n _ _ (hs.less h1) d1
   rw [hr] at a1 a2 a3 a4 a5
   obtain ⟨b1,b2,b3,b4,u,b5⟩:=dD n _ _ a1 d2
   rw [hq] at b1 b2 b3 b4 b5
   exact ⟨b1,Nat.le_trans a2 b2,b3,b4,t++u,by rw [b5,a5,List.append_assoc]⟩
  | much h1 h2 p h hf r hr h3 q hq h4 h5 =>
   obtain ⟨f1,f2,d1,d2⟩:=hd.free hs.ok h hf
   obtain ⟨a1,a2,a3,a4,t,a5⟩:=dD n _ _ (hs.less h1) d1
   rw [hr] at a1 a2 a3 a4 a5
   obtain ⟨b1,b2,b3,b4,u,b5⟩:=dD n _ _ a1 d2
   rw [hq] at b1 b2 b3 b4 b5
   exact ⟨b1,Nat.le_trans a2 b2,.inl rfl,fun _=>rfl,t++u,by show q.1.list=_; rw [b5,a5,List.append_assoc]⟩
  | fail h1 h2 p h hf r hr h3 q hq h4 h5 =>
   obtain ⟨f1,f2,d1,d2⟩:=hd.free hs.ok h hf
   obtain ⟨a1,a2,a3,a4,t,a5⟩:=dD n _ _ (hs.less h1) d1
   rw [hr] at a1 a2 a3 a4 a5
   obtain ⟨b1,b2,b3,b4,u,b5⟩:=dD n _ _ a1 d2
   rw [hq] at b1 b2 b3 b4 b5
   refine ⟨b1.Ep h5 hd,?_,.inr (.inr rfl),fun _=>rfl,t++(u++[lj (kt d)]),?_⟩
   ·have:=Nat.le_trans a2 b2
    simp [lr] at *; omega
   ·show q.1.list++_=_
    rw [b5,a5,List.append_assoc,List.append_assoc]
def ext (v:List Bool) (d:List Int):Prop:=∀l ∈ d,cO v l=true
theorem lM {v:List Bool} {d:List Int} {l:Int}:ext v (d++[l]) ↔ ext v d∧cO v l=true:=by
 unfold ext
 constructor
 ·intro h; exact ⟨fun x hx=>h x (by simp [hx]),h l (by simp)⟩
 ·rintro ⟨h1,h2⟩ x hx
  rcases List.mem_append.1 hx with hx | hx
  ·exact h1 x hx
  ·rw [List.mem_singleton] at hx; subst hx; exact h2
theorem EN {v:List Bool} (hv:v.length=12) {d:List Int} (hd:∀l ∈ d,cf l) (he:ext v d):tu (ey dA d) (zv v):=
 r7 d eT (za _) fun l hl=>⟨hd l hl,by rw [tP hv (hd l hl),if_pos (he l hl)]⟩
theorem Am {v:List Bool} (hv:v.length=12) {list:List Con} (hc:∀c ∈ list,bp c=true) (ha:gq list v=true):∀c ∈ list,bp c=true∧l6 (zv v) c:=by
 intro c h
 unfold gq at ha
 rw [List.all_eq_true] at ha
 exact ⟨hc c h,(vt hv (hc c h)).2 (ha c h)⟩
theorem sn {v:List Bool} (hv:v.length=12) {list:List Con} (hc:∀c ∈ list,bp c=true) (ha:gq list v=true) {d:List Int} (hd:∀l ∈ d,cf l) (he:ext v d) :
  ∃ p,prop 13 list (ey dA d)=(p,-1)∧kH p∧tu p (zv v):=
 pY (EL hv) (Am hv hc ha) 13 _ (iX d eT) (EN hv hd he)
theorem tv {v:List Bool} {d:List Int} (hd:Dec d):fJ (lj (kt d)) v=true ↔ ¬ ext v d:=by
 rw [vx (na hd),AR d hd.lit,Bool.not_eq_true',← Bool.not_eq_true,List.all_eq_true]
 rfl
theorem wJ (list:List Con) (c:Con) (v:List Bool):gq (list++[c]) v=(gq list v && fJ c v):=by
 unfold gq; rw [List.all_append]; simp
def B5 (a b:List Bool):Prop:=a=b ∨ ∃ k,k<12∧(∀j,j<k→a.getD j false=b.getD j false)∧a.getD k false=true∧b.getD k false=false
theorem iA {α:Type} {xs:List α} {k:Nat} (z:α) (h:k<xs.length):xs.getD k z=xs[k]:=by
 rw [List.getD_eq_getElem?_getD,List.getElem?_eq_getElem h]; rfl
theorem DJ {p:List Int} (hp:kH p) (hf:bz p 0=0) {v:List Bool} (hv:v.length=12) (h:tu p (zv v)):v=mc p:=by
 have hz:=ru p 0 hf
 apply List.ext_getElem (by simp [mc,hp.1,hv])
 intro k h1 h2
 have hk:k<12:=by omega
 have hkp:k<p.length:=by rw [hp.1]; exact hk
 have hne:p.getD k 0 ≠ 0:=by
  have:=hz p[k] (List.getElem_mem hkp)
  rw [iA _ hkp]; exact this
 have h3:=h k hk hne
 rw [sr v k h1] at h3
 rw [iA _ h1,iA _ hkp] at h3
 simp only [mc,List.getElem_map]
 cases hb:v[k] with
 | true=>rw [hb] at h3; rw [← h3]; rfl
 | false=>rw [hb] at h3; rw [← h3]; rfl
theorem yI {p:List Int} (hp:kH p) (hf:bz p 0=0):zv (mc p)=p:=by
 have hz:=ru p 0 hf
 unfold zv mc
 rw [List.map_map]
 apply List.ext_getElem (by simp)
 intro k h1 h2
 rw [List.getElem_map]
 have a:=hz p[k] (List.getElem_mem h2)
 have b:=hp.2 p[k] (List.getElem_mem h2)
 simp only [Function.comp]
 by_cases h:p[k] > 0
 ·simp only [h,decide_true,if_true]; omega
 ·simp only [h,decide_false]; simp; omega
theorem yX:∀(d:List Int) {p:List Int},kH p→(∀l ∈ d,cf l)→dq d→∀l ∈ d,iy (ey p d) l=1
 | [],_,_,_,_=>by simp
 | x :: d,p,hp,hl,hd=>by
  intro l h
  have hx:=hl x (by simp)
  have hl':∀l ∈ d,cf l:=fun y hy=>hl y (by simp [hy])
  unfold dq at hd
  rw [List.map_cons,List.nodup_cons] at hd
  rcases List.mem_cons.1 h with rfl | h
  ·show iy (ey (tD p l) d) l=1
   have h0:iy (tD p l) l=1:=by rw [xT hp hx hx,if_pos rfl,if_pos rfl]
   have keep:∀(d:List Int) {p:List Int},kH p→(∀l ∈ d,cf l)→bn l ∉ d.map bn→iy (ey p d) l=iy p l:=by
    intro d
    induction d with
    | nil=>intro p _ _ _; rfl
    | cons y d ih =>
     intro p hp hl hn
     rw [List.map_cons,List.mem_cons,not_or] at hn
     show iy (ey (tD p y) d) l=_
     rw [ih (mJ hp y) (fun z hz=>hl z (by simp [hz])) hn.2,xT hp (hl y (by simp)) hx,if_neg hn.1]
   rw [keep d (mJ hp l) hl' hd.1,h0]
  ·exact yX d (mJ hp x) hl' hd.2 l h
theorem Dec.pos {d:List Int} (hd:Dec d) {l:Int} (h:l ∈ d):iy (ey dA d) l=1:=yX d eT hd.lit hd.dis l h
theorem DI {v w:List Bool} {k:Nat} (hv:k<v.length) (hw:k<w.length) (h:(zv v).getD k 0=(zv w).getD k 0):v.getD k false=w.getD k false:=by
 rw [sr v k hv,sr w k hw] at h
 revert h
 cases v.getD k false <;> cases w.getD k false <;> simp
theorem Cb {list:List Con} (hc:∀c ∈ list,bp c=true) {d:List Int} (hd:Dec d) {p:List Int} (hp:prop 13 list (ey dA d)=(p,-1)) (hf:bz p 0 ≠ 0)
  {v:List Bool} (hv:v.length=12) (ha:gq list v=true) (he:ext v d) (ht:cO v (-bz p 0)=true)
  {w:List Bool} (hw:w.length=12) (hb:gq list w=true) (hg:ext w (d++[bz p 0])) :
  ∃ k,k<12∧(∀j,j<k→w.getD j false=v.getD j false)∧w.getD k false=true∧v.getD k false=false:=by
 obtain ⟨hok,_⟩:=jM 13 _ (iX d eT) hc p hp
 obtain ⟨k,h1,h2,h3,h4⟩:=s8 p 0 hf
 rw [hok.1] at h1
 obtain ⟨hg1,hg2⟩:=lM.1 hg
 obtain ⟨p',a1,a2,a3⟩:=sn hv hc ha hd.lit he
 obtain ⟨p'',b1,b2,b3⟩:=sn hw hc hb hd.lit hg1
 rw [hp] at a1 b1
 injection a1 with a1 _
 injection b1 with b1 _
 subst a1 b1
 refine ⟨k,h1,fun j hj=>?_,?_,?_⟩
 ·exact DI (by omega) (by omega) (by rw [a3 j (by omega) (h4 j hj),b3 j (by omega) (h4 j hj)])
 ·unfold cO at hg2
  rw [if_pos (by omega),show (bz p 0 - 1).toNat=k by omega] at hg2
  exact hg2
 ·unfold cO at ht
  rw [if_neg (by omega),show (- -bz p 0 - 1).toNat=k by omega] at ht
  simpa using ht
structure Ans (s:Sst) (d:List Int) (r:Sst × Int × List Bool):Prop where
 cons:∀v:List Bool,v.length=12→gq s.list v=true→gq r.1.list v=true
 none:r.2.1=2→∀v:List Bool,v.length=12→gq s.list v=true→¬ ext v d
 sat:r.2.1=1→r.2.2.length=12∧gq s.list r.2.2=true∧ext r.2.2 d
 first:r.2.1=1→∀v:List Bool,v.length=12→gq s.list v=true→ext v d→B5 r.2.2 v
theorem CK {a b:List Con} {v:List Bool} (h:gq (a++b) v=true):gq a v=true:=by
 unfold gq at *; rw [List.all_append,Bool.and_eq_true] at h; exact h.1
theorem Ac {v:List Bool} {l:Int} (h:l ≠ 0):cO v l=true ∨ cO v (-l)=true:=by
 rw [qz v h]; cases cO v l <;> simp
theorem kV:∀(n:Nat) (s:Sst) (d:List Int),Sok s→Dec d→Ans s d (cU n s d)
 | 0,s,d,hs,hd=>⟨fun v _ h=>h,fun h=>by simp [cU] at h,fun h=>by simp [cU] at h,fun h=>by simp [cU] at h⟩
 | n+1,s,d,hs,hd=>by
  have hcase:=m5 n s d
  generalize cU (n+1) s d=R at hcase ⊢
  cases hcase with
  | dry h=>exact ⟨fun v _ h=>h,fun h=>by simp at h,fun h=>by simp at h,fun h=>by simp at h⟩
  | conf h1 h2 h =>
   have no:∀v:List Bool,v.length=12→gq s.list v=true→¬ ext v d:=by
    intro v hv ha he
    obtain ⟨p,hp,_⟩:=sn hv hs.ok ha hd.lit he
    rw [hp] at h
    exact absurd h (by simp)
   refine ⟨fun v hv ha=>?_,fun _=>no,fun h=>by simp at h,fun h=>by simp at h⟩
   show gq (s.list++[_]) v=true
   rw [wJ,ha,(tv hd).2 (no v hv ha)]; rfl
  | leaf h1 h2 p h hf =>
   obtain ⟨hok,hcl⟩:=uu hs.ok 13 _ (iX d eT) (by have:=zR (iX d eT); omega) p h
   have hle:=(jM 13 _ (iX d eT) hs.ok p h).2
   have hlen:(mc p).length=12:=by simp [mc,hok.1]
   refine ⟨fun v _ h=>h,fun h=>by simp at h,fun _=>⟨hlen,?_,?_⟩,fun _ v hv ha he=>?_⟩
   ·unfold gq
    rw [List.all_eq_true]
    intro c hc
    rw [← vt hlen (hs.ok c hc),yI hok hf]
    exact hcl c hc
   ·intro l hl
    have hl12:=hd.lit l hl
    show cO (mc p) l=true
    have hne:iy (ey dA d) l ≠ 0:=vj d eT hd.lit hl12 (.inr (List.mem_map_of_mem hl))
    have h3:=ue hle hl12 hne
    have h4:=tP hlen hl12
    rw [yI hok hf,h3] at h4
    have h5:iy (ey dA d) l=1:=Dec.pos hd hl
    rw [h5] at h4
    cases ht:cO (mc p) l with
    | true=>rfl
    | false=>rw [ht] at h4; simp at h4
   ·left
    show mc p=v
    obtain ⟨p',e1,e2,e3⟩:=sn hv hs.ok ha hd.lit he
    rw [h] at e1
    injection e1 with e1 _
    subst e1
    exact (DJ hok hf hv e3).symm
  | one h1 h2 p h hf r hr h3 =>
   obtain ⟨f1,f2,d1,d2⟩:=hd.free hs.ok h hf
   have A:=kV n _ _ (hs.less h1) d1
   have O:=dD n _ _ (hs.less h1) d1
   rw [hr] at A O
   refine ⟨A.cons,fun h=>absurd h h3,fun h=>?_,fun h=>?_⟩
   ·obtain ⟨a,b,c⟩:=A.sat h; exact ⟨a,b,(lM.1 c).1⟩
   ·intro v hv ha he
    rcases Ac (v:=v) hf with ht | ht
    ·exact A.first h v hv ha (lM.2 ⟨he,ht⟩)
    ·right
     obtain ⟨a,b,c⟩:=A.sat h
     exact Cb hs.ok hd ‹_› hf hv ha he ht a b c
  | two h1 h2 p h hf r hr h3 q hq h4 =>
   obtain ⟨f1,f2,d1,d2⟩:=hd.free hs.ok h hf
   have A:=kV n _ _ (hs.less h1) d1
   have O:=dD n _ _ (hs.less h1) d1
   rw [hr] at A O
   have B:=kV n _ _ O.1 d2
   have P:=dD n _ _ O.1 d2
   rw [hq] at B P
   obtain ⟨_,_,_,_,t,ht⟩:=O
   refine ⟨fun v hv ha=>B.cons v hv (A.cons v hv ha),fun h=>absurd h h4,fun h=>?_,fun h v hv ha he=>?_⟩
   ·obtain ⟨a,b,c⟩:=B.sat h
    rw [ht] at b
    exact ⟨a,CK b,(lM.1 c).1⟩
   ·rcases Ac (v:=v) hf with hl | hl
    ·exact absurd (lM.2 ⟨he,hl⟩) (A.none h3 v hv ha)
    ·exact B.first h v hv (A.cons v hv ha) (lM.2 ⟨he,hl⟩)
  | much h1 h2 p h hf r hr h3 q hq h4 h5 =>
   obtain ⟨f1,f2,d1,d2⟩:=hd.free hs.ok h hf
   have A:=kV n _ _ (hs.less h1) d1
   have O:=dD n _ _ (hs.less h1) d1
   rw [hr] at A O
   have B:=kV n _ _ O.1 d2
   rw [hq] at B
   exact ⟨fun v hv ha=>B.cons v hv (A.cons v hv ha),fun h=>by simp at h,fun h=>by simp at h,fun h=>by simp at h⟩
  | fail h1 h2 p h hf r hr h3 q hq h4 h5 =>
   obtain ⟨f1,f2,d1,d2⟩:=hd.free hs.ok h hf
   have A:=kV n _ _ (hs.less h1) d1
   have O:=dD n _ _ (hs.less h1) d1
   rw [hr] at A O
   have B:=kV n _ _ O.1 d2
   rw [hq] at B
   have no:∀v:List Bool,v.length=12→gq s.list v=true→¬ ext v d:=by
    intro v hv ha he
    rcases Ac (v:=v) hf with hl | hl
    ·exact A.none h3 v hv ha (lM.2 ⟨he,hl⟩)
    ·exact B.none h4 v hv (A.cons v hv ha) (lM.2 ⟨he,hl⟩)
   refine ⟨fun v hv ha=>?_,fun _=>no,fun h=>by simp at h,fun h=>by simp at h⟩
   show gq (q.1.list++[_]) v=true
   rw [wJ,B.cons v hv (A.cons v hv ha),(tv hd).2 (no v hv ha)]; rfl
theorem yh {τ:Type} {b:Nat→Int→List Int→Option (Lo (List Int) τ)} (hb:∀i l p,kH p→cf l→b i l p=some (.cont (tD p l))) :
  ∀(ls:List Int) (i:Nat) (p:List Int),kH p→(∀l ∈ ls,cf l)→aw b ls i p=some (.nx (ey p ls))
 | [],i,p,_,_=>by simp [aw,ey]
 | l :: ls,i,p,hp,hl=>by
  show (b i l p).bind _=_
  rw [hb i l p hp (hl l (by simp))]
  show aw b ls (i+1) (tD p l)=_
  rw [yh hb ls (i+1) _ (mJ hp l) fun x hx=>hl x (by simp [hx])]
  rfl
theorem wQ (d:List Int) (h:∀l ∈ d,cf l):aw fk d 0 dA=some (.nx (ey dA d)):=
 yh (fun i l p hp hl=>by
  obtain ⟨h0,h1,h2⟩:=hl
  rw [fk]
  unfold dW
  rw [aR (n:=-l) (by omega) (by omega),Option.bind_some,aR (n:=max l (-l) - 1) (by omega) (by omega),wO hp (by omega) (by omega),Option.bind_some]
  unfold tD
  by_cases hp':l > 0
  ·rw [if_pos hp',if_neg (by simp; omega),show (max l (-l) - 1)=l - 1 by omega]; rfl
  ·have hs:kH (p.set (Int.toNat (max l (-l) - 1)) 1):=⟨by rw [List.length_set]; exact hp.1,fun x hx=>by
    rcases List.mem_or_eq_of_mem_set hx with h | h
    ·exact hp.2 x h
    ·subst h; omega⟩
   rw [if_neg hp',if_pos (decide_eq_true (by omega)),aR (n:=-l - 1) (by omega) (by omega),wO hs (by omega) (by omega),Option.bind_some,show (max l (-l) - 1)=-l - 1 by omega,List.set_set]; rfl) d 0 dA eT h
theorem yw:∀(p:List Int) (i:Nat) (out:List Bool),i+p.length≤1000→out.length=i→aw gW p i out=some (if bz p i=0 then .nx (out++mc p) else .out ([],bz p i,false))
 | [],i,out,_,_=>by simp [aw,bz,mc]
 | x :: p,i,out,h,ho=>by
  show (gW i x out).bind _=_
  rw [gW,bz]
  simp only [List.length_cons] at h
  by_cases e:x=0
  ·subst e
   rw [if_pos rfl,if_pos (show ((0:Int) == 0)=true from rfl),if_neg (by omega),aR (by omega) (by omega)]; rfl
  ·rw [if_neg (by simpa using e),if_neg e,bR (by simp; omega),Option.bind_some]
   show aw gW p (i+1) (out++[decide (x > 0)])=_
   rw [yw p (i+1) _ (by omega) (by simp [ho])]
   simp [mc]
theorem pM {p:List Int} (hp:kH p):mQ p=some (if bz p 0=0 then (mc p,0,true) else ([],bz p 0,false)):=by
 unfold mQ
 rw [yw p 0 [] (by rw [hp.1]; omega) rfl,Option.bind_some]
 by_cases e:bz p 0=0
 ·rw [if_pos e,if_pos e]; rfl
 ·rw [if_neg e,if_neg e]
theorem C8 {τ:Type} {b:Nat→Int→List Int→Option (Lo (List Int) τ)} (hb:∀i l out,b i l out=(app out [i64 (-l)]).bind fun x=>some (.cont x)) {d:List Int} (hd:∀l ∈ d,cf l) (h12:d.length≤12):aw b d 0 []=some (.nx (kt d)):=
 iI (fun l=>-l) d fun i x out hx hlo=>by
  have hi:=(List.getElem?_eq_some_iff.1 hx).1
  have hl:=hd x (List.mem_of_getElem? hx)
  rw [hb,bR (by simp; omega),aR (by have:=hl.2.2; omega) (by have:=hl.2.1; omega)]; rfl
theorem Dec.len {d:List Int} (h:Dec d):d.length≤12:=by have:=h.few; omega
theorem Dd (d:List Int):(kt d).length=d.length:=by simp [kt]
theorem AL (ls:List Int):(lj ls).terms.length≤12:=xx ls 12
theorem CT (fu:Nat) (hf:FU≤fu) {s:Srch} (hs:Sok ⟨s.list,s.steps,s.fuel⟩) {d:List Int} (hd:Dec d):im fu s d=some ((lr ⟨s.list,s.steps,s.fuel⟩ d).list,(lr ⟨s.list,s.steps,s.fuel⟩ d).steps):=by
 have h1:=hs.len
 have h2:=hs.few
 simp only at h1 h2
 have h3:=hd.len
 unfold im
 rw [C8 (fun i l out=>by rw [hT]) hd.lit h3,Option.bind_some]
 simp only
 rw [uT fu hf _ (yM hd.lit) (ye hd.dis) (by rw [Dd]; exact h3),Option.bind_some,bR (by simp; omega),Option.bind_some,FJ _ (by have:=AL (kt d); simp only; omega),Option.bind_some,bR (by simp; omega)]
 rfl
theorem Cp {s:Sst} (hs:Sok s):i64 (s.fuel - 1)=s.fuel - 1:=by
 have:=hs.fuel0
 have:=hs.fuel1
 rw [aR (by omega) (by omega)]
def oY (r:Sst × Int × List Bool):List Bool × Bool × List Con × Int × List Step × Bool:=(r.2.2,r.2.1 == 1,r.1.list,r.1.fuel,r.1.steps,r.2.1 == 0)
theorem pP (fu:Nat) (hf:FU≤fu):∀(n:Nat) (s:Sst) (d:List Int),Sok s→Dec d→13≤n+d.length→bb fu n ⟨s.list,s.fuel,s.steps,false⟩ d=some (oY (cU n s d))
 | 0,s,d,hs,hd,hn=>by have:=hd.len; omega
 | n+1,s,d,hs,hd,hn=>by
  have hfl:=Cp hs
  have hlen:=hd.len
  have hp0:=iX d eT
  show fG fu (bb fu n) ⟨s.list,s.fuel,s.steps,false⟩ d=_
  unfold fG
  have hcase:=m5 n s d
  generalize cU (n+1) s d=R at hcase ⊢
  cases hcase with
  | dry h =>
   have:((s.fuel == 0) || decide ((s.steps.length:Int) ≥ 1000))=true:=by
    rcases h with h | h
    ·rw [h]; rfl
    ·rw [decide_eq_true (by omega),Bool.or_true]
   rw [if_pos this]; rfl
  | conf h1 h2 h =>
   rw [if_neg (by simp; omega),rI,Option.bind_some,wQ d hd.lit,Option.bind_some]
   simp only
   rw [rP fu hf hs.ok hp0,Option.bind_some,if_neg (by simp; omega),Option.bind_some,hfl]
   simp only
   rw [CT fu hf (s:=⟨s.list,s.fuel - 1,s.steps,false⟩) (hs.less h1) hd]
   rfl
  | leaf h1 h2 p h hf0 =>
   have hok:=(jM 13 _ hp0 hs.ok p h).1
   rw [if_neg (by simp; omega),rI,Option.bind_some,wQ d hd.lit,Option.bind_some]
   simp only
   rw [rP fu hf hs.ok hp0,Option.bind_some,h,if_pos (by simp),pM hok,Option.bind_some,if_pos hf0,if_pos rfl,hfl]
   rfl
  | one h1 h2 p h hf0 r hr h3 =>
   have hok:=(jM 13 _ hp0 hs.ok p h).1
   obtain ⟨f1,f2,d1,d2⟩:=hd.free hs.ok h hf0
   have ih:=pP fu hf n _ _ (hs.less h1) d1 (by simp; omega)
   have O:=(dD n _ _ (hs.less h1) d1).2.2.1
   rw [hr] at ih O
   rw [if_neg (by simp; omega),rI,Option.bind_some,wQ d hd.lit,Option.bind_some]
   simp only
   rw [rP fu hf hs.ok hp0,Option.bind_some,h,if_pos (by simp),pM hok,Option.bind_some,if_neg hf0,if_neg (by simp),hfl]
   have e1:aS d (bb fu n) 0 (bz p 0) (s.list,s.fuel - 1,s.steps,false)=some (.out (.out (oY R))):=by
    rw [aS,gU d (by omega),Option.bind_some,bR (by simp; omega),Option.bind_some,ih,Option.bind_some,if_pos]
    rcases O with O | O | O
    ·simp [oY,O]
    ·simp [oY,O]
    ·exact absurd O h3
   show ((((aS d (bb fu n) 0 (bz p 0) (s.list,s.fuel - 1,s.steps,false)).bind _).bind _):Option _).bind _=_
   rw [e1]; rfl
  | two h1 h2 p h hf0 r hr h3 q hq h4 =>
   have hok:=(jM 13 _ hp0 hs.ok p h).1
   obtain ⟨f1,f2,d1,d2⟩:=hd.free hs.ok h hf0
   have ih:=pP fu hf n _ _ (hs.less h1) d1 (by simp; omega)
   have O:=(dD n _ _ (hs.less h1) d1).1
   rw [hr] at ih O
   have ih2:=pP fu hf n _ _ O d2 (by simp; omega)
   have O2:=dD n _ _ O d2
   rw [hq] at ih2 O2
   rw [if_neg (by simp; omega),rI,Option.bind_some,wQ d hd.lit,Option.bind_some]
   simp only
   rw [rP fu hf hs.ok hp0,Option.bind_some,h,if_pos (by simp),pM hok,Option.bind_some,if_neg hf0,if_neg (by simp),hfl]
   simp only
   have hng:i64 (-bz p 0)=-bz p 0:=by rw [aR (by have:=f1.2.2; omega) (by have:=f1.2.1; omega)]
   have e1:aS d (bb fu n) 0 (bz p 0) (s.list,s.fuel - 1,s.steps,false)=some (.cont (r.1.list,r.1.fuel,r.1.steps,false)):=by
    rw [aS,gU d (by omega),Option.bind_some,bR (by simp; omega),Option.bind_some,ih,Option.bind_some,if_neg (by simp [oY,h3])]
    simp [oY,h3]
   have e2:aS d (bb fu n) 1 (-bz p 0) (r.1.list,r.1.fuel,r.1.steps,false)=some (.out (.out (oY R))):=by
    rw [aS,gU d (by omega),Option.bind_some,bR (by simp; omega),Option.bind_some,ih2,Option.bind_some,if_pos]
    rcases O2.2.2.1 with O | O | O
    ·simp [oY,O]
    ·simp [oY,O]
    ·exact absurd O h4
   have e3:aw (aS d (bb fu n)) [bz p 0,-bz p 0] 0 (s.list,s.fuel - 1,s.steps,false)=some (.out (.out (oY R))):=by
    show (aS d (bb fu n) 0 (bz p 0) (s.list,s.fuel - 1,s.steps,false)).bind _=_
    rw [e1]
    show (aS d (bb fu n) 1 (-bz p 0) (r.1.list,r.1.fuel,r.1.steps,false)).bind _=_
    rw [e2]; rfl
   rw [hng,e3]; rfl
  | much h1 h2 p h hf0 r hr h3 q hq h4 h5 =>
   have hok:=(jM 13 _ hp0 hs.ok p h).1
   obtain ⟨f1,f2,d1,d2⟩:=hd.free hs.ok h hf0
   have ih:=pP fu hf n _ _ (hs.less h1) d1 (by simp; omega)
   have O:=(dD n _ _ (hs.less h1) d1).1
   rw [hr] at ih O
   have ih2:=pP fu hf n _ _ O d2 (by simp; omega)
   have O2:=dD n _ _ O d2
   rw [hq] at ih2 O2
   rw [if_neg (by simp; omega),rI,Option.bind_some,wQ d hd.lit,Option.bind_some]
   simp only
   rw [rP fu hf hs.ok hp0,Option.bind_some,h,if_pos (by simp),pM hok,Option.bind_some,if_neg hf0,if_neg (by simp),hfl]
   simp only
   have hng:i64 (-bz p 0)=-bz p 0:=by rw [aR (by have:=f1.2.2; omega) (by have:=f1.2.1; omega)]
   have e1:aS d (bb fu n) 0 (bz p 0) (s.list,s.fuel - 1,s.steps,false)=some (.cont (r.1.list,r.1.fuel,r.1.steps,false)):=by
    rw [aS,gU d (by omega),Option.bind_some,bR (by simp; omega),Option.bind_some,ih,Option.bind_some,if_neg (by simp [oY,h3])]
    simp [oY,h3]
   have e2:aS d (bb fu n) 1 (-bz p 0) (r.1.list,r.1.fuel,r.1.steps,false)=some (.cont (q.1.list,q.1.fuel,q.1.steps,false)):=by
    rw [aS,gU d (by omega),Option.bind_some,bR (by simp; omega),Option.bind_some,ih2,Option.bind_some,if_neg (by simp [oY,h4])]
    simp [oY,h4]
   have e3:aw (aS d (bb fu n)) [bz p 0,-bz p 0] 0 (s.list,s.fuel - 1,s.steps,false)=some (.nx (q.1.list,q.1.fuel,q.1.steps,false)):=by
    show (aS d (bb fu n) 0 (bz p 0) (s.list,s.fuel - 1,s.steps,false)).bind _=_
    rw [e1]
    show (aS d (bb fu n) 1 (-bz p 0) (r.1.list,r.1.fuel,r.1.steps,false)).bind _=_
    rw [e2]; rfl
   rw [hng,e3,Option.bind_some]
   simp only
   rw [if_pos (decide_eq_true (by omega))]
   rfl
  | fail h1 h2 p h hf0 r hr h3 q hq h4 h5 =>
   have hok:=(jM 13 _ hp0 hs.ok p h).1
   obtain ⟨f1,f2,d1,d2⟩:=hd.free hs.ok h hf0
   have ih:=pP fu hf n _ _ (hs.less h1) d1 (by simp; omega)
   have O:=(dD n _ _ (hs.less h1) d1).1
   rw [hr] at ih O
   have ih2:=pP fu hf n _ _ O d2 (by simp; omega)
   have O2:=dD n _ _ O d2
   rw [hq] at ih2 O2
   rw [if_neg (by simp; omega),rI,Option.bind_some,wQ d hd.lit,Option.bind_some]
   simp only
   rw [rP fu hf hs.ok hp0,Option.bind_some,h,if_pos (by simp),pM hok,Option.bind_some,if_neg hf0,if_neg (by simp),hfl]
   simp only
   have hng:i64 (-bz p 0)=-bz p 0:=by rw [aR (by have:=f1.2.2; omega) (by have:=f1.2.1; omega)]
   have e1:aS d (bb fu n) 0 (bz p 0) (s.list,s.fuel - 1,s.steps,false)=some (.cont (r.1.list,r.1.fuel,r.1.steps,false)):=by
    rw [aS,gU d (by omega),Option.bind_some,bR (by simp; omega),Option.bind_some,ih,Option.bind_some,if_neg (by simp [oY,h3])]
    simp [oY,h3]
   have e2:aS d (bb fu n) 1 (-bz p 0) (r.1.list,r.1.fuel,r.1.steps,false)=some (.cont (q.1.list,q.1.fuel,q.1.steps,false)):=by
    rw [aS,gU d (by omega),Option.bind_some,bR (by simp; omega),Option.bind_some,ih2,Option.bind_some,if_neg (by simp [oY,h4])]
    simp [oY,h4]
   have e3:aw (aS d (bb fu n)) [bz p 0,-bz p 0] 0 (s.list,s.fuel - 1,s.steps,false)=some (.nx (q.1.list,q.1.fuel,q.1.steps,false)):=by
    show (aS d (bb fu n) 0 (bz p 0) (s.list,s.fuel - 1,s.steps,false)).bind _=_
    rw [e1]
    show (aS d (bb fu n) 1 (-bz p 0) (r.1.list,r.1.fuel,r.1.steps,false)).bind _=_
    rw [e2]; rfl
   rw [hng,e3,Option.bind_some]
   simp only
   rw [if_neg (by simp; omega),Option.bind_some]
   simp only
   rw [CT fu hf (s:=⟨q.1.list,q.1.fuel,q.1.steps,false⟩) O2.1 hd]
   rfl
def stepOf (c:Con):Step:=⟨7,0,0,c⟩
theorem kv:∀(n:Nat) (s:Sst) (d:List Int),∃ t:List Con,(cU n s d).1.list=s.list++t∧(cU n s d).1.steps=s.steps++t.map stepOf∧∀c ∈ t,c.terms.length≤12
 | 0,s,d=>⟨[],(List.append_nil _).symm,(List.append_nil _).symm,by simp⟩
 | n+1,s,d=>by
  have hcase:=m5 n s d
  generalize cU (n+1) s d=R at hcase ⊢
  have join:∀{s r q:Sst} {t u:List Con},(r.list=s.list++t∧r.steps=s.steps++t.map stepOf∧∀c ∈ t,c.terms.length≤12)→(q.list=r.list++u∧q.steps=r.steps++u.map stepOf∧∀c ∈ u,c.terms.length≤12) →
    q.list=s.list++(t++u)∧q.steps=s.steps++(t++u).map stepOf∧∀c ∈ t++u,c.terms.length≤12:=by
   rintro s r q t u ⟨a1,a2,a3⟩ ⟨b1,b2,b3⟩
   refine ⟨by rw [b1,a1,List.append_assoc],by rw [b2,a2,List.map_append,List.append_assoc],fun c hc=>?_⟩
   rcases List.mem_append.1 hc with hc | hc
   ·exact a3 c hc
   ·exact b3 c hc
  have one:∀(s:Sst) (f:Int),(lr ⟨s.list,s.steps,f⟩ d).list=s.list++[lj (kt d)]∧(lr ⟨s.list,s.steps,f⟩ d).steps=s.steps++[lj (kt d)].map stepOf∧∀c ∈ [lj (kt d)],c.terms.length≤12:=fun s f=>⟨rfl,rfl,fun c hc=>by
   rw [List.mem_singleton] at hc; subst hc; exact AL _⟩
  cases hcase with
  | dry h=>exact ⟨[],(List.append_nil _).symm,(List.append_nil _).symm,by simp⟩
  | conf h1 h2 h=>exact ⟨_,one s _⟩
  | leaf h1 h2 p h hf=>exact ⟨[],(List.append_nil _).symm,(List.append_nil _).symm,by simp⟩
  | one h1 h2 p h hf r hr h3 =>
   have A:=kv n ⟨s.list,s.steps,s.fuel - 1⟩ (d++[bz p 0])
   rw [hr] at A
   exact A
  | two h1 h2 p h hf r hr h3 q hq h4 =>
   obtain ⟨t,A⟩:=kv n ⟨s.list,s.steps,s.fuel - 1⟩ (d++[bz p 0])
   rw [hr] at A
   obtain ⟨u,B⟩:=kv n r.1 (d++[-bz p 0])
   rw [hq] at B
   exact ⟨_,join A B⟩
  | much h1 h2 p h hf r hr h3 q hq h4 h5 =>
   obtain ⟨t,A⟩:=kv n ⟨s.list,s.steps,s.fuel - 1⟩ (d++[bz p 0])
   rw [hr] at A
   obtain ⟨u,B⟩:=kv n r.1 (d++[-bz p 0])
   rw [hq] at B
   exact ⟨_,join A B⟩
  | fail h1 h2 p h hf r hr h3 q hq h4 h5 =>
   obtain ⟨t,A⟩:=kv n ⟨s.list,s.steps,s.fuel - 1⟩ (d++[bz p 0])
   rw [hr] at A
   obtain ⟨u,B⟩:=kv n r.1 (d++[-bz p 0])
   rw [hq] at B
   exact ⟨_,join (join A B) (one q.1 _)⟩
def oN (fuel:Int):Bool:=decide (0≤fuel) && decide (fuel≤2000)
def gZ (fu:Nat) (list:List Con) (fuel:Int):Int × List Bool × List Step:=
 if gD list && oN fuel then
  if (cU fu ⟨list,[],fuel⟩ []).2.1=2 then (2,[],(cU fu ⟨list,[],fuel⟩ []).1.steps) else ((cU fu ⟨list,[],fuel⟩ []).2.1,(cU fu ⟨list,[],fuel⟩ []).2.2,[])
 else (3,[],[])
theorem qa {list:List Con} {fuel:Int} (h:gD list=true) (hf:oN fuel=true):Sok ⟨list,[],fuel⟩:=by
 obtain ⟨h1,h2⟩:=mw h
 unfold oN at hf
 rw [Bool.and_eq_true,decide_eq_true_eq,decide_eq_true_eq] at hf
 exact ⟨h1,by simpa using h2,by simp,hf.1,hf.2⟩
theorem DS (fu:Nat) (hf:FU≤fu) (list:List Con) (fuel:Int):jG fu list fuel=some (gZ fu list fuel):=by
 have hF:=hf
 unfold FU at hF
 unfold jG gZ
 rw [wm list,Option.bind_some]
 have hw:sy fuel=some (oN fuel):=rfl
 by_cases hc:(gD list && oN fuel)=true
 ·obtain ⟨h1,h2⟩:=Bool.and_eq_true _ _ ▸ hc
  have hs:=qa h1 h2
  have h3:=(mw h1).2
  rw [if_pos hc,h1,hw,h2]
  simp only [Bool.not_true,Option.bind_some,Bool.false_eq_true,if_false]
  rw [pR _ (by omega),Option.bind_some]
  unfold la
  rw [pP fu hf fu ⟨list,[],fuel⟩ _ hs Dec.nil (by omega),Option.bind_some]
  obtain ⟨O,_,O3,O4,_⟩:=dD fu _ _ hs Dec.nil
  unfold oY
  simp only
  rcases O3 with e | e | e
  ·have:=O4 (by omega)
   simp [e,this]
  ·simp [e]
  ·simp [e]
 ·rw [if_neg hc]
  cases h1:gD list with
  | false=>rfl
  | true =>
   rw [h1] at hc
   rw [hw]
   cases h2:oN fuel with
   | true=>rw [h2] at hc; exact absurd rfl hc
   | false=>rfl
theorem vw {fu:Nat} {list:List Con} {fuel:Int} (h:(gZ fu list fuel).1=1 ∨ (gZ fu list fuel).1=2):gD list=true∧oN fuel=true:=by
 unfold gZ at h
 by_cases hc:(gD list && oN fuel)=true
 ·exact Bool.and_eq_true _ _ ▸ hc
 ·rw [if_neg hc] at h
  omega
theorem BB {fu:Nat} {list:List Con} {fuel:Int} (h:(gZ fu list fuel).1=1):gD list=true∧(gZ fu list fuel).2.1.length=12∧gq list (gZ fu list fuel).2.1=true∧∀v:List Bool,v.length=12→gq list v=true→B5 (gZ fu list fuel).2.1 v:=by
 obtain ⟨h1,h2⟩:=vw (.inl h)
 have hs:=qa h1 h2
 have A:=kV fu _ _ hs Dec.nil
 unfold gZ at h ⊢
 rw [h1,h2] at h ⊢
 simp only [Bool.and_true,if_true] at h ⊢
 by_cases e:(cU fu ⟨list,[],fuel⟩ []).2.1=2
 ·rw [if_pos e] at h
  simp at h
 ·rw [if_neg e] at h ⊢
  simp only at h ⊢
  obtain ⟨a,b,c⟩:=A.sat h
  exact ⟨trivial,a,b,fun v hv ha=>A.first h v hv ha (by simp [ext])⟩
theorem yk {fu:Nat} {list:List Con} {fuel:Int} (h:(gZ fu list fuel).1=2):gD list=true∧∀v:List Bool,v.length=12→gq list v=false:=by
 obtain ⟨h1,h2⟩:=vw (.inr h)
 have hs:=qa h1 h2
 have A:=kV fu _ _ hs Dec.nil
 unfold gZ at h
 rw [h1,h2] at h
 simp only [Bool.and_true,if_true] at h
 by_cases e:(cU fu ⟨list,[],fuel⟩ []).2.1=2
 ·refine ⟨h1,fun v hv=>?_⟩
  cases ha:gq list v with
  | false=>rfl
  | true=>exact absurd (by simp [ext]) (A.none e v hv ha)
 ·rw [if_neg e] at h
  exact absurd h e
theorem xP {ls:List Int}:∀n:Nat,∀t ∈ q7 ls n,t.coef=1∧t.lit ∈ ls∧0<bn t.lit∧bn t.lit≤(n:Int)
 | 0,t,h=>by simp [q7] at h
 | n+1,t,h=>by
  rw [q7] at h
  rcases List.mem_append.1 h with h | h
  ·obtain ⟨a,b,c,d⟩:=xP n t h
   exact ⟨a,b,c,by omega⟩
  ·split at h
   ·rename_i e
    rw [List.mem_singleton] at h
    subst h
    unfold seenAt at e ⊢
    simp only [List.contains_eq_mem,decide_eq_true_eq] at e ⊢
    split
    ·exact ⟨trivial,‹_›,by unfold bn; omega,by unfold bn; omega⟩
    ·rename_i e1
     rw [if_neg e1] at e
     split
     ·exact ⟨trivial,‹_›,by unfold bn; omega,by unfold bn; omega⟩
     ·rename_i e2; rw [if_neg e2] at e; exact absurd rfl e
   ·cases h
theorem Ax {ls:List Int} (h:pD ls=true) {l:Int} (hl:l ∈ ls):∀n:Nat,bn l≤(n:Int)→(⟨1,l⟩:Term) ∈ q7 ls n
 | 0,h0=>by
  have:=((fH.1 h) l hl).1.1
  unfold bn at h0; omega
 | n+1,h0=>by
  rw [q7]
  by_cases e:bn l=((n+1:Nat):Int)
  ·obtain ⟨⟨l0,_,_⟩,hn⟩:=(fH.1 h) l hl
   have es:seenAt ls ((n+1:Nat):Int)=l:=by
    unfold seenAt
    unfold bn at e
    simp only [List.contains_eq_mem,decide_eq_true_eq]
    by_cases hp:l > 0
    ·have:((n+1:Nat):Int)=l:=by omega
     rw [this,if_pos hl]
    ·have e1:((n+1:Nat):Int)=-l:=by omega
     rw [e1,if_neg hn,Int.neg_neg,if_pos hl]
   rw [es,if_pos l0]
   exact List.mem_append.2 (.inr (by simp))
  ·exact List.mem_append.2 (.inl (Ax h hl n (by omega)))
theorem AJ {ls:List Int} (x:Int):∀n:Nat,df (fun t=>if t.lit=x then t.coef else 0) (q7 ls n)≤if bn x≤(n:Int) then 1 else 0
 | 0=>by
  rw [q7]
  show (0:Int)≤_
  split <;> omega
 | n+1=>by
  have ih:=AJ (ls:=ls) x n
  rw [q7]
  by_cases e:seenAt ls ((n+1:Nat):Int) ≠ 0
  ·rw [if_pos e,qv]
   have ha:bn (seenAt ls ((n+1:Nat):Int))=((n+1:Nat):Int):=by
    revert e
    unfold seenAt
    split
    ·intro _; unfold bn; omega
    ·split
     ·intro _; unfold bn; omega
     ·intro h; exact absurd rfl h
   simp only
   by_cases ex:seenAt ls ((n+1:Nat):Int)=x
   ·rw [if_pos ex]
    rw [ex] at ha
    rw [if_neg (by omega)] at ih
    rw [if_pos (by omega)]; omega
   ·rw [if_neg ex,Int.add_zero]
    refine Int.le_trans ih ?_
    split <;> split <;> omega
  ·rw [if_neg e,List.append_nil]
   refine Int.le_trans ih ?_
   split <;> split <;> omega
theorem zk {ls:List Int} (h:pD ls=true) {l:Int} (hl:l ∈ ls):(⟨1,l⟩:Term) ∈ (lj ls).terms:=by
 obtain ⟨_,h1,h2⟩:=((fH.1 h) l hl).1
 exact Ax h hl 12 (by unfold bn; omega)
theorem yv {ls:List Int} (h:pD ls=true) {p:List Int} (hp:kH p) (hc:l6 p (lj ls)) {x:Int} (hx:x ∈ ls) (hf:∀l ∈ ls,l ≠ x→iy p l=-1):iy p x=1:=by
 have hx12:=((fH.1 h) x hx).1
 have hr:=s6 hp hx12.1 hx12.2.1 hx12.2.2
 apply Classical.byContradiction
 intro hne
 have hk:me p (lj ls).terms≤if iy p x=0 then 1 else 0:=by
  rw [mD]
  have h1:df (fun t=>if iy p t.lit ≥ 0 then t.coef else 0) (lj ls).terms≤df (fun t=>if t.lit=x then (if iy p x=0 then t.coef else 0) else 0) (lj ls).terms:=by
   refine oK _ fun t ht=>?_
   obtain ⟨a,b,_,_⟩:=xP 12 t ht
   by_cases e:t.lit=x
   ·rw [e,if_pos rfl]
    split <;> split <;> omega
   ·rw [if_neg e,hf t.lit b e]; simp
  by_cases e0:iy p x=0
  ·simp only [e0,if_true] at h1 ⊢
   have h2:=AJ (ls:=ls) x 12
   have h3:df (fun t=>if t.lit=x then t.coef else 0) (lj ls).terms≤1:=by
    refine Int.le_trans h2 ?_
    split <;> omega
   omega
  ·simp only [e0,if_false,ite_self] at h1 ⊢
   have:df (fun _=>(0:Int)) (lj ls).terms=0:=mz _ fun _ _=>rfl
   omega
 have hs:ew (lj ls) p=-1+me p (lj ls).terms:=rfl
 have h0:=hc.1
 by_cases e0:iy p x=0
 ·have:=vo hc.2 (zk h hx) e0
  simp only at this
  rw [if_pos e0] at hk
  omega
 ·rw [if_neg e0] at hk
  omega
theorem uo {ls:List Int} (h:pD ls=true) {p:List Int} (hp:kH p) (hc:l6 p (nE (lj ls))):∀l ∈ ls,iy p (-l)=1:=by
 intro l hl
 have hl12:=((fH.1 h) l hl).1
 have hn12:cf (-l):=⟨by have:=hl12.1; omega,by have:=hl12.2.2; omega,by have:=hl12.2.1; omega⟩
 have hr:=s6 hp hn12.1 hn12.2.1 hn12.2.2
 have hm:(⟨1,-l⟩:Term) ∈ (nE (lj ls)).terms:=List.mem_map.2 ⟨⟨1,l⟩,zk h hl,rfl⟩
 have hb:(nE (lj ls)).bound=df (fun t=>t.coef) (nE (lj ls)).terms:=by
  have h1:(nE (lj ls)).bound=max 0 (Dn (lj ls) - 1+1):=rfl
  have h2:=(sR (qi h)).1
  have h3:df (fun t=>t.coef) (nE (lj ls)).terms=df (fun t=>t.coef) (lj ls).terms:=by
   show df (fun t=>t.coef) ((lj ls).terms.map fun t=>⟨t.coef,-t.lit⟩)=_
   generalize (lj ls).terms=ts
   induction ts with
   | nil=>rfl
   | cons t ts ih=>simp only [List.map_cons,df,ih]
  rw [h1,h3,← DX]; omega
 have hle:me p (nE (lj ls)).terms+(if iy p (-l) ≥ 0 then 0 else 1)≤df (fun t=>t.coef) (nE (lj ls)).terms:=by
  rw [mD]
  have hall:∀t ∈ (nE (lj ls)).terms,(if iy p t.lit ≥ 0 then t.coef else 0)≤t.coef:=by
   intro t ht
   obtain ⟨u,hu,rfl⟩:=List.mem_map.1 ht
   obtain ⟨a,_⟩:=xP 12 u hu
   simp only [a]
   split <;> omega
  by_cases e:iy p (-l) ≥ 0
  ·rw [if_pos e,Int.add_zero]
   exact oK _ hall
  ·rw [if_neg e]
   exact qk (⟨1,-l⟩:Term) 1 (by simp only; rw [if_neg e]; omega) _ hm hall
 have hs:ew (nE (lj ls)) p=-(nE (lj ls)).bound+me p (nE (lj ls)).terms:=rfl
 have h0:=hc.1
 have h1:iy p (-l) ≥ 0:=by
  apply Classical.byContradiction
  intro hn
  rw [if_neg hn] at hle
  omega
 rw [if_pos h1] at hle
 by_cases e0:iy p (-l)=0
 ·have:=vo hc.2 hm e0
  simp only at this
  omega
 ·omega
theorem wE {list:List Con} {c:Con} (hl:∀x ∈ list,bp x=true) (hc:bp c=true) (h:uP list c=false):∃ p,kH p∧(∀x ∈ list,l6 p x)∧l6 p (nE c):=by
 unfold uP at h
 rw [decide_eq_false_iff_not] at h
 cases hq:prop 13 (list++[nE c]) dA with
 | mk p a =>
  rw [hq] at h
  rcases tY 13 _ _ p a hq with rfl | h1
  ·have hall:∀x ∈ list++[nE c],bp x=true:=AG hl hc
   obtain ⟨h1,h2⟩:=uu hall 13 dA eT (by have:=zR eT; omega) p hq
   exact ⟨p,h1,fun x hx=>h2 x (List.mem_append.2 (.inl hx)),h2 _ (List.mem_append.2 (.inr (by simp)))⟩
  ·exact absurd h1 h
inductive Rups (list:List Con):List Con→Prop
 | nil:Rups list []
 | snoc {t:List Con} {c:Con} (h:Rups list t) (hc:bp c=true) (hr:uP (list++t) c=true):Rups list (t++[c])
theorem B0 {list:List Con} (hl:∀x ∈ list,bp x=true) {d:List Int} (hd:Dec d) (h:0≤(prop 13 list (ey dA d)).2):uP list (lj (kt d))=true:=by
 cases hr:uP list (lj (kt d)) with
 | true=>rfl
 | false =>
  have hok:=na hd
  obtain ⟨p,hp,h1,h2⟩:=wE hl (qi hok) hr
  have hset:=uo hok hp h2
  have hle:tu (ey dA d) p:=r7 d eT (za _) fun l hl'=>⟨hd.lit l hl',by
   have:=hset (-l) (List.mem_map.2 ⟨l,hl',rfl⟩)
   rwa [Int.neg_neg] at this⟩
  obtain ⟨p',e,_⟩:=pY hp (cs:=list) (fun c hc=>⟨hl c hc,h1 c hc⟩) 13 _ (iX d eT) hle
  rw [e] at h
  exact absurd h (by simp)
theorem CI {list:List Con} (hl:∀x ∈ list,bp x=true) {d:List Int} {f:Int} (hd:Dec d) (d1:Dec (d++[f])) (d2:Dec (d++[-f])) (m1:lj (kt (d++[f])) ∈ list) (m2:lj (kt (d++[-f])) ∈ list):uP list (lj (kt d))=true:=by
 cases hr:uP list (lj (kt d)) with
 | true=>rfl
 | false =>
  have hok:=na hd
  obtain ⟨p,hp,h1,h2⟩:=wE hl (qi hok) hr
  have hset:=uo hok hp h2
  have hun:∀{g:Int},Dec (d++[g])→lj (kt (d++[g])) ∈ list→iy p (-g)=1:=by
   intro g dg mg
   have hx:-g ∈ kt (d++[g]):=List.mem_map.2 ⟨g,by simp,rfl⟩
   refine yv (na dg) hp (h1 _ mg) hx fun l hl' hne=>?_
   obtain ⟨y,hy,rfl⟩:=List.mem_map.1 hl'
   rcases List.mem_append.1 hy with hy | hy
   ·have hy12:=hd.lit y hy
    have:=hset (-y) (List.mem_map.2 ⟨y,hy,rfl⟩)
    rw [xz p (by have:=hy12.1; omega)] at this
    omega
   ·rw [List.mem_singleton] at hy; subst hy; exact absurd rfl hne
  have a1:=hun d1 m1
  have a2:=hun d2 m2
  have f0:f ≠ 0:=(d1.lit f (by simp)).1
  rw [Int.neg_neg] at a2
  rw [xz p f0] at a1
  omega
theorem kF (L0:List Con):∀(n:Nat) (s:Sst) (d:List Int) (t:List Con),Sok s→Dec d→s.list=L0++t→Rups L0 t →
  ∃ t',(cU n s d).1.list=L0++t'∧Rups L0 t'∧(∀c ∈ s.list,c ∈ (cU n s d).1.list)∧((cU n s d).2.1=2→∃ u,t'=u++[lj (kt d)])
 | 0,s,d,t,hs,hd,h,hr=>⟨t,h,hr,fun c hc=>hc,fun h=>by simp [cU] at h⟩
 | n+1,s,d,t,hs,hd,h,hr=>by
  have hcase:=m5 n s d
  generalize cU (n+1) s d=R at hcase ⊢
  cases hcase with
  | dry h1=>exact ⟨t,h,hr,fun c hc=>hc,fun h=>by simp at h⟩
  | conf h1 h2 h3 =>
   refine ⟨t++[lj (kt d)],by show s.list++_=_; rw [h,List.append_assoc],.snoc hr (qi (na hd)) (by rw [← h]; exact B0 hs.ok hd h3),fun c hc=>List.mem_append.2 (.inl hc),fun _=>⟨t,rfl⟩⟩
  | leaf h1 h2 p h3 hf=>exact ⟨t,h,hr,fun c hc=>hc,fun h=>by simp at h⟩
  | one h1 h2 p h3 hf r hr' h4 =>
   obtain ⟨f1,f2,d1,d2⟩:=hd.free hs.ok h3 hf
   obtain ⟨t',a1,a2,a3,a4⟩:=kF L0 n ⟨s.list,s.steps,s.fuel - 1⟩ _ t (hs.less h1) d1 h hr
   rw [hr'] at a1 a3 a4
   exact ⟨t',a1,a2,a3,fun h=>absurd h h4⟩
  | two h1 h2 p h3 hf r hr' h4 q hq h5 =>
   obtain ⟨f1,f2,d1,d2⟩:=hd.free hs.ok h3 hf
   obtain ⟨t',a1,a2,a3,a4⟩:=kF L0 n ⟨s.list,s.steps,s.fuel - 1⟩ _ t (hs.less h1) d1 h hr
   have O:=(dD n _ _ (hs.less h1) d1).1
   rw [hr'] at a1 a3 a4 O
   obtain ⟨t2,b1,b2,b3,b4⟩:=kF L0 n r.1 _ t' O d2 a1 a2
   rw [hq] at b1 b3 b4
   exact ⟨t2,b1,b2,fun c hc=>b3 c (a3 c hc),fun h=>absurd h h5⟩
  | much h1 h2 p h3 hf r hr' h4 q hq h5 h6 =>
   obtain ⟨f1,f2,d1,d2⟩:=hd.free hs.ok h3 hf
   obtain ⟨t',a1,a2,a3,a4⟩:=kF L0 n ⟨s.list,s.steps,s.fuel - 1⟩ _ t (hs.less h1) d1 h hr
   have O:=(dD n _ _ (hs.less h1) d1).1
   rw [hr'] at a1 a3 a4 O
   obtain ⟨t2,b1,b2,b3,b4⟩:=kF L0 n r.1 _ t' O d2 a1 a2
   rw [hq] at b1 b3 b4
   exact ⟨t2,b1,b2,fun c hc=>b3 c (a3 c hc),fun h=>by simp at h⟩
  | fail h1 h2 p h3 hf r hr' h4 q hq h5 h6 =>
   obtain ⟨f1,f2,d1,d2⟩:=hd.free hs.ok h3 hf
   obtain ⟨t',a1,a2,a3,a4⟩:=kF L0 n ⟨s.list,s.steps,s.fuel - 1⟩ _ t (hs.less h1) d1 h hr
   have O:=(dD n _ _ (hs.less h1) d1).1
   rw [hr'] at a1 a3 a4 O
   obtain ⟨t2,b1,b2,b3,b4⟩:=kF L0 n r.1 _ t' O d2 a1 a2
   have O2:=(dD n _ _ O d2).1
   rw [hq] at b1 b3 b4 O2
   obtain ⟨u1,e1⟩:=a4 h4
   obtain ⟨u2,e2⟩:=b4 h5
   have m1:lj (kt (d++[bz p 0])) ∈ q.1.list:=b3 _ (by rw [a1,e1]; simp)
   have m2:lj (kt (d++[-bz p 0])) ∈ q.1.list:=by rw [b1,e2]; simp
   refine ⟨t2++[lj (kt d)],by show q.1.list++_=_; rw [b1,List.append_assoc],.snoc b2 (qi (na hd)) (by rw [← b1]; exact CI O2.ok hd d1 d2 m1 m2),fun c hc=>List.mem_append.2 (.inl (b3 c (a3 c hc))),fun _=>⟨t2,rfl⟩⟩
theorem xd:∀(ss:List Step) (s:Step) (d:Db) (i:Nat),(nd d ss i).2=-1→nd d (ss++[s]) i=(match nQ (nd d ss i).1 s with | some d'=>(d',-1) | none=>((nd d ss i).1,((i+ss.length:Nat):Int)))
 | [],s,d,i,h=>by
  show nd d [s] i=_
  rw [nd,nd]
  cases nQ d s with
  | none=>rfl
  | some d'=>rfl
 | x :: ss,s,d,i,h=>by
  rw [List.cons_append,nd]
  rw [nd] at h
  rw [show nd d (x :: ss) i=(match nQ d x with | some d'=>nd d' ss (i+1) | none=>(d,(i:Int))) from rfl]
  cases hx:nQ d x with
  | none =>
   rw [hx] at h
   simp only at h
   omega
  | some d' =>
   rw [hx] at h
   simp only at h ⊢
   rw [xd ss s d' (i+1) h,List.length_cons,show i+1+ss.length=i+(ss.length+1) by omega]
theorem C6 {list:List Con}:∀{t:List Con},Rups list t→qh list (t.map stepOf)=(kT (list++t),-1):=by
 intro t h
 induction h with
 | nil=>rw [List.append_nil]; rfl
 | @snoc t c h hc hr ih =>
  unfold qh at ih ⊢
  rw [List.map_append,List.map_singleton,xd _ _ _ _ (by rw [ih]),ih]
  have hk:sd (kT (list++t))=list++t:=by unfold sd kT; exact yF _
  have hd:ni (kT (list++t)) (stepOf c)=(c,true):=by
   unfold ni
   rw [hk]
   show (c,bp c && uP (list++t) c)=_
   rw [hc,hr]; rfl
  have hst:nQ (kT (list++t)) (stepOf c)=some (kT (list++t++[c])):=by
   unfold nQ
   rw [hd,BE]
   rfl
  rw [hst,List.append_assoc]
theorem BF {fu:Nat} {list:List Con} {fuel:Int} (h:(gZ fu list fuel).1=2):BY list (gZ fu list fuel).2.2=true∧(gZ fu list fuel).2.1=[]:=by
 obtain ⟨h1,h2⟩:=vw (.inr h)
 have hs:=qa h1 h2
 have O:=(dD fu _ _ hs Dec.nil).1
 obtain ⟨t',a1,a2,a3,a4⟩:=kF list fu ⟨list,[],fuel⟩ [] [] hs Dec.nil (List.append_nil _).symm .nil
 obtain ⟨t,t1,t2,_⟩:=kv fu ⟨list,[],fuel⟩ []
 have et:t=t':=by
  have:list++t=list++t':=by rw [← t1,← a1]
  exact List.append_cancel_left this
 subst et
 rw [List.nil_append] at t2
 unfold gZ at h ⊢
 rw [h1,h2] at h ⊢
 simp only [Bool.and_true,if_true] at h ⊢
 by_cases e:(cU fu ⟨list,[],fuel⟩ []).2.1=2
 ·rw [if_pos e]
  refine ⟨?_,rfl⟩
  simp only
  obtain ⟨u,eu⟩:=a4 e
  have hrun:=C6 a2
  have hlen:(cU fu ⟨list,[],fuel⟩ []).1.steps.length≤1000:=O.few
  rw [Cw,t2,hrun]
  refine ⟨?_,by simp,?_⟩
  ·unfold qd
   rw [h1,← t2,decide_eq_true (by omega)]; rfl
  ·refine yQ _ _ 0 (list++u).length (lj (kt [])) ?_ (by decide) ?_
   ·show (list++t)[_]?=_
    rw [eu,← List.append_assoc,List.getElem?_append_right (Nat.le_refl _),Nat.sub_self]; rfl
   ·show (List.replicate (list++t).length false)[_]?=_
    rw [List.getElem?_replicate_of_lt (by rw [eu]; simp)]
 ·rw [if_neg e] at h
  exact absurd h e
theorem mM {xs:List Int}:distinct xs=true ↔ xs.Nodup:=by
 unfold distinct List.Nodup
 rw [jj,List.pairwise_iff_getElem]
 constructor
 ·intro h i j hi hj hij e
  have:=h j xs[j] (List.getElem?_eq_getElem hj)
  simp only [Bool.not_eq_true',List.contains_eq_mem,decide_eq_false_iff_not] at this
  exact this (by rw [← e,List.mem_take_iff_getElem]; exact ⟨i,by omega,rfl⟩)
 ·intro h j x hx
  simp only [Bool.not_eq_true',List.contains_eq_mem,decide_eq_false_iff_not]
  intro hm
  obtain ⟨hj,rfl⟩:=List.getElem?_eq_some_iff.1 hx
  obtain ⟨i,hi,e⟩:=List.mem_take_iff_getElem.1 hm
  exact h i j (by omega) hj (by omega) e
theorem re {xs:List Int} (h:xs.Nodup) (v:Int):(xs.filter (· == v)).length≤1:=by
 induction xs with
 | nil=>simp
 | cons x xs ih =>
  rw [List.nodup_cons] at h
  rw [List.filter_cons]
  split
  ·rename_i e
   have e:x=v:=by simpa using e
   subst e
   have:xs.filter (· == x)=[]:=by
    rw [List.filter_eq_nil_iff]
    intro y hy
    simp
    intro e
    subst e
    exact h.1 hy
   rw [this]; simp
  ·exact ih h.2
theorem wz:∀(n:Nat) (xs:List Int),xs.Nodup→(∀x ∈ xs,0≤x∧x<(n:Int))→xs.length≤n
 | 0,xs,_,h=>by
  cases xs with
  | nil=>simp
  | cons x xs=>have:=h x (by simp); omega
 | n+1,xs,hn,h=>by
  have h1:=re hn (n:Int)
  have h2:=wz n (xs.filter fun x=>!(x == (n:Int))) (List.Pairwise.filter _ hn) (by
   intro x hx
   rw [List.mem_filter] at hx
   have:=h x hx.1
   have h3:x ≠ (n:Int):=by simpa using hx.2
   omega)
  have h3:xs.length=(xs.filter (· == (n:Int))).length+(xs.filter fun x=>!(x == (n:Int))).length:=by
   have:=List.length_eq_countP_add_countP (· == (n:Int)) (l:=xs)
   rw [List.countP_eq_length_filter,List.countP_eq_length_filter] at this
   rw [this]
   congr 2
   apply List.filter_congr
   intro x _
   cases x == (n:Int) <;> simp
  omega
theorem gk {n:Nat} {xs:List Int} (h:cw n xs=true):xs.length≤n:=by
 obtain ⟨h1,h2⟩:=mK.1 h
 exact wz n xs (mM.1 h2) h1
def cy (m:Model) (i:Nat):Nat:=(m.sizes.getD i 0).toNat
def ot (m:Model) (i:Nat):List Int:=(List.range (cy m i+1)).map fun (v:Nat)=>bF m i (v:Int)
theorem wB {m:Model} {i:Nat} {x:Int} (hx:m.sizes[i]?=some x):cy m i=x.toNat:=by
 unfold cy
 rw [List.getD_eq_getElem?_getD,hx]; rfl
theorem er {m:Model} (hok:aX m=true) {i:Nat} (hi:i<m.sizes.length):m.sizes[i]=(cy m i:Int)∧cy m i≤3:=by
 have:=kG (bo hok).2.2.1 hi
 rw [wB (List.getElem?_eq_getElem hi)]
 omega
theorem iJ {m:Model} (hok:aX m=true) {i:Nat} (hi:i<m.sizes.length) {v:Nat} (hv:v≤cy m i):1≤bF m i v∧bF m i v≤12:=by
 have:=er hok hi
 have h:=nF hok hi (v:=(v:Int)) ⟨by omega,by omega⟩
 omega
theorem qJ {m:Model} (hok:aX m=true) {i:Nat} (hi:i<m.sizes.length):∀x ∈ ot m i,1≤x∧x≤12:=by
 intro x hx
 obtain ⟨v,hv,rfl⟩:=List.mem_map.1 hx
 rw [List.mem_range] at hv
 exact iJ hok hi (by omega)
theorem sI (m:Model) (i:Nat):(ot m i).length=cy m i+1:=by simp [ot]
theorem kX (m:Model) (i:Nat):(ot m i).Pairwise (·<·):=by
 unfold ot
 rw [List.pairwise_map]
 refine List.Pairwise.imp ?_ List.pairwise_lt_range
 intro a b h
 unfold bF
 omega
theorem Eb {vs:List Int} (h:∀x ∈ vs,1≤x∧x≤12):vs.map bn=vs:=by
 conv=>rhs; rw [← List.map_id vs]
 apply List.map_congr_left
 intro x hx
 have:=h x hx
 unfold bn
 simp; omega
theorem sj {vs:List Int} (h:vs.Pairwise (·<·)):vs.Nodup:=h.imp fun hab e=>by omega
theorem tU {vs:List Int} (h:∀x ∈ vs,1≤x∧x≤12):∀x ∈ vs,cf x:=fun x hx=>by
 have:=h x hx
 exact ⟨by omega,by omega,by omega⟩
theorem ub {vs:List Int} (h:∀x ∈ vs,1≤x∧x≤12) (hn:vs.Nodup):dq vs:=by
 unfold dq; rw [Eb h]; exact hn
def sB (vs:List Int):Con:=⟨vs.map fun x=>⟨1,-x⟩,(vs.length:Int) - 1⟩
theorem wA {τ:Type} {b:Nat→Int→List Term→Option (Lo (List Term) τ)} (hb:∀i x out,b i x out=(app out ([({ coef:=1,lit:=i64 (-x) }:Term)])).bind fun y=>some (.cont y)) {vs:List Int} (hv:∀x ∈ vs,1≤x∧x≤12) (hl:vs.length≤20):aw b vs 0 []=some (.nx (vs.map fun x=>⟨1,-x⟩)):=
 iI (fun x=>(⟨1,-x⟩:Term)) vs fun i x out hx ho=>by
  have hi:=(List.getElem?_eq_some_iff.1 hx).1
  have:=hv x (List.mem_of_getElem? hx)
  rw [hb,bR (by simp; omega),aR (by omega) (by omega)]; rfl
theorem B7 {vs:List Int} (hv:∀x ∈ vs,1≤x∧x≤12) (hl:vs.length≤20):m4 vs=some (sB vs):=by
 unfold m4
 rw [wA (b:=nu) (fun _ _ _=>rfl) hv hl,Option.bind_some]
 show some (Con.mk _ (i64 _))=_
 rw [aR (by omega) (by omega)]; rfl
theorem Cc {vs:List Int} (hv:∀x ∈ vs,1≤x∧x≤12) (hl:vs.length≤20):kD vs=some (sB vs):=by
 unfold kD
 rw [wA (b:=kU) (fun _ _ _=>rfl) hv hl,Option.bind_some]
 show some (Con.mk _ (i64 _))=_
 rw [aR (by omega) (by omega)]; rfl
def vm (m:Model) (i:Nat):List Con:=[lj (ot m i),sB (ot m i)]
theorem wI {ls:List Int} (hl:∀l ∈ ls,cf l) (hd:dq ls) (h40:ls.length≤40):jk ls=some (lj ls,true):=by
 rw [CZ]
 unfold xn
 rw [jq hl hd,decide_eq_true h40]; rfl
theorem EG {m:Model} (hok:aX m=true) {i:Nat} {x:Int} (hx:m.sizes[i]?=some x):qu m (i:Int)=some (vm m i):=by
 obtain ⟨h1,h5,ha,_⟩:=bo hok
 obtain ⟨hi,hxe⟩:=List.getElem?_eq_some_iff.1 hx
 have hs:=er hok hi
 have hp:=qJ hok hi
 have hlen:=sI m i
 unfold qu
 rw [iT hi,Option.bind_some,hs.1]
 have hk:jL 0 ((cy m i:Int)+1)=some (cy m i+1):=by rw [oC (by omega) (by omega)]; congr 1
 rw [hk,Option.bind_some]
 have h:=jo (b:=lK m (i:Int)) (fun j=>(List.range j).map fun (v:Nat)=>bF m i (v:Int)) (cy m i+1) 0 (by
  intro j _ hj
  have hvar:=Ex m i (j:Int) (by omega) h5 ha ⟨by omega,by omega⟩
  show (lC m (i:Int) (j:Int)).bind _=_
  rw [hvar,Option.bind_some,bR (by simp; omega),List.range_succ,List.map_append]
  rfl)
 rw [Nat.zero_add] at h
 rw [show cI (lK m (i:Int)) (cy m i+1) 0 []=_ from h,Option.bind_some]
 show (jk (ot m i)).bind _=_
 rw [wI (tU hp) (ub hp (sj (kX m i))) (by omega),Option.bind_some]
 show (m4 (ot m i)).bind _=_
 rw [B7 hp (by omega)]
 rfl
def iD (m:Model) (n:Nat):List Con:=(List.range n).flatMap (vm m)
theorem ng (m:Model) (n:Nat):iD m (n+1)=iD m n++vm m n:=by
 unfold iD
 rw [List.range_succ,List.flatMap_append,List.flatMap_singleton]
theorem m9 (m:Model):∀n,(iD m n).length=2 * n
 | 0=>rfl
 | n+1=>by rw [ng,List.length_append,m9 m n]; rfl
theorem CG {m:Model} (hok:aX m=true):aw (fX m) m.sizes 0 []=some (.nx (iD m m.sizes.length)):=by
 have h5:=(bo hok).2.1
 exact dT (b:=fX m) (fun i=>iD m i) m.sizes fun i x hx=>by
  have hi:=(List.getElem?_eq_some_iff.1 hx).1
  have:=m9 m i
  rw [fX,EG hok hx,Option.bind_some,bR (by simp [vm]; omega),ng]; rfl
theorem CP (fu:Nat) (hf:FU≤fu) {m:Model} (hok:aX m=true):aw (gg fu m) m.sizes 0 []=some (.nx (iD m m.sizes.length)):=by
 have h5:=(bo hok).2.1
 exact dT (b:=gg fu m) (fun i=>iD m i) m.sizes fun i x hx=>by
  have hi:=(List.getElem?_eq_some_iff.1 hx).1
  have:=m9 m i
  have hs:=er hok hi
  have hp:=qJ hok hi
  have hlen:=sI m i
  have e:(List.range (x.toNat+1)).map (fun (v:Nat)=>bF m i (v:Int))=ot m i:=by unfold ot; rw [wB hx]
  rw [gg,zg hok hx,Option.bind_some,e,uT fu hf _ (tU hp) (ub hp (sj (kX m i))) (by omega),Option.bind_some,Cc hp (by omega),Option.bind_some,bR (by simp; omega),ng]; rfl
def pt (vs:List Int):List Int:=vs.mergeSort
theorem jD (vs:List Int):(pt vs).Perm vs:=List.mergeSort_perm vs _
theorem sa (vs:List Int):(pt vs).Pairwise (·≤·):=by
 have:=List.pairwise_mergeSort (le:=fun (a b:Int)=>decide (a≤b)) (fun a b c h1 h2=>by simp at *; omega) (fun a b=>by simp; omega) vs
 exact this.imp fun h=>by simpa using h
theorem tw:∀{a b:List Int},a.Perm b→a.Pairwise (·≤·)→b.Pairwise (·≤·)→a=b
 | [],b,h,_,_=>(List.nil_perm.1 h).symm
 | x :: a,[],h,_,_=>by simp at h
 | x :: a,y :: b,h,ha,hb=>by
  rw [List.pairwise_cons] at ha hb
  have e:x=y:=by
   have h1:x ∈ y :: b:=h.mem_iff.1 (by simp)
   have h2:y ∈ x :: a:=h.mem_iff.2 (by simp)
   rcases List.mem_cons.1 h1 with h1 | h1
   ·exact h1
   ·rcases List.mem_cons.1 h2 with h2 | h2
    ·exact h2.symm
    ·have:=hb.1 x h1; have:=ha.1 y h2; omega
  subst e
  rw [tw (List.Perm.cons_inv h) ha.2 hb.2]
theorem wN {τ:Type} {b:List Int × Int→Option (Lo (List Int × Int) τ)}
  (h0:∀d,b (d,0)=some (.brk (d,0)))
  (h1:∀(pre:List Int) (y x:Int) (rest:List Int) (k:Nat),pre.length=k→k≤100→b (pre++y :: x :: rest,((k+1:Nat):Int))=some (if decide (x<y) then .cont (pre++x :: y :: rest,(k:Int)) else .brk (pre++y :: x :: rest,((k+1:Nat):Int))))
  (x:Int) (rest:List Int):∀(n:Nat) (pre mid:List Int) (k:Nat),pre.length=n→n<k→n≤100 →
  ∃ p q s,p++q=pre∧bx b k (pre++x :: (mid++rest),(n:Int))=some (.nx (p++x :: (q++mid++rest),s))∧(∀y ∈ q,x<y)∧(∀y,p.getLast?=some y→y≤x)
 | 0,pre,mid,k,hn,hk,h100=>by
  obtain ⟨k,rfl⟩:∃ k',k=k'+1:=⟨k - 1,by omega⟩
  have hp:pre=[]:=List.length_eq_zero_iff.1 hn
  subst hp
  refine ⟨[],[],0,rfl,?_,by simp,by simp⟩
  show (b _).bind _=_
  have:=h0 ([]++x :: (mid++rest))
  rw [show (((0:Nat):Int))=0 from rfl,this]
  rfl
 | n+1,pre,mid,k,hn,hk,h100=>by
  obtain ⟨k,rfl⟩:∃ k',k=k'+1:=⟨k - 1,by omega⟩
  obtain ⟨pre',y,rfl⟩:∃ p y,pre=p++[y]:=⟨pre.dropLast,pre.getLast (by intro h; subst h; simp at hn),(List.dropLast_concat_getLast _).symm⟩
  have hl:pre'.length=n:=by simpa using hn
  have e:=h1 pre' y x (mid++rest) n hl (by omega)
  rw [show pre'++[y]++x :: (mid++rest)=pre'++y :: x :: (mid++rest) by simp]
  by_cases hc:x<y
  ·obtain ⟨p,q,s,e1,e2,e3,e4⟩:=wN h0 h1 x rest n pre' (y :: mid) k hl (by omega) (by omega)
   refine ⟨p,q++[y],s,by rw [← e1]; simp,?_,?_,e4⟩
   ·show (b _).bind _=_
    rw [e,decide_eq_true hc,if_pos rfl]
    show bx b k (pre'++x :: (y :: mid++rest),(n:Int))=_
    rw [e2]
    simp
   ·intro z hz
    rcases List.mem_append.1 hz with hz | hz
    ·exact e3 z hz
    ·rw [List.mem_singleton] at hz; subst hz; exact hc
  ·refine ⟨pre'++[y],[],((n+1:Nat):Int),by simp,?_,by simp,?_⟩
   ·show (b _).bind _=_
    rw [e,decide_eq_false hc,if_neg (by simp)]
    show some (Jn.nx _)=_
    simp
   ·intro z hz
    simp at hz
    subst hz
    omega
theorem zd {p q:List Int} {x:Int} (h:(p++q).Pairwise (·≤·)) (h1:∀y ∈ q,x<y) (h2:∀y,p.getLast?=some y→y≤x):(p++x :: q).Pairwise (·≤·):=by
 rw [List.pairwise_append] at h
 obtain ⟨hp,hq,hpq⟩:=h
 have hpx:∀y ∈ p,y≤x:=by
  intro y hy
  cases hlast:p.getLast? with
  | none=>rw [List.getLast?_eq_none_iff] at hlast; subst hlast; cases hy
  | some z =>
   have hz:=h2 z hlast
   have:y≤z:=by
    obtain ⟨p',rfl⟩:∃ p',p=p'++[z]:=by
     rw [List.getLast?_eq_some_iff] at hlast
     exact hlast
    rw [List.pairwise_append] at hp
    rcases List.mem_append.1 hy with hy | hy
    ·exact hp.2.2 y hy z (by simp)
    ·rw [List.mem_singleton] at hy; subst hy; exact Int.le_refl _
   exact Int.le_trans this hz
 rw [List.pairwise_append]
 refine ⟨hp,?_,?_⟩
 ·rw [List.pairwise_cons]
  exact ⟨fun y hy=>Int.le_of_lt (h1 y hy),hq⟩
 ·intro y hy z hz
  rcases List.mem_cons.1 hz with rfl | hz
  ·exact hpx y hy
  ·exact hpq y hy z hz
theorem vB {τ:Type} {b2:List Int × Int→Option (Lo (List Int × Int) τ)} {σ:Type} {b1:List Int × Int→Option (Lo (List Int × Int) σ)} (fu:Nat) (hf:FU≤fu) (ls:List Int) (h12:ls.length≤100)
  (h0:∀d,b2 (d,0)=some (.brk (d,0)))
  (h1:∀(pre:List Int) (y x:Int) (rest:List Int) (k:Nat),pre.length=k→k≤100→b2 (pre++y :: x :: rest,((k+1:Nat):Int))=some (if decide (x<y) then .cont (pre++x :: y :: rest,(k:Int)) else .brk (pre++y :: x :: rest,((k+1:Nat):Int))))
  (hout:∀d,d.length=ls.length→b1 (d,(ls.length:Int))=some (.brk (d,(ls.length:Int))))
  (hin:∀(d:List Int) (i:Nat) (d':List Int) (s:Int),d.length=ls.length→i<ls.length→bx b2 fu (d,(i:Int))=some (.nx (d',s))→b1 (d,(i:Int))=some (.cont (d',((i+1:Nat):Int)))) (i0:Nat) (hi0:i0≤1) (hi1:i0≤ls.length) :
  ∃ k,bx b1 fu (ls,(i0:Int))=some (.nx (pt ls,k)):=by
 have hF:=hf
 unfold FU at hF
 obtain ⟨j,hj,hQ⟩:=iN (b:=b1)
  (fun n (s:List Int × Int)=>∃ i:Nat,s.2=(i:Int)∧i+n=ls.length∧∃ P,s.1=P++ls.drop i∧P.Perm (ls.take i)∧P.Pairwise (·≤·))
  (fun j=>∃ k,j=.nx (pt ls,k)) (fun n s hI=>by
   obtain ⟨d,k⟩:=s
   obtain ⟨i,hk,hi,P,hd,hp,hs⟩:=hI
   simp only at hk hd
   subst hk hd
   have hpl:P.length=i:=by rw [hp.length_eq]; simp; omega
   cases n with
   | zero =>
    have:i=ls.length:=by omega
    subst this
    refine ⟨_,hout _ (by simp [hpl]),(ls.length:Int),?_⟩
    rw [List.take_length] at hp
    simp only [List.drop_length,List.append_nil]
    rw [tw (hp.trans (jD ls).symm) hs (sa ls)]
   | succ n =>
    have hil:i<ls.length:=by omega
    have hdr:ls.drop i=ls[i] :: ls.drop (i+1):=List.drop_eq_getElem_cons hil
    obtain ⟨p,q,s,e1,e2,e3,e4⟩:=wN h0 h1 ls[i] (ls.drop (i+1)) i P [] fu hpl (by omega) (by omega)
    have hw:bx b2 fu (P++ls.drop i,(i:Int))=some (.nx (p++ls[i] :: (q++[]++ls.drop (i+1)),s)):=by
     rw [hdr]; exact e2
    refine ⟨_,hin _ i _ s (by simp [hpl]; omega) hil hw,n,by omega,i+1,rfl,by omega,p++ls[i] :: q,by simp,?_,?_⟩
    ·rw [lv (List.getElem?_eq_getElem hil)]
     have g1:(p++ls[i] :: q).Perm (ls[i] :: (p++q)):=List.perm_middle
     rw [e1] at g1
     exact g1.trans ((hp.cons _).trans (List.perm_append_singleton _ _).symm)
    ·rw [← e1] at hs
     exact zd hs e3 e4)
  fu (ls.length - i0) (ls,(i0:Int)) ⟨i0,rfl,by omega,ls.take i0,(List.take_append_drop i0 ls).symm,List.Perm.refl _,by
   have:(ls.take i0).length≤1:=by simp; omega
   match h:ls.take i0,this with
   | [],_=>exact List.Pairwise.nil
   | [a],_=>simp⟩ (by omega)
 obtain ⟨k,rfl⟩:=hQ
 exact ⟨k,hj⟩
theorem xp (pre:List Int) (y x:Int) (rest:List Int) (k:Nat) (hk:pre.length=k):idx (pre++y :: x :: rest) ((k+1:Nat):Int)=some x∧idx (pre++y :: x :: rest) (k:Int)=some y:=by
 subst hk
 constructor
 ·rw [cN,List.getElem?_append_right (by omega),Nat.add_sub_cancel_left]; rfl
 ·rw [cN,List.getElem?_append_right (by omega),Nat.sub_self]; rfl
theorem ua (pre:List Int) (y x u:Int) (rest:List Int) (k:Nat) (hk:pre.length=k):(pre++y :: x :: rest).set (k+1) u=pre++y :: u :: rest∧(pre++y :: x :: rest).set k u=pre++u :: x :: rest:=by
 subst hk
 constructor
 ·rw [List.set_append_right _ _ (by omega),Nat.add_sub_cancel_left]; rfl
 ·rw [List.set_append_right _ _ (Nat.le_refl _),Nat.sub_self]; rfl
theorem B6 (fu:Nat) (hf:FU≤fu) (ls:List Int) (hl:ls.length≤100):nb fu ls=some (pt ls):=by
 unfold nb
 rw [bR (by simp; omega),Option.bind_some,List.nil_append]
 obtain ⟨k,h⟩:=vB (b2:=iS) (b1:=iK fu) fu hf ls hl
  (fun d=>by rw [iS]; rfl)
  (fun pre y x rest k hk h100=>by
   obtain ⟨t1,t2⟩:=xp pre y x rest k hk
   have e5:i64 (((k+1:Nat):Int) - 1)=(k:Int):=by rw [aR (by omega) (by omega)]; omega
   rw [iS,if_pos (decide_eq_true (by omega)),t1,e5,t2,Option.bind_some,Option.bind_some,Option.bind_some]
   by_cases h:x<y
   ·rw [decide_eq_true h,if_pos rfl,if_pos rfl]
    have s1:=(ua pre y x y rest k hk).1
    have s2:=(ua pre y y x rest k hk).2
    have t3:=(xp pre y y rest k hk).2
    show ((some x).bind fun x56=>_)=_
    simp only [Option.bind_some,Int.toNat_natCast,s1,t3,s2]
   ·rw [decide_eq_false h]; rfl)
  (fun d hd=>by rw [iK,if_neg (by simp; omega)])
  (fun d i d' s hd hi hw=>by
   rw [iK,if_pos (decide_eq_true (by omega)),hw,Option.bind_some]
   simp only
   rw [aR (by omega) (by omega)]; rfl) 0 (by omega) (by omega)
 rw [show (0:Int)=((0:Nat):Int) from rfl,h]
 rfl
theorem C1 (fu:Nat) (hf:FU≤fu) (ls:List Int) (h1:1≤ls.length) (hl:ls.length≤12):iG fu ls=some (pt ls):=by
 unfold iG
 have hb:bits_Len (IntKind.u64.wrap (ls.length:Int))=some (Go.Lib.bitLen (IntKind.u64.wrap (ls.length:Int)).toNat:Int):=by
  unfold bits_Len
  have:IntKind.u64.wrap (ls.length:Int)=(ls.length:Int):=by rw [IntKind.wrap_u64]; omega
  rw [this,if_pos (by omega)]
 rw [hb,Option.bind_some]
 obtain ⟨k,h⟩:=vB (b2:=bX 0) (b1:=bY fu 0 (ls.length:Int)) fu hf ls (by omega)
  (fun d=>by rw [bX]; rfl)
  (fun pre y x rest k hk h100=>by
   obtain ⟨t1,t2⟩:=xp pre y x rest k hk
   have e5:i64 (((k+1:Nat):Int) - 1)=(k:Int):=by rw [aR (by omega) (by omega)]; omega
   have hless:lb x y=some (decide (x<y)):=by unfold lb ki; simp
   rw [bX,if_pos (decide_eq_true (by omega)),t1,e5,t2,Option.bind_some,Option.bind_some,hless,Option.bind_some,Option.bind_some]
   by_cases h:x<y
   ·rw [decide_eq_true h,if_pos rfl,if_pos rfl]
    have s1:=(ua pre y x y rest k hk).1
    have s2:=(ua pre y y x rest k hk).2
    have t3:=(xp pre y y rest k hk).2
    show ((some y).bind fun x52=>_)=_
    simp only [Option.bind_some,Int.toNat_natCast,s1,t3,s2]
   ·rw [decide_eq_false h]; rfl)
  (fun d hd=>by rw [bY,if_neg (by simp)])
  (fun d i d' s hd hi hw=>by
   rw [bY,if_pos (decide_eq_true (by omega)),hw,Option.bind_some]
   simp only
   rw [aR (by omega) (by omega)]; rfl) 1 (by omega) (by omega)
 unfold eO
 unfold FU at hf
 obtain ⟨n,rfl⟩:∃ n,fu=n+1:=⟨fu - 1,by omega⟩
 have:bx (cL (n+1) ls 0 (ls.length:Int)) (n+1) ()=some (.out (pt ls)):=by
  show (cL (n+1) ls 0 (ls.length:Int) ()).bind _=_
  rw [cL,aR (by omega) (by omega),if_pos (decide_eq_true (by omega))]
  unfold du
  rw [aR (by omega) (by omega),show (0:Int)+1=((1:Nat):Int) from rfl,h]
  rfl
 rw [this]
 rfl
def fr (r:Rule) (n:Nat):Nat:=(r.vars.getD n 0).toNat
theorem je {m:Model} {r:Rule} (hv:cw m.sizes.length r.vars=true) {n:Nat} {x:Int} (hx:r.vars[n]?=some x):x=(fr r n:Int)∧fr r n<m.sizes.length∧n<r.vars.length:=by
 have hb:=(mK.1 hv).1 x (List.mem_of_getElem? hx)
 have e:fr r n=x.toNat:=by unfold fr; rw [List.getD_eq_getElem?_getD,hx]; rfl
 exact ⟨by omega,by omega,(List.getElem?_eq_some_iff.1 hx).1⟩
theorem iC {m:Model} {r:Rule} (hv:cw m.sizes.length r.vars=true) {n:Nat} (hn:n<r.vars.length):fr r n<m.sizes.length:=(je hv (List.getElem?_eq_getElem hn)).2.1
theorem sf {m:Model} {r:Rule} (hv:cw m.sizes.length r.vars=true) {i j:Nat} (hi:i<r.vars.length) (hj:j<r.vars.length) (h:fr r i=fr r j):i=j:=by
 have h1:=(je hv (List.getElem?_eq_getElem hi)).1
 have h2:=(je hv (List.getElem?_eq_getElem hj)).1
 have hd:=mM.1 (mK.1 hv).2
 have e:r.vars[i]=r.vars[j]:=by rw [h1,h2,h]
 rcases Nat.lt_trichotomy i j with hlt | he | hgt
 ·exact absurd e ((List.pairwise_iff_getElem.1 hd) i j hi hj hlt)
 ·exact he
 ·exact absurd e.symm ((List.pairwise_iff_getElem.1 hd) j i hj hi hgt)
theorem zH {m:Model} (hok:aX m=true) {c v:Nat} (hc:c<m.sizes.length) (hv:v≤3):lC m (c:Int) (v:Int)=some (bF m c v):=by
 obtain ⟨h1,h5,ha,_⟩:=bo hok
 exact Ex m c v (by omega) h5 ha ⟨by omega,by omega⟩
theorem Ad {m:Model} (hok:aX m=true) {c v:Nat} (hc:c<m.sizes.length) (hv:v≤3):dz m (c:Int) (v:Int)=some (bF m c v):=by
 obtain ⟨h1,h5,ha,_⟩:=bo hok
 exact Eh m c v (by omega) h5 ha ⟨by omega,by omega⟩
theorem qm {m:Model} (hok:aX m=true) {c d v u:Nat} (hc:c<m.sizes.length) (hd:d<m.sizes.length) (hv:v≤cy m c) (hu:u≤cy m d) (h:bF m c v=bF m d u):c=d∧v=u:=by
 have h1:=er hok hc
 have h2:=er hok hd
 have:=E9 (bo hok).2.2.1 hc hd (v:=(v:Int)) (u:=(u:Int)) (by omega) (by omega) (by omega) (by omega) h
 exact ⟨this.1,by omega⟩
def fq (m:Model) (r:Rule) (v:Nat):Nat→List Int
 | 0=>[]
 | n+1=>fq m r v n++(if v≤cy m (fr r n) then [bF m (fr r n) v] else [])
theorem ly (m:Model) (r:Rule) (v:Nat):∀n,(fq m r v n).length≤n
 | 0=>Nat.le_refl _
 | n+1=>by
  have:=ly m r v n
  rw [fq,List.length_append]
  split <;> simp <;> omega
theorem rB {m:Model} {r:Rule} {v:Nat} {x:Int}:∀n,x ∈ fq m r v n ↔ ∃ j,j<n∧v≤cy m (fr r j)∧x=bF m (fr r j) v
 | 0=>by simp [fq]
 | n+1=>by
  rw [fq,List.mem_append,rB n]
  constructor
  ·rintro (⟨j,h1,h2,h3⟩ | h)
   ·exact ⟨j,by omega,h2,h3⟩
   ·split at h
    ·rw [List.mem_singleton] at h; exact ⟨n,by omega,‹_›,h⟩
    ·cases h
  ·rintro ⟨j,h1,h2,h3⟩
   by_cases e:j=n
   ·subst e; right; rw [if_pos h2,h3]; simp
   ·exact .inl ⟨j,by omega,h2,h3⟩
theorem oL {m:Model} (hok:aX m=true) {r:Rule} (hv:cw m.sizes.length r.vars=true) (v:Nat):∀x ∈ fq m r v r.vars.length,1≤x∧x≤12:=by
 intro x hx
 obtain ⟨j,h1,h2,rfl⟩:=(rB _).1 hx
 exact iJ hok (iC hv h1) h2
def ma (m:Model) (r:Rule):Nat→List Con
 | 0=>[]
 | v+1=>ma m r v++(if 1<(fq m r v r.vars.length).length then [sB (pt (fq m r v r.vars.length))] else [])
theorem qI (m:Model) (r:Rule):∀n,(ma m r n).length≤n
 | 0=>Nat.le_refl _
 | n+1=>by
  have:=qI m r n
  rw [ma,List.length_append]
  split <;> simp <;> omega
theorem qD {vs:List Int} (h:∀x ∈ vs,1≤x∧x≤12):∀x ∈ pt vs,1≤x∧x≤12:=fun x hx=>h x ((jD vs).mem_iff.1 hx)
theorem E0 (fu:Nat) (hf:FU≤fu) {m:Model} (hok:aX m=true) {r:Rule} (hv:cw m.sizes.length r.vars=true):kd fu m r=some (ma m r 4):=by
 have h5:=(bo hok).2.1
 have hl:=gk hv
 unfold kd
 rw [show jL 0 (3+1)=some 4 from mH (n:=4) (by omega),Option.bind_some]
 have:=jo (b:=gb fu m r) (fun v=>ma m r v) 4 0 (fun v _ hv4=>by
  have hin:=dT (b:=gf m v) (fun n=>fq m r v n) r.vars (fun n x hx=>by
   obtain ⟨e,e2,e3⟩:=je hv hx
   have hs:=er hok e2
   have hlen:=ly m r v n
   rw [gf,e,iT e2,Option.bind_some,hs.1,fq]
   by_cases h:v≤cy m (fr r n)
   ·rw [if_pos (decide_eq_true (by omega)),zH hok e2 (by omega),Option.bind_some,bR (by simp; omega),if_pos h]; rfl
   ·rw [if_neg (by simp; omega),if_neg h,List.append_nil]; rfl)
  have hlen:=ly m r v r.vars.length
  have hp:=oL hok hv v
  have hel:=qI m r v
  rw [gb,show aw (gf m v) r.vars 0 []=_ from hin,Option.bind_some,ma]
  simp only
  by_cases h:1<(fq m r v r.vars.length).length
  ·rw [if_pos (decide_eq_true (by omega)),B6 fu hf _ (by omega),Option.bind_some,B7 (qD hp) (by rw [(jD _).length_eq]; omega),Option.bind_some,bR (by simp; omega),if_pos h]; rfl
  ·rw [if_neg (by simp; omega),if_neg h,List.append_nil]; rfl)
 rw [show cI (gb fu m r) 4 0 []=_ from this]
 rfl
theorem E6 (fu:Nat) (hf:FU≤fu) {m:Model} (hok:aX m=true) {r:Rule} (hv:cw m.sizes.length r.vars=true):cI (dL fu m r) 4 0 []=some (.nx (ma m r 4)):=by
 have h5:=(bo hok).2.1
 have hl:=gk hv
 exact jo (b:=dL fu m r) (fun v=>ma m r v) 4 0 (fun v _ hv4=>by
  have hin:=dT (b:=dM m v) (fun n=>fq m r v n) r.vars (fun n x hx=>by
   obtain ⟨e,e2,e3⟩:=je hv hx
   have hs:=er hok e2
   have hlen:=ly m r v n
   rw [dM,e,iT e2,Option.bind_some,hs.1,fq]
   by_cases h:v≤cy m (fr r n)
   ·rw [if_pos (decide_eq_true (by omega)),Ad hok e2 (by omega),Option.bind_some,bR (by simp; omega),if_pos h]; rfl
   ·rw [if_neg (by simp; omega),if_neg h,List.append_nil]; rfl)
  have hlen:=ly m r v r.vars.length
  have hp:=oL hok hv v
  have hel:=qI m r v
  rw [dL,show aw (dM m v) r.vars 0 []=_ from hin,Option.bind_some,ma]
  simp only
  by_cases h:1<(fq m r v r.vars.length).length
  ·rw [if_pos (decide_eq_true (by omega)),C1 fu hf _ (by omega) (by omega),Option.bind_some,Cc (qD hp) (by rw [(jD _).length_eq]; omega),Option.bind_some,bR (by simp; omega),if_pos h]; rfl
  ·rw [if_neg (by simp; omega),if_neg h,List.append_nil]; rfl)
def qp (m:Model) (r:Rule) (n:Nat) (v:Nat):Term:=⟨r.coefs.getD n 0 * (v:Int),bF m (fr r n) v⟩
def hM (m:Model) (r:Rule):Nat→List Term
 | 0=>[]
 | n+1=>hM m r n++(List.range (cy m (fr r n)+1)).map (qp m r n)
theorem sk {m:Model} {r:Rule} {t:Term}:∀n,t ∈ hM m r n ↔ ∃ j,j<n∧∃ v,v≤cy m (fr r j)∧t=qp m r j v
 | 0=>by simp [hM]
 | n+1=>by
  rw [hM,List.mem_append,sk n]
  constructor
  ·rintro (⟨j,h1,h2⟩ | h)
   ·exact ⟨j,by omega,h2⟩
   ·obtain ⟨v,hv,rfl⟩:=List.mem_map.1 h
    rw [List.mem_range] at hv
    exact ⟨n,by omega,v,by omega,rfl⟩
  ·rintro ⟨j,h1,v,h2,h3⟩
   by_cases e:j=n
   ·subst e; right; exact List.mem_map.2 ⟨v,List.mem_range.2 (by omega),h3.symm⟩
   ·exact .inl ⟨j,by omega,v,h2,h3⟩
theorem uA {m:Model} (hok:aX m=true) {r:Rule} (hv:cw m.sizes.length r.vars=true):∀n,n≤r.vars.length→(hM m r n).length≤4 * n
 | 0,_=>Nat.le_refl _
 | n+1,hn=>by
  have:=uA hok hv n (by omega)
  have:=(er hok (iC hv (n:=n) (by omega))).2
  rw [hM,List.length_append,List.length_map,List.length_range]
  omega
theorem tO {r:Rule} (hc:r.coefs.all jf=true) (hl:r.coefs.length=r.vars.length) {n:Nat} (hn:n<r.vars.length):idx r.coefs (n:Int)=some (r.coefs.getD n 0)∧-9≤r.coefs.getD n 0∧r.coefs.getD n 0≤9:=by
 have h1:n<r.coefs.length:=by omega
 have h2:=List.all_eq_true.1 hc r.coefs[n] (List.getElem_mem h1)
 unfold jf at h2
 simp at h2
 rw [iT h1,iA _ h1]
 exact ⟨rfl,by omega,by omega⟩
theorem qO {c:Int} {v:Nat} (h1:-9≤c) (h2:c≤9) (hv:v≤3):-27≤c * (v:Int)∧c * (v:Int)≤27:=prod_bound ⟨h1,h2⟩ ⟨by omega,by omega⟩
theorem tZ {m:Model} (hok:aX m=true) {r:Rule} (hv:cw m.sizes.length r.vars=true) (hc:r.coefs.all jf=true) (hl:r.coefs.length=r.vars.length) {n v:Nat} (hn:n<r.vars.length) (hvn:v≤cy m (fr r n)):kN (qp m r n v)∧0<(qp m r n v).lit:=by
 have h1:=iC hv hn
 have h2:=iJ hok h1 hvn
 have h3:=er hok h1
 obtain ⟨_,h4,h5⟩:=tO hc hl hn
 have h6:=qO h4 h5 (v:=v) (by omega)
 unfold qp kN cf
 simp only
 omega
theorem zx {m:Model} (hok:aX m=true) {r:Rule} (hv:cw m.sizes.length r.vars=true) (hc:r.coefs.all jf=true) (hl:r.coefs.length=r.vars.length):aw (dO m r) r.vars 0 []=some (.nx (hM m r r.vars.length)):=by
 have h5:=(bo hok).2.1
 have hlen:=gk hv
 exact dT (b:=dO m r) (fun n=>hM m r n) r.vars (fun n x hx=>by
  obtain ⟨e,e2,e3⟩:=je hv hx
  have hs:=er hok e2
  have hll:=uA hok hv n (by omega)
  obtain ⟨c1,c2,c3⟩:=tO hc hl e3
  have hk:jL 0 ((cy m (fr r n):Int)+1)=some (cy m (fr r n)+1):=by rw [oC (by omega) (by omega)]; congr 1
  have hin:=jo (b:=dI m r n (fr r n:Int)) (fun k=>hM m r n++(List.range k).map (qp m r n)) (cy m (fr r n)+1) 0 (fun k _ hk=>by
   have hm:=qO c2 c3 (v:=k) (by omega)
   rw [dI,c1,Option.bind_some,Ad hok e2 (by omega),Option.bind_some,aR (by omega) (by omega),bR (by simp; omega),List.range_succ,List.map_append,← List.append_assoc]; rfl)
  rw [dO,e,iT e2,Option.bind_some,hs.1,aR (by omega) (by omega),hk,Option.bind_some]
  have hin0:cI (dI m r n (fr r n:Int)) (cy m (fr r n)+1) 0 (hM m r n)=some (.nx (hM m r (n+1))):=by
   have h0:=hin
   simp only [List.range_zero,List.map_nil,List.append_nil,Nat.zero_add] at h0
   rw [h0]; rfl
  rw [hin0]; rfl)
theorem Bb {ts:List Term} {k:Int} (h:∀t ∈ ts,t.lit ≠ k∧t.lit ≠ -k):dC ts k=0:=mz _ fun t ht=>by
 unfold pA
 rw [if_neg (h t ht).1,if_neg (h t ht).2]
theorem zA (fu:Nat) (hf:FU≤fu) {m:Model} (hok:aX m=true) {r:Rule} (hv:cw m.sizes.length r.vars=true) (hc:r.coefs.all jf=true) (hl:r.coefs.length=r.vars.length):aw (iR fu m r) r.vars 0 (jY [])=some (.nx (jY (hM m r r.vars.length))):=by
 have hF:=hf
 unfold FU at hF
 have h5:=(bo hok).2.1
 have hlen:=gk hv
 exact dT (b:=iR fu m r) (fun n=>jY (hM m r n)) r.vars (fun n x hx=>by
  obtain ⟨e,e2,e3⟩:=je hv hx
  have hs:=er hok e2
  obtain ⟨c1,c2,c3⟩:=tO hc hl e3
  obtain ⟨j,hj,hQ⟩:=iN (b:=iM m r n (fr r n:Int)) (fun q (s:List Int × Int)=>∃ k:Nat,s.2=(k:Int)∧k+q=cy m (fr r n)+1∧s.1=jY (hM m r n++(List.range k).map (qp m r n)))
   (fun j=>∃ k,j=.nx (jY (hM m r (n+1)),k)) (fun q s ⟨k,hk,hq,hr⟩=>by
    obtain ⟨net,kk⟩:=s
    simp only at hk hr
    subst hk hr
    cases q with
    | zero =>
     have:k=cy m (fr r n)+1:=by omega
     subst this
     refine ⟨.brk (jY (hM m r n++(List.range (cy m (fr r n)+1)).map (qp m r n)),((cy m (fr r n)+1:Nat):Int)),by rw [iM,iT e2,Option.bind_some,hs.1,if_neg (by simp; omega)],((cy m (fr r n)+1:Nat):Int),rfl⟩
    | succ q =>
     have hkm:k≤cy m (fr r n):=by omega
     have hr:=iJ hok e2 hkm
     have hm:=qO c2 c3 (v:=k) (by omega)
     obtain ⟨hokl,hpos⟩:=tZ hok hv hc hl e3 hkm
     have hbn:∃ b:Nat,bF m (fr r n) k=(b:Int)∧b<13:=⟨(bF m (fr r n) k).toNat,by omega,by omega⟩
     obtain ⟨b,hb,hb13⟩:=hbn
     have hz:dC (hM m r n++(List.range k).map (qp m r n)) (b:Int)=0:=by
      refine Bb fun t ht=>?_
      have:t.lit ≠ (b:Int)∧0<t.lit:=by
       rcases List.mem_append.1 ht with ht | ht
       ·obtain ⟨j,j1,v,j2,rfl⟩:=(sk n).1 ht
        refine ⟨fun e4=>?_,(tZ hok hv hc hl (by omega) j2).2⟩
        have e5:=qm hok (iC hv (n:=j) (by omega)) e2 j2 hkm (by rw [hb]; exact e4)
        have:=sf hv (by omega) e3 e5.1
        omega
       ·obtain ⟨v,hv2,rfl⟩:=List.mem_map.1 ht
        rw [List.mem_range] at hv2
        refine ⟨fun e4=>?_,(tZ hok hv hc hl e3 (by omega)).2⟩
        have e5:=qm hok e2 e2 (by omega) hkm (v:=v) (by rw [hb]; exact e4)
        omega
      exact ⟨this.1,by omega⟩
     refine ⟨.cont (jY (hM m r n++(List.range (k+1)).map (qp m r n)),((k+1:Nat):Int)),?_,q,by omega,k+1,rfl,by omega,rfl⟩
     have hset:=xA (hM m r n++(List.range k).map (qp m r n)) (qp m r n k) hokl b (by unfold qp bn; simp only; omega) (r.coefs.getD n 0 * (k:Int)) (by rw [hz,if_pos hpos]; unfold qp; simp only; omega)
     rw [iM,iT e2,Option.bind_some,hs.1,if_pos (decide_eq_true (by omega)),zH hok e2 (by omega),Option.bind_some,c1,Option.bind_some,hb,cN,lL _ b hb13,Option.bind_some,aR (by omega) (by omega),aR (by omega) (by omega),Int.toNat_natCast,hset,List.range_succ,List.map_append,← List.append_assoc]
     rfl)
   fu (cy m (fr r n)+1) (jY (hM m r n),0) ⟨0,rfl,by omega,by simp⟩ (by omega)
  obtain ⟨k,rfl⟩:=hQ
  rw [iR,e,hj]; rfl)
def z7 (m:Model) (r:Rule):List Con:=[(px (hM m r r.vars.length) r.bound).1]
theorem tX {m:Model} (hok:aX m=true) {r:Rule} (hv:cw m.sizes.length r.vars=true) (hc:r.coefs.all jf=true) (hl:r.coefs.length=r.vars.length):(∀t ∈ hM m r r.vars.length,kN t∧0<t.lit)∧(hM m r r.vars.length).length≤20:=by
 have h5:=(bo hok).2.1
 have hlen:=gk hv
 refine ⟨fun t ht=>?_,by have:=uA hok hv r.vars.length (Nat.le_refl _); omega⟩
 obtain ⟨j,j1,v,j2,rfl⟩:=(sk _).1 ht
 exact tZ hok hv hc hl j1 j2
theorem wx {ts:List Term} (h:∀t ∈ ts,0<t.lit):qT ts=0:=mz _ fun t ht=>by
 have:=h t ht
 rw [if_neg (by omega)]
theorem Fv (fu:Nat) (hf:FU≤fu) {m:Model} (hok:aX m=true) {r:Rule} (hv:cw m.sizes.length r.vars=true) (hc:r.coefs.all jf=true) (hl:r.coefs.length=r.vars.length) (hb:-1000≤r.bound∧r.bound≤1000):mP fu m r=some (z7 m r):=by
 obtain ⟨h1,h2⟩:=tX hok hv hc hl
 unfold mP
 rw [EO,Option.bind_some,zA fu hf hok hv hc hl,Option.bind_some]
 simp only
 rw [E3 (fun t ht=>(h1 t ht).1) (by omega) r.bound (by omega),Option.bind_some]
 unfold z7 px
 rw [wx fun t ht=>(h1 t ht).2,Int.sub_zero]
theorem FG {m:Model} (hok:aX m=true) {r:Rule} (hv:cw m.sizes.length r.vars=true) (hc:r.coefs.all jf=true) (hl:r.coefs.length=r.vars.length) (hb:-1000≤r.bound∧r.bound≤1000):((mR (hM m r r.vars.length) r.bound).bind fun x102=>some [x102.1])=some (z7 m r):=by
 obtain ⟨h1,h2⟩:=tX hok hv hc hl
 rw [CY (fun t ht=>(h1 t ht).1) (by omega) r.bound (by omega),Option.bind_some]
 rfl
def cG (m:Model) (r:Rule):List Int:=r.vars.map fun x=>m.sizes.getD x.toNat 0
theorem e8 (m:Model) (r:Rule):(cG m r).length=r.vars.length:=by simp [cG]
theorem sX {m:Model} (hok:aX m=true) {r:Rule} (hv:cw m.sizes.length r.vars=true) {n:Nat} (hn:n<r.vars.length):(cG m r)[n]?=some (cy m (fr r n):Int):=by
 obtain ⟨e,e2,_⟩:=je hv (List.getElem?_eq_getElem hn)
 have hs:=er hok e2
 unfold cG
 rw [List.getElem?_map,List.getElem?_eq_getElem hn,Option.map_some]
 rw [show r.vars[n].toNat=fr r n by omega,iA _ e2,hs.1]
theorem nY {m:Model} (hok:aX m=true) {r:Rule} (hv:cw m.sizes.length r.vars=true):(cG m r).all fI=true:=by
 rw [List.all_eq_true]
 intro x hx
 obtain ⟨n,hn⟩:=List.getElem?_of_mem hx
 have hl:=(List.getElem?_eq_some_iff.1 hn).1
 rw [e8] at hl
 rw [sX hok hv hl] at hn
 injection hn with hn
 have:=(er hok (iC hv hl)).2
 rw [gG]; omega
theorem sY {m:Model} (hok:aX m=true) {r:Rule} (hv:cw m.sizes.length r.vars=true) {vs:List Int} (hf:fit (cG m r) vs) {n:Nat} (hn:n<r.vars.length):∃ v:Nat,vs[n]?=some (v:Int)∧vs.getD n 0=(v:Int)∧v≤cy m (fr r n):=by
 have hl:=fN hf
 rw [e8] at hl
 have h1:=(ny _ _).1 hf
 have hx:vs[n]?=some vs[n]:=List.getElem?_eq_getElem (by omega)
 have h2:=h1.2 n vs[n] hx
 rw [List.getD_eq_getElem?_getD,sX hok hv hn] at h2
 simp only [Option.getD_some] at h2
 refine ⟨vs[n].toNat,?_,?_,by omega⟩
 ·rw [hx]; congr 1; omega
 ·rw [iA _ (by omega)]; omega
def vV (m:Model) (r:Rule) (vs:List Int) (n:Nat):Int:=-(bF m (fr r n) (vs.getD n 0))
def oo (m:Model) (r:Rule) (vs:List Int) (n:Nat):List Int:=(List.range n).map (vV m r vs)
theorem vu (m:Model) (r:Rule) (vs:List Int) (n:Nat):oo m r vs (n+1)=oo m r vs n++[vV m r vs n]:=by
 unfold oo; rw [List.range_succ,List.map_append]; rfl
theorem nM {m:Model} (hok:aX m=true) {r:Rule} (hv:cw m.sizes.length r.vars=true) {vs:List Int} (hf:fit (cG m r) vs) {n:Nat} (hn:n<r.vars.length):∃ v:Nat,vs.getD n 0=(v:Int)∧v≤cy m (fr r n)∧vV m r vs n=-(bF m (fr r n) v)∧bn (vV m r vs n)=bF m (fr r n) v∧cf (vV m r vs n):=by
 obtain ⟨v,h1,h2,h3⟩:=sY hok hv hf hn
 have hr:=iJ hok (iC hv hn) h3
 refine ⟨v,h2,h3,by unfold vV; rw [h2],?_,?_⟩
 ·unfold vV bn; rw [h2]; omega
 ·unfold vV cf; rw [h2]; omega
theorem qy {m:Model} (hok:aX m=true) {r:Rule} (hv:cw m.sizes.length r.vars=true) {vs:List Int} (hf:fit (cG m r) vs):∀l ∈ oo m r vs r.vars.length,cf l:=by
 intro l hl
 obtain ⟨n,hn,rfl⟩:=List.mem_map.1 hl
 rw [List.mem_range] at hn
 obtain ⟨_,_,_,_,_,h⟩:=nM hok hv hf hn
 exact h
theorem qG {m:Model} (hok:aX m=true) {r:Rule} (hv:cw m.sizes.length r.vars=true) {vs:List Int} (hf:fit (cG m r) vs):dq (oo m r vs r.vars.length):=by
 unfold dq oo List.Nodup
 rw [List.map_map,List.pairwise_map]
 refine List.Pairwise.imp_of_mem ?_ List.pairwise_lt_range
 intro a b ha hb hab e
 rw [List.mem_range] at ha hb
 obtain ⟨v,_,h1,_,h2,_⟩:=nM hok hv hf ha
 obtain ⟨u,_,g1,_,g2,_⟩:=nM hok hv hf hb
 simp only [Function.comp] at e
 rw [h2,g2] at e
 have:=qm hok (iC hv ha) (iC hv hb) h1 g1 e
 have:=sf hv ha hb this.1
 omega
theorem qE (m:Model) (r:Rule) (vs:List Int) (n:Nat):(oo m r vs n).length=n:=by simp [oo]
def pq (m:Model) (r:Rule) (vs:List Int):List Con:=if eD r vs then [] else [lj (oo m r vs r.vars.length)]
def q9 (m:Model) (r:Rule) (css:List (List Int)):List Con:=css.flatMap (pq m r)
theorem wG (m:Model) (r:Rule):∀css:List (List Int),(q9 m r css).length≤css.length
 | []=>Nat.le_refl _
 | c :: css=>by
  have:=wG m r css
  unfold q9 at *
  rw [List.flatMap_cons,List.length_append,List.length_cons]
  have:(pq m r c).length≤1:=by unfold pq; split <;> simp
  omega
def mX (r:Rule):List Int:=List.replicate r.vars.length 0
theorem oV {m:Model} (hok:aX m=true) {r:Rule} (hv:cw m.sizes.length r.vars=true):fit (cG m r) (mX r):=by
 have:=(nP (cG m r) fun s hs=>(gG.1 (List.all_eq_true.1 (nY hok hv) s hs)).1).1
 rw [e8] at this
 exact this
def m8 (m:Model) (r:Rule):List Con:=q9 m r (mS (cG m r) (mX r))
theorem rr {m:Model} (hok:aX m=true) {r:Rule} (hv:cw m.sizes.length r.vars=true) {vs:List Int} (hf:fit (cG m r) vs):∀x ∈ vs,0≤x∧x≤3:=by
 intro x hx
 obtain ⟨n,hn⟩:=List.getElem?_of_mem hx
 have hl:=(List.getElem?_eq_some_iff.1 hn).1
 have hlen:=fN hf
 rw [e8] at hlen
 obtain ⟨v,h1,_,h3⟩:=sY hok hv hf (n:=n) (by omega)
 rw [h1] at hn
 injection hn with hn
 have:=(er hok (iC hv (n:=n) (by omega))).2
 omega
theorem uB {m:Model} (hok:aX m=true) {r:Rule} (hv:cw m.sizes.length r.vars=true):(m8 m r).length≤1024:=by
 have hl5:=(bo hok).2.1
 have hl:=gk hv
 have h1:=wG m r (mS (cG m r) (mX r))
 have h2:=zb _ rfl (oV hok hv)
 have h3:=mC (oV hok hv) (nY hok hv) (by rw [e8]; omega)
 unfold m8
 omega
theorem ES {m:Model} (hok:aX m=true) {r:Rule} (hv:cw m.sizes.length r.vars=true) {vs:List Int} (hf:fit (cG m r) vs):aw (dJ m vs) r.vars 0 []=some (.nx (oo m r vs r.vars.length)):=by
 have hl5:=(bo hok).2.1
 have hl:=gk hv
 exact dT (b:=dJ m vs) (fun n=>oo m r vs n) r.vars (fun n x hx=>by
  obtain ⟨e,e2,e3⟩:=je hv hx
  obtain ⟨v,h1,h2,h3⟩:=sY hok hv hf e3
  obtain ⟨u,h4,h5,h6,h7,h8⟩:=nM hok hv hf e3
  have huv:u=v:=by omega
  subst huv
  have hs:=er hok e2
  rw [dJ,cN,h1,Option.bind_some,e,Ad hok e2 (by omega),Option.bind_some,aR (by have:=h8.2.1; omega) (by have:=h8.2.2; omega),bR (by rw [qE]; simp; omega),vu,h6]; rfl)
theorem E2 (fu:Nat) (hfu:FU≤fu) {m:Model} (hok:aX m=true) {r:Rule} (hr:iE m.sizes.length r=true):eU fu m r (cG m r) (mX r)=some (m8 m r):=by
 have hF:=hfu
 unfold FU at hF
 have hv:=(fc hr).1
 have hl5:=(bo hok).2.1
 have hl:=gk hv
 have hz:=oV hok hv
 have ha:=nY hok hv
 have hfl:=uB hok hv
 unfold eU
 rw [wR _ (by simp [mX]; omega),Option.bind_some]
 obtain ⟨j,hj,hQ⟩:=iN (b:=dK fu m r (cG m r)) (fun k s=>fit (cG m r) s.1∧k=rem (cG m r) s.1∧s.2++q9 m r (mS (cG m r) s.1)=m8 m r)
  (fun j=>j=.out (m8 m r))
  (by
   rintro k ⟨cs,out⟩ ⟨hf,rfl,ht⟩
   simp only at hf ht
   have hlen:=fN hf
   rw [e8] at hlen
   have hout:out.length≤1024:=by rw [← ht] at hfl; simp at hfl; omega
   have hhold:=yR m.sizes.length r cs hlen (by omega) (rr hok hv hf) hr
   obtain ⟨j,hjl,hw,hj0,hjs⟩:=CQ (cG m r) cs hf (by omega) fu hfu (b:=fP (cG m r)) (fun _ _=>rfl)
   have hi8:gx fu m r cs out=some (true,out++pq m r cs):=by
    unfold gx pq
    rw [hhold,Option.bind_some]
    cases eD r cs with
    | true=>simp
    | false =>
     rw [if_pos (show (!false)=true from rfl),ES hok hv hf,Option.bind_some]
     simp only
     rw [uT fu hfu _ (qy hok hv hf) (qG hok hv hf) (by rw [qE]; omega),Option.bind_some,bR (by simp; omega)]
     rfl
   have hbody:dK fu m r (cG m r) (cs,out)=(if decide (((j:Int) - 1)<0) then (some (.out (out++pq m r cs))) else ((idx (e9 cs j) ((j:Int) - 1)).bind fun x=>some (.cont (((e9 cs j).set (Int.toNat ((j:Int) - 1)) (i64 (x+1))),out++pq m r cs)))):=by
    rw [dK,hi8,Option.bind_some]
    simp only [if_true]
    rw [hw,Option.bind_some]
   rw [hbody]
   cases j with
   | zero =>
    refine ⟨_,by rw [if_pos (by simp)],?_⟩
    show Jn.out _=_
    rw [my hf (hj0 rfl)] at ht
    unfold q9 at ht
    rw [List.flatMap_singleton] at ht
    rw [ht]
   | succ k =>
    obtain ⟨hk,hnx⟩:=hjs k rfl
    obtain ⟨hft,hrt⟩:=jQ hf hnx
    have hb:=uf hf hk
    have h3:=rr hok hv hf cs[k] (List.getElem_mem hk)
    have e:(((k+1:Nat):Int) - 1)=(k:Int):=by omega
    rw [e,if_neg (by simp),cN,qL cs k hk,Option.bind_some,aR (by omega) (by omega),Int.toNat_natCast]
    refine ⟨_,rfl,rem (cG m r) ((e9 cs (k+1)).set k (cs[k]+1)),?_,hft,rfl,?_⟩
    ·show _<rem (cG m r) cs
     omega
    ·rw [lp hf hnx] at ht
     unfold q9 at ht ⊢
     rw [List.flatMap_cons,← List.append_assoc] at ht
     exact ht)
  fu (rem (cG m r) (mX r)) (mX r,[]) ⟨hz,rfl,rfl⟩ (by have:=mC hz ha (by rw [e8]; omega); omega)
 rw [hj,hQ]
 rfl
def kq (m:Model) (r:Rule) (vs:List Int):Nat→List Int
 | 0=>List.replicate m.sizes.length 0
 | n+1=>(kq m r vs n).set (fr r n) (vs.getD n 0)
theorem oI (m:Model) (r:Rule) (vs:List Int):∀n,(kq m r vs n).length=m.sizes.length
 | 0=>by simp [kq]
 | n+1=>by rw [kq,List.length_set,oI m r vs n]
theorem wL {m:Model} (hok:aX m=true) {r:Rule} (hv:cw m.sizes.length r.vars=true) {vs:List Int} (hf:fit (cG m r) vs):∀n,n≤r.vars.length→cellsIn m (kq m r vs n)=true
 | 0,_=>by
  rw [jm]
  refine ⟨by simp [kq],fun i x hx=>?_⟩
  unfold kq at hx
  have hi:=(List.getElem?_eq_some_iff.1 hx).1
  rw [List.length_replicate] at hi
  rw [List.getElem?_replicate_of_lt hi] at hx
  injection hx with hx
  have:=er hok hi
  rw [iA _ hi]
  omega
 | n+1,hn=>by
  have ih:=jm.1 (wL hok hv hf n (by omega))
  rw [jm]
  refine ⟨by rw [oI],fun i x hx=>?_⟩
  rw [kq,List.getElem?_set] at hx
  split at hx
  ·rename_i e
   subst e
   split at hx
   ·injection hx with hx
    obtain ⟨v,_,h2,h3⟩:=sY hok hv hf (n:=n) (by omega)
    have h4:=iC hv (n:=n) (by omega)
    have h5:=er hok h4
    rw [iA _ h4]
    omega
   ·cases hx
  ·exact ih.2 i x hx
theorem uD {m:Model} {r:Rule} (hv:cw m.sizes.length r.vars=true) (vs:List Int):∀n,n≤r.vars.length→∀j,j<n→(kq m r vs n).getD (fr r j) 0=vs.getD j 0
 | 0,_,j,h=>by omega
 | n+1,hn,j,h=>by
  have hl:=iC hv (n:=n) (by omega)
  rw [kq,List.getD_eq_getElem?_getD,List.getElem?_set]
  by_cases e:j=n
  ·subst e
   rw [if_pos rfl,if_pos (by rw [oI]; exact hl)]; rfl
  ·rw [if_neg (fun h'=>e (sf hv (by omega) (by omega) h'.symm)),← List.getD_eq_getElem?_getD]
   exact uD hv vs n (by omega) j (by omega)
theorem Da {m:Model} (hok:aX m=true) {r:Rule} (hv:cw m.sizes.length r.vars=true) {vs:List Int} (hf:fit (cG m r) vs):cW r (kq m r vs r.vars.length)=vs:=by
 have hlen:=fN hf
 rw [e8] at hlen
 apply List.ext_getElem (by simp [cW]; omega)
 intro n h1 h2
 have hn:n<r.vars.length:=by omega
 obtain ⟨e,_,_⟩:=je hv (List.getElem?_eq_getElem hn)
 have e0:(cW r (kq m r vs r.vars.length))[n]=(kq m r vs r.vars.length).getD r.vars[n].toNat 0:=by simp [cW]
 rw [e0,show r.vars[n].toNat=fr r n by omega,uD hv vs _ (Nat.le_refl _) n hn,iA _ h2]
theorem Cl (fu:Nat) (hfu:FU≤fu) {m:Model} (hs:kS m) (hok:aX m=true) {r:Rule} (hm:r ∈ m.rules):mO fu m r=some (m8 m r):=by
 have hF:=hfu
 unfold FU at hF
 have hr:=ju hok hm
 have hv:=(fc hr).1
 obtain ⟨h1,hl5,hall,_⟩:=bo hok
 have hl:=gk hv
 have hz:=oV hok hv
 have ha:=nY hok hv
 have hfl:=uB hok hv
 unfold mO
 rw [iI (b:=kh m) (fun x=>m.sizes.getD x.toNat 0) r.vars fun i x out hx ho=>by
  have hi:=(List.getElem?_eq_some_iff.1 hx).1
  obtain ⟨e,e2,_⟩:=je hv hx
  rw [kh,e,iT e2,Option.bind_some,bR (by simp; omega),Int.toNat_natCast,iA _ e2]; rfl,Option.bind_some]
 simp only
 rw [pn _ (by omega),Option.bind_some]
 have hrem:=mC hz ha (by rw [e8]; omega)
 obtain ⟨j,hj,hQ⟩:=iN (b:=fQ fu m r (cG m r)) (fun k s=>(s.2.2=true∧fit (cG m r) s.2.1∧k=rem (cG m r) s.2.1+1∧s.1++q9 m r (mS (cG m r) s.2.1)=m8 m r) ∨ (s.2.2=false∧s.1=m8 m r))
  (fun j=>∃ a b,j=.nx (m8 m r,a,b))
  (by
   rintro k ⟨out,cs,more⟩ h
   rcases h with ⟨hmore,hf,hk,ht⟩ | ⟨hmore,ht⟩
   ·simp only at hmore hf hk ht
    subst hmore hk
    have hlen:=fN hf
    rw [e8] at hlen
    have hout:out.length≤1024:=by rw [← ht] at hfl; simp at hfl; omega
    have hin:=dT (b:=iQ m r) (fun n=>(kq m r cs n,oo m r cs n)) cs (fun n x hx=>by
     have hn:n<r.vars.length:=by rw [← hlen]; exact (List.getElem?_eq_some_iff.1 hx).1
     obtain ⟨e,e2,_⟩:=je hv (List.getElem?_eq_getElem hn)
     obtain ⟨v,g1,g2,g3⟩:=sY hok hv hf hn
     obtain ⟨u,g4,g5,g6,g7,g8⟩:=nM hok hv hf hn
     have huv:u=v:=by omega
     subst huv
     rw [g1] at hx
     injection hx with hx
     subst hx
     have hsz:=er hok e2
     rw [iQ,iT hn,Option.bind_some,e,cN,List.getElem?_eq_getElem (by rw [oI]; exact e2),Option.bind_some,zH hok e2 (by omega),Option.bind_some,aR (by have:=g8.2.1; omega) (by have:=g8.2.2; omega),bR (by rw [qE]; simp; omega),vu,g6,kq,g2,Int.toNat_natCast]; rfl)
    rw [hlen] at hin
    have hhold:=D7 hs hl5 hall (wL hok hv hf _ (Nat.le_refl _)) r hm hr
    rw [Da hok hv hf] at hhold
    have hnext:=Fc ({ sizes:=cG m r,rules:=[] }:Model) cs hf (by omega) ha fu hfu
    have hbody:fQ fu m r (cG m r) (out,cs,true)=some (.cont (out++pq m r cs,(match dX (cG m r) cs with | some c=>(c,true) | none=>(List.replicate cs.length 0,false)))):=by
     rw [fQ,if_pos rfl,pn _ (by omega),Option.bind_some]
     rw [show aw (iQ m r) cs 0 (List.replicate m.sizes.length 0,[])=_ from hin,Option.bind_some]
     simp only
     rw [hhold,Option.bind_some,hnext]
     unfold pq
     cases eD r cs with
     | true =>
      simp only [Bool.not_true,Bool.false_eq_true,if_false,if_true,Option.bind_some,List.append_nil]
      all_goals (cases dX (cG m r) cs <;> rfl)
     | false =>
      rw [if_pos (show (!false)=true from rfl),wI (qy hok hv hf) (qG hok hv hf) (by rw [qE]; omega),Option.bind_some,bR (by simp; omega)]
      simp only [Option.bind_some,Bool.false_eq_true,if_false]
      all_goals (cases dX (cG m r) cs <;> rfl)
    refine ⟨_,hbody,?_⟩
    cases hn:dX (cG m r) cs with
    | none =>
     refine ⟨0,by omega,.inr ⟨rfl,?_⟩⟩
     rw [my hf hn] at ht
     unfold q9 at ht
     rw [List.flatMap_singleton] at ht
     exact ht
    | some c =>
     obtain ⟨hft,hrt⟩:=jQ hf hn
     refine ⟨rem (cG m r) c+1,by omega,.inl ⟨rfl,hft,rfl,?_⟩⟩
     rw [lp hf hn] at ht
     unfold q9 at ht ⊢
     rw [List.flatMap_cons,← List.append_assoc] at ht
     exact ht
   ·simp only at hmore ht
    subst hmore ht
    refine ⟨.brk (m8 m r,cs,false),by rw [fQ,if_neg (by simp)],_,_,rfl⟩)
  fu (rem (cG m r) (mX r)+1) ([],mX r,true) (.inl ⟨rfl,hz,rfl,rfl⟩) (by omega)
 have hj':bx (fQ fu m r (List.map (fun x=>m.sizes.getD x.toNat 0) r.vars)) fu ([],List.replicate r.vars.length 0,true)=some j:=hj
 rw [hj']
 obtain ⟨a,b,rfl⟩:=hQ
 rfl
def pr (m:Model) (r:Rule):List Con:=if r.kind=1 then z7 m r else if r.kind=2 then ma m r 4 else m8 m r
theorem Dy (fu:Nat) (hf:FU≤fu) {m:Model} (hs:kS m) (hok:aX m=true) {r:Rule} (hm:r ∈ m.rules):pO fu m r=some (pr m r):=by
 have hr:=ju hok hm
 obtain ⟨hv,_,hk⟩:=fc hr
 unfold pO pr
 rcases hk with ⟨hk,hc1,hc2,hb1,hb2⟩ | hk | ⟨hk,_⟩ | ⟨hk,_⟩
 ·rw [hk,if_pos rfl,if_pos (show ((1:Int) == 1)=true from rfl),Fv fu hf hok hv hc1 hc2 ⟨hb1,hb2⟩]; rfl
 ·rw [hk,if_neg (by decide),if_pos (by decide),if_neg (by decide),if_pos rfl,E0 fu hf hok hv]; rfl
 ·rw [hk,if_neg (by decide),if_neg (by decide),if_neg (by decide),if_neg (by decide),Cl fu hf hs hok hm]; rfl
 ·rw [hk,if_neg (by decide),if_neg (by decide),if_neg (by decide),if_neg (by decide),Cl fu hf hs hok hm]; rfl
theorem Dt (fu:Nat) (hf:FU≤fu) {m:Model} (hok:aX m=true) {r:Rule} (hm:r ∈ m.rules):gp fu m r=some (pr m r):=by
 have hr:=ju hok hm
 obtain ⟨hv,_,hk⟩:=fc hr
 have hl5:=(bo hok).2.1
 have hl:=gk hv
 have hforb:(((aw (dH m) r.vars 0 ([])):Option (Jn (List Int) (List Con))).bind fun j=>match j with | .nx sizes_251=>((wi (sizes_251.length:Int) 0).bind fun x286=>(eU fu m r sizes_251 x286).bind fun g11_0_290=>some g11_0_290) | .out t=>some t)=some (m8 m r):=by
  rw [iI (b:=dH m) (fun x=>m.sizes.getD x.toNat 0) r.vars fun i x out hx ho=>by
   have hi:=(List.getElem?_eq_some_iff.1 hx).1
   obtain ⟨e,e2,_⟩:=je hv hx
   rw [dH,e,iT e2,Option.bind_some,bR (by simp; omega),Int.toNat_natCast,iA _ e2]; rfl,Option.bind_some]
  simp only
  rw [pn _ (by simp; omega),Option.bind_some]
  have:=E2 fu hf hok hr
  unfold cG mX at this
  rw [List.length_map,this]; rfl
 unfold gp pr
 rcases hk with ⟨hk,hc1,hc2,hb1,hb2⟩ | hk | ⟨hk,_⟩ | ⟨hk,_⟩
 ·rw [hk,if_pos rfl,if_pos (show ((1:Int) == 1)=true from rfl),zx hok hv hc1 hc2,Option.bind_some]
  exact FG hok hv hc1 hc2 ⟨hb1,hb2⟩
 ·rw [hk,if_neg (by decide),if_pos (by decide),if_neg (by decide),if_pos rfl,show jL 0 4=some 4 from mH (n:=4) (by omega),Option.bind_some,E6 fu hf hok hv]; rfl
 ·rw [hk,if_neg (by decide),if_neg (by decide),if_neg (by decide),if_neg (by decide)]; exact hforb
 ·rw [hk,if_neg (by decide),if_neg (by decide),if_neg (by decide),if_neg (by decide)]; exact hforb
theorem sL {m:Model} (hok:aX m=true) {r:Rule} (hm:r ∈ m.rules):(pr m r).length≤1024:=by
 have hv:=(fc (ju hok hm)).1
 unfold pr
 split
 ·simp [z7]
 ·split
  ·have:=qI m r 4; omega
  ·exact uB hok hv
def lh (m:Model) (n:Nat):List Con:=(m.rules.take n).flatMap (pr m)
theorem pN {m:Model} {n:Nat} {r:Rule} (hr:m.rules[n]?=some r):lh m (n+1)=lh m n++pr m r:=by
 unfold lh
 rw [lv hr,List.flatMap_append,List.flatMap_singleton]
theorem rE {m:Model} (hok:aX m=true):∀n,n≤m.rules.length→(lh m n).length≤1024 * n
 | 0,_=>by simp [lh]
 | n+1,hn=>by
  have:=rE hok n (by omega)
  have hr:m.rules[n]?=some m.rules[n]:=List.getElem?_eq_getElem (by omega)
  have:=sL hok (List.mem_of_getElem? hr)
  rw [pN hr,List.length_append]; omega
def mb (m:Model):List Con:=iD m m.sizes.length++lh m m.rules.length
def ze (m:Model):List Con × Bool:=if aX m then (if (mb m).length > 400 then ([],false) else (mb m,true)) else ([],false)
theorem Fu (fu:Nat) (hf:FU≤fu) {m:Model} (hs:kS m):kc fu m=some (ze m):=by
 unfold kc ze
 rw [Dv m hs fu hf,Option.bind_some]
 cases hok:aX m with
 | false=>rfl
 | true =>
  obtain ⟨h1,hl5,_,h8,_⟩:=bo hok
  have hcl:=m9 m m.sizes.length
  have hru:=dT (b:=fU fu m) (fun n=>iD m m.sizes.length++lh m n) m.rules (fun n r hr=>by
   have hn:=(List.getElem?_eq_some_iff.1 hr).1
   have hm:=List.mem_of_getElem? hr
   have l1:=rE hok n (by omega)
   have l2:=sL hok hm
   rw [fU,Dy fu hf hs hok hm,Option.bind_some,bR (by simp; omega),pN hr,List.append_assoc]; rfl)
  rw [if_neg (by simp),CG hok,Option.bind_some]
  simp only
  have hru0:aw (fU fu m) m.rules 0 (iD m m.sizes.length)=some (.nx (mb m)):=by
   rw [show iD m m.sizes.length=iD m m.sizes.length++lh m 0 by simp [lh],hru]; rfl
  rw [hru0,Option.bind_some]
  simp only [if_true]
  by_cases h:(mb m).length > 400
  ·rw [if_pos (decide_eq_true (by omega)),if_pos h]
  ·rw [if_neg (by simp; omega),if_neg h]
theorem FD (fu:Nat) (hf:FU≤fu) {m:Model} (hs:kS m):kf fu m=some (ze m):=by
 unfold kf ze
 rw [uc m hs,Option.bind_some]
 cases hok:aX m with
 | false=>rfl
 | true =>
  obtain ⟨h1,hl5,_,h8,_⟩:=bo hok
  have hcl:=m9 m m.sizes.length
  have hru:=dT (b:=ga fu m) (fun n=>iD m m.sizes.length++lh m n) m.rules (fun n r hr=>by
   have hn:=(List.getElem?_eq_some_iff.1 hr).1
   have hm:=List.mem_of_getElem? hr
   have l1:=rE hok n (by omega)
   have l2:=sL hok hm
   rw [ga,Dt fu hf hok hm,Option.bind_some,bR (by simp; omega),pN hr,List.append_assoc]; rfl)
  rw [if_neg (by simp),CP fu hf hok,Option.bind_some]
  simp only
  have hru0:aw (ga fu m) m.rules 0 (iD m m.sizes.length)=some (.nx (mb m)):=by
   rw [show iD m m.sizes.length=iD m m.sizes.length++lh m 0 by simp [lh],hru]; rfl
  rw [hru0,Option.bind_some]
  simp only [if_true]
  by_cases h:(mb m).length > 400
  ·rw [if_pos (decide_eq_true (by omega)),if_pos h]
  ·rw [if_neg (by simp; omega),if_neg h]
theorem wW (v:List Bool) {x:Int} (h:1≤x):cO v x=v.getD (x - 1).toNat false:=by unfold cO; rw [if_pos (by omega)]
theorem zl (v:List Bool):∀(vs:List Int),(∀x ∈ vs,1≤x∧x≤12)→eH v (vs.map fun x=>(⟨1,-x⟩:Term))+((vs.countP (cO v):Nat):Int)=vs.length
 | [],_=>rfl
 | x :: vs,h=>by
  have ih:=zl v vs fun y hy=>h y (by simp [hy])
  have hx:=h x (by simp)
  rw [List.map_cons,List.countP_cons,List.length_cons]
  unfold eH at *
  rw [df]
  simp only [qz v (show x ≠ 0 by omega)]
  cases cO v x <;> simp <;> omega
theorem we {v:List Bool} {vs:List Int} (h:∀x ∈ vs,1≤x∧x≤12):fJ (sB vs) v=decide (vs.countP (cO v)≤1):=by
 have:=zl v vs h
 unfold fJ sB
 simp only
 rw [Bool.eq_iff_iff,decide_eq_true_eq,decide_eq_true_eq]
 omega
theorem yb {v:List Bool} {vs:List Int} (h:∀x ∈ vs,1≤x∧x≤12) (hn:vs.Nodup):fJ (lj vs) v=decide (0<vs.countP (cO v)):=by
 rw [vx (jq (tU h) (ub h hn)),Bool.eq_iff_iff,List.any_eq_true,decide_eq_true_eq,List.countP_pos_iff]
theorem yg (m:Model) (hok:aX m=true) (v:List Bool) {i:Nat} (hi:i<m.sizes.length):(ot m i).countP (cO v)=(List.range (cy m i+1)).countP (pz m v i):=by
 unfold ot
 rw [List.countP_map]
 apply List.countP_congr
 intro k hk
 rw [List.mem_range] at hk
 have:=iJ hok hi (v:=k) (by omega)
 simp only [Function.comp]
 rw [wW v this.1]
 rfl
theorem td (m:Model) (v:List Bool) (i:Nat):(jS m v i).length=(List.range (cy m i+1)).countP (pz m v i):=by
 unfold jS rH cy
 rw [List.length_map,List.countP_eq_length_filter]
theorem C4 {m:Model} (hok:aX m=true) (v:List Bool) {i:Nat} (hi:i<m.sizes.length):gq (vm m i) v=decide ((jS m v i).length=1):=by
 have hp:=qJ hok hi
 unfold gq vm
 rw [List.all_cons,List.all_cons,List.all_nil,Bool.and_true,yb hp (sj (kX m i)),we hp,yg m hok v hi,td]
 rw [Bool.eq_iff_iff,Bool.and_eq_true,decide_eq_true_eq,decide_eq_true_eq,decide_eq_true_eq]
 omega
theorem qg (a b:List Con) (v:List Bool):gq (a++b) v=(gq a v && gq b v):=by unfold gq; rw [List.all_append]
theorem sG {m:Model} (hok:aX m=true) (v:List Bool):∀n,n≤m.sizes.length→(gq (iD m n) v=true ↔ ∀i,i<n→(jS m v i).length=1)
 | 0,_=>⟨fun _ i h=>by omega,fun _=>rfl⟩
 | n+1,hn=>by
  rw [ng,qg,Bool.and_eq_true,sG hok v n (by omega),C4 hok v (by omega),decide_eq_true_eq]
  constructor
  ·rintro ⟨h1,h2⟩ i hi
   by_cases e:i=n
   ·subst e; exact h2
   ·exact h1 i (by omega)
  ·intro h
   exact ⟨fun i hi=>h i (by omega),h n (by omega)⟩
structure Enc (m:Model) (v:List Bool) (cells:List Int):Prop where
 len:v.length=12
 fits:fit m.sizes cells
 on:∀i,i<m.sizes.length→∀k:Nat,k≤cy m i→(pz m v i k=true ↔ cells.getD i 0=(k:Int))
theorem zQ {m:Model} {cells:List Int} (hok:aX m=true) (hf:fit m.sizes cells) {i:Nat} (hi:i<m.sizes.length):∃ c:Nat,cells.getD i 0=(c:Int)∧c≤cy m i∧cells[i]?=some (c:Int):=by
 have hl:=fN hf
 have h1:=((ny _ _).1 hf).2 i cells[i] (List.getElem?_eq_getElem (by omega))
 have hs:=er hok hi
 rw [iA _ hi] at h1
 rw [iA _ (by omega),List.getElem?_eq_getElem (by omega)]
 exact ⟨cells[i].toNat,by omega,by omega,by congr 1; omega⟩
theorem wu {p:Nat→Bool} {c:Nat}:∀n,c<n→(∀k,k<n→(p k=true ↔ k=c))→(List.range n).countP p=1
 | 0,h,_=>by omega
 | n+1,h,hp=>by
  rw [List.range_succ,List.countP_append,List.countP_singleton]
  by_cases e:c=n
  ·subst e
   have:(List.range c).countP p=0:=by
    rw [List.countP_eq_zero]
    intro k hk
    rw [List.mem_range] at hk
    rw [hp k (by omega)]; omega
   rw [this,if_pos ((hp c (by omega)).2 rfl)]
  ·rw [wu n (by omega) fun k hk=>hp k (by omega),if_neg (by rw [hp n (by omega)]; omega)]
theorem Enc.cell {m:Model} (hok:aX m=true) {v:List Bool} {cells:List Int} (h:Enc m v cells):∀i,i<m.sizes.length→(jS m v i).length=1:=by
 intro i hi
 obtain ⟨c,h1,h2,_⟩:=zQ hok h.fits hi
 rw [td]
 exact wu (c:=c) _ (by omega) fun k hk=>by rw [h.on i hi k (by omega),h1]; omega
theorem rU (m:Model) (v:List Bool):∀(k c:Nat) (out:List Int),(∀i,c≤i→i<c+k→(jS m v i).length=1)→(ft m v k c out).2=true
 | 0,c,out,_=>rfl
 | k+1,c,out,h=>by
  rw [ft,if_pos (h c (by omega) (by omega))]
  exact rU m v k (c+1) _ fun i h1 h2=>h i (by omega) (by omega)
theorem zB {m:Model} (hok:aX m=true) {v:List Bool} (hv:v.length=12):(decode m v).2=true ↔ ∀i,i<m.sizes.length→(jS m v i).length=1:=by
 unfold decode
 rw [hok,hv]
 simp only [show (((12:Nat):Int) == 12)=true from rfl,Bool.and_self,if_true]
 constructor
 ·intro h i hi
  exact (oE m v m.sizes.length 0 [] h).1 i (by omega) (by omega)
 ·intro h
  exact rU m v m.sizes.length 0 [] fun i _ hi=>h i (by omega)
theorem rC {m:Model} (hok:aX m=true) {v:List Bool} (hv:v.length=12) (h:(decode m v).2=true):Enc m v (decode m v).1:=by
 have hd:decode m v=ft m v m.sizes.length 0 []:=by
  unfold decode
  rw [hok,hv]; rfl
 rw [hd] at h ⊢
 obtain ⟨h1,h2,_,h4⟩:=oE m v m.sizes.length 0 [] h
 have key:∀i,i<m.sizes.length→∃ c:Nat,c≤cy m i∧(ft m v m.sizes.length 0 []).1[i]?=some (c:Int)∧∀k:Nat,k≤cy m i→(pz m v i k=true ↔ k=c):=by
  intro i hi
  have g1:=h1 i (by omega) (by omega)
  have g2:=h4 i (by omega) (by omega)
  simp only [List.length_nil,Nat.zero_add,Nat.sub_zero] at g2
  obtain ⟨x,hx⟩:=List.length_eq_one_iff.1 g1
  rw [hx] at g2
  have hm:∀y,y ∈ jS m v i ↔ ∃ k:Nat,k<cy m i+1∧pz m v i k=true∧(k:Int)=y:=fun y=>BX
  obtain ⟨c,c1,c2,c3⟩:=(hm x).1 (by rw [hx]; simp)
  refine ⟨c,by omega,by rw [g2,c3]; rfl,fun k hk=>⟨fun hon=>?_,fun e=>by rw [e]; exact c2⟩⟩
  have:=(hm (k:Int)).2 ⟨k,by omega,hon,rfl⟩
  rw [hx,List.mem_singleton] at this
  omega
 have hlen:(ft m v m.sizes.length 0 []).1.length=m.sizes.length:=by simpa using h2
 refine ⟨hv,(ny _ _).2 ⟨hlen,fun i x hx=>?_⟩,fun i hi k hk=>?_⟩
 ·have hi:i<m.sizes.length:=by rw [← hlen]; exact (List.getElem?_eq_some_iff.1 hx).1
  obtain ⟨c,c1,c2,_⟩:=key i hi
  rw [c2] at hx
  injection hx with hx
  have:=er hok hi
  rw [iA _ hi]; omega
 ·obtain ⟨c,c1,c2,c3⟩:=key i hi
  rw [c3 k hk,List.getD_eq_getElem?_getD,c2,Option.getD_some]
  omega
theorem Ap {m:Model} (hok:aX m=true) {cells:List Int} (hf:fit m.sizes cells):Enc m (yY m cells cells.length) cells:=by
 have hl:=fN hf
 refine ⟨uN m cells _,hf,fun i hi k hk=>?_⟩
 have hr:=iJ hok hi hk
 unfold pz
 rw [zu m cells _ (by omega)]
 constructor
 ·rintro ⟨j,hj,e⟩
  obtain ⟨c,c1,c2,_⟩:=zQ hok hf (i:=j) (by omega)
  have hr2:=iJ hok (i:=j) (by omega) c2
  rw [c1] at e
  have e2:bF m j c=bF m i k:=by omega
  obtain ⟨e3,e4⟩:=qm hok (by omega) hi c2 hk e2
  subst e3 e4
  exact c1
 ·intro e
  exact ⟨i,by omega,by rw [e]⟩
theorem ud {m:Model} (hok:aX m=true) {v:List Bool} {cells:List Int} (h:Enc m v cells) {r:Rule} (hv:cw m.sizes.length r.vars=true) {n:Nat} (hn:n<r.vars.length) :
  ∃ c:Nat,c≤cy m (fr r n)∧(cW r cells)[n]?=some (c:Int)∧(cW r cells).getD n 0=(c:Int)∧∀k:Nat,k≤cy m (fr r n)→cO v (bF m (fr r n) k)=decide (k=c):=by
 obtain ⟨e,e2,_⟩:=je hv (List.getElem?_eq_getElem hn)
 obtain ⟨c,c1,c2,c3⟩:=zQ hok h.fits e2
 have hget:(cW r cells)[n]?=some (c:Int):=by
  unfold cW
  rw [List.getElem?_map,List.getElem?_eq_getElem hn,Option.map_some,show r.vars[n].toNat=fr r n by omega,c1]
 refine ⟨c,c2,hget,by rw [List.getD_eq_getElem?_getD,hget]; rfl,fun k hk=>?_⟩
 have hr:=iJ hok e2 hk
 rw [wW v hr.1]
 have:=h.on _ e2 k hk
 unfold pz at this
 rw [Bool.eq_iff_iff,this,c1,decide_eq_true_eq]
 omega
theorem kr (r:Rule) (cells:List Int):(cW r cells).length=r.vars.length:=by simp [cW]
theorem uK {m:Model} (hok:aX m=true) {v:List Bool} {cells:List Int} (h:Enc m v cells) {r:Rule} (hv:cw m.sizes.length r.vars=true):fit (cG m r) (cW r cells):=by
 rw [ny]
 refine ⟨by rw [kr,e8],fun i x hx=>?_⟩
 have hi:i<r.vars.length:=by rw [← kr r cells]; exact (List.getElem?_eq_some_iff.1 hx).1
 obtain ⟨c,c1,c2,_⟩:=ud hok h hv hi
 rw [c2] at hx
 injection hx with hx
 rw [List.getD_eq_getElem?_getD,sX hok hv hi,Option.getD_some]
 omega
theorem AA:∀{ss as bs:List Int},fit ss as→fit ss bs→rem ss as=rem ss bs→as=bs
 | [],[],[],_,_,_=>rfl
 | s :: ss,a :: as,b :: bs,ha,hb,h=>by
  obtain ⟨⟨a0,a1⟩,a2⟩:=ha
  obtain ⟨⟨b0,b1⟩,b2⟩:=hb
  have l1:=uG a2
  have l2:=uG b2
  rw [rem,rem] at h
  have hp:=xa ss
  have e1:(s - a).toNat=(s - b).toNat:=by
   have h1:((s - a).toNat * ja ss+rem ss as) / ja ss=(s - a).toNat:=by
    rw [Nat.mul_comm,Nat.mul_add_div hp,Nat.div_eq_of_lt l1,Nat.add_zero]
   have h2:((s - b).toNat * ja ss+rem ss bs) / ja ss=(s - b).toNat:=by
    rw [Nat.mul_comm,Nat.mul_add_div hp,Nat.div_eq_of_lt l2,Nat.add_zero]
   rw [← h1,← h2,h]
  have e2:a=b:=by omega
  subst e2
  rw [AA a2 b2 (by omega)]
theorem yq:∀(d:Nat) {ss cs c:List Int},fit ss cs→fit ss c→rem ss c+d=rem ss cs→c ∈ mS ss cs
 | 0,ss,cs,c,h1,h2,h=>by
  have:=AA h2 h1 (by omega)
  subst this
  cases hn:dX ss c with
  | none=>rw [my h1 hn]; simp
  | some t=>rw [lp h1 hn]; simp
 | d+1,ss,cs,c,h1,h2,h=>by
  cases hn:dX ss cs with
  | none=>have:=qN h1 hn; omega
  | some t =>
   obtain ⟨ht,hrt⟩:=jQ h1 hn
   rw [lp h1 hn]
   exact List.mem_cons_of_mem _ (yq d ht h2 (by omega))
theorem wv:∀(k:Nat) {ss cs:List Int},rem ss cs=k→fit ss cs→∀c ∈ mS ss cs,fit ss c
 | k,ss,cs,hr,hf,c,hc=>by
  cases hn:dX ss cs with
  | none=>rw [my hf hn] at hc; simp at hc; subst hc; exact hf
  | some t =>
   obtain ⟨ht,hrt⟩:=jQ hf hn
   rw [lp hf hn] at hc
   rcases List.mem_cons.1 hc with rfl | h
   ·exact hf
   ·cases k with
    | zero=>omega
    | succ k=>exact wv k (by omega) ht c h
theorem yW {ss c:List Int} (h0:∀s ∈ ss,0≤s):c ∈ mS ss (List.replicate ss.length 0) ↔ fit ss c:=by
 obtain ⟨h1,h2⟩:=nP ss h0
 constructor
 ·exact wv _ rfl h1 c
 ·intro h
  have:=uG h
  exact yq (rem ss (List.replicate ss.length 0) - rem ss c) h1 h (by omega)
theorem all_zero {ss:List Int} (h:ss.all fI=true):∀s ∈ ss,0≤s:=fun s hs=>(gG.1 (List.all_eq_true.1 h s hs)).1
theorem sV {m:Model} (hok:aX m=true) {r:Rule} (hv:cw m.sizes.length r.vars=true) {c:List Int}:c ∈ mS (cG m r) (mX r) ↔ fit (cG m r) c:=by
 have:=yW (c:=c) (all_zero (nY hok hv))
 rw [e8] at this
 exact this
theorem y0 {m:Model} (hok:aX m=true) {v:List Bool} {cells:List Int} (h:Enc m v cells) {r:Rule} (hv:cw m.sizes.length r.vars=true) {vs:List Int} (hf:fit (cG m r) vs):fJ (lj (oo m r vs r.vars.length)) v=decide (vs ≠ cW r cells):=by
 rw [vx (jq (qy hok hv hf) (qG hok hv hf)),Bool.eq_iff_iff,List.any_eq_true,decide_eq_true_eq]
 have hl:=fN hf
 rw [e8] at hl
 have key:∀n,n<r.vars.length→(cO v (vV m r vs n)=true ↔ vs[n]? ≠ (cW r cells)[n]?):=by
  intro n hn
  obtain ⟨u,u1,u2,u3,_,u5⟩:=nM hok hv hf hn
  obtain ⟨w,w1,w2,w3⟩:=sY hok hv hf hn
  obtain ⟨c,c1,c2,_,c4⟩:=ud hok h hv hn
  have hr:=iJ hok (iC hv hn) u2
  rw [u3,qz v (by omega),c4 u u2,w1,c2]
  simp only [Bool.not_eq_true',decide_eq_false_iff_not,ne_eq,Option.some.injEq]
  omega
 constructor
 ·rintro ⟨l,hl',ht⟩ e
  obtain ⟨n,hn,rfl⟩:=List.mem_map.1 hl'
  rw [List.mem_range] at hn
  exact (key n hn).1 ht (by rw [e])
 ·intro hne
  apply Classical.byContradiction
  intro hno
  apply hne
  apply List.ext_getElem?
  intro n
  by_cases hn:n<r.vars.length
  ·apply Classical.byContradiction
   intro hd
   exact hno ⟨vV m r vs n,List.mem_map.2 ⟨n,List.mem_range.2 hn,rfl⟩,(key n hn).2 hd⟩
  ·rw [List.getElem?_eq_none (by omega),List.getElem?_eq_none (by rw [kr]; omega)]
theorem sS {α:Type} (f:α→List Con) (v:List Bool):∀xs:List α,gq (xs.flatMap f) v=xs.all fun x=>gq (f x) v
 | []=>rfl
 | x :: xs=>by rw [List.flatMap_cons,qg,sS f v xs,List.all_cons]
theorem ur {m:Model} (hok:aX m=true) {v:List Bool} {cells:List Int} (h:Enc m v cells) {r:Rule} (hv:cw m.sizes.length r.vars=true):gq (m8 m r) v=eD r (cW r cells):=by
 unfold m8 q9
 rw [sS,Bool.eq_iff_iff,List.all_eq_true]
 have hone:∀vs,fit (cG m r) vs→gq (pq m r vs) v=(eD r vs || decide (vs ≠ cW r cells)):=by
  intro vs hf
  unfold pq gq
  cases eD r vs with
  | true=>rfl
  | false=>simp only [Bool.false_eq_true,if_false,List.all_cons,List.all_nil,Bool.and_true,Bool.false_or]; exact y0 hok h hv hf
 constructor
 ·intro hall
  have hf:=uK hok h hv
  have:=hall _ ((sV hok hv).2 hf)
  rw [hone _ hf] at this
  simpa using this
 ·intro hr vs hvs
  rw [hone vs ((sV hok hv).1 hvs)]
  by_cases e:vs=cW r cells
  ·subst e; rw [hr]; rfl
  ·simp [e]
theorem vC {m:Model} (hok:aX m=true) {v:List Bool} {cells:List Int} (h:Enc m v cells) {r:Rule} (hv:cw m.sizes.length r.vars=true) (k:Nat):∀n,n≤r.vars.length→(fq m r k n).countP (cO v)=(((cW r cells).take n).filter (· == (k:Int))).length
 | 0,_=>by simp [fq]
 | n+1,hn=>by
  obtain ⟨c,c1,c2,_,c4⟩:=ud hok h hv (n:=n) (by omega)
  rw [fq,List.countP_append,vC hok h hv k n (by omega),lv c2,List.filter_append,List.length_append]
  congr 1
  by_cases hk:k≤cy m (fr r n)
  ·rw [if_pos hk,List.countP_singleton,c4 k hk,List.filter_cons,List.filter_nil]
   by_cases e:k=c
   ·subst e; simp
   ·have e2:¬ (c:Int)=(k:Int):=by omega
    simp [e,e2]
  ·have e2:¬ (c:Int)=(k:Int):=by omega
   rw [if_neg hk,List.filter_cons,List.filter_nil]
   simp [e2]
theorem pv:∀{xs:List Int},(∀y ∈ xs,(xs.filter (· == y)).length≤1)→xs.Nodup
 | [],_=>List.nodup_nil
 | x :: xs,h=>by
  rw [List.nodup_cons]
  constructor
  ·intro hx
   have:=h x (by simp)
   rw [List.filter_cons,if_pos (by simp),List.length_cons] at this
   have h2:0<(xs.filter (· == x)).length:=List.length_pos_of_mem (List.mem_filter.2 ⟨hx,by simp⟩)
   omega
  ·refine pv fun y hy=>?_
   have:=h y (by simp [hy])
   rw [List.filter_cons] at this
   split at this
   ·rw [List.length_cons] at this; omega
   ·exact this
theorem xe {m:Model} (hok:aX m=true) {v:List Bool} {r:Rule} (hv:cw m.sizes.length r.vars=true):∀n,gq (ma m r n) v=true ↔ ∀k,k<n→(fq m r k r.vars.length).countP (cO v)≤1
 | 0=>⟨fun _ k h=>by omega,fun _=>rfl⟩
 | n+1=>by
  have hp:=oL hok hv n
  rw [ma,qg,Bool.and_eq_true,xe hok hv n]
  have hone:gq (if 1<(fq m r n r.vars.length).length then [sB (pt (fq m r n r.vars.length))] else []) v=true ↔ (fq m r n r.vars.length).countP (cO v)≤1:=by
   split
   ·unfold gq
    rw [List.all_cons,List.all_nil,Bool.and_true,we (qD hp),decide_eq_true_eq,(jD _).countP_eq]
   ·have:=List.countP_le_length (p:=cO v) (l:=fq m r n r.vars.length)
    exact ⟨fun _=>by omega,fun _=>rfl⟩
  rw [hone]
  constructor
  ·rintro ⟨h1,h2⟩ k hk
   by_cases e:k=n
   ·subst e; exact h2
   ·exact h1 k (by omega)
  ·intro h
   exact ⟨fun k hk=>h k (by omega),h n (by omega)⟩
theorem z3 {m:Model} (hok:aX m=true) {v:List Bool} {cells:List Int} (h:Enc m v cells) {r:Rule} (hv:cw m.sizes.length r.vars=true):gq (ma m r 4) v=distinct (cW r cells):=by
 rw [Bool.eq_iff_iff,xe hok hv,mM]
 have hlen:=kr r cells
 have hc:∀k:Nat,(fq m r k r.vars.length).countP (cO v)=((cW r cells).filter (· == (k:Int))).length:=fun k=>by
  rw [vC hok h hv k _ (Nat.le_refl _),← hlen,List.take_length]
 constructor
 ·intro hall
  refine pv fun y hy=>?_
  have:=rr hok hv (uK hok h hv) y hy
  have:=hall y.toNat (by omega)
  rw [hc,show ((y.toNat:Nat):Int)=y by omega] at this
  exact this
 ·intro hn k _
  rw [hc]
  exact re hn _
theorem wg {f:Term→Int} (B:Int):∀(ts:List Term),(∀t ∈ ts,-B≤f t∧f t≤B)→-(B * (ts.length:Int))≤df f ts∧df f ts≤B * ts.length
 | [],_=>by simp [df]
 | t :: ts,h=>by
  have ih:=wg B ts fun u hu=>h u (by simp [hu])
  have ht:=h t (by simp)
  rw [df,List.length_cons]
  have e:B * ((ts.length+1:Nat):Int)=B * (ts.length:Int)+B:=by rw [Int.natCast_add,Int.mul_add]; simp
  rw [e]
  omega
theorem Dq {m:Model} (hok:aX m=true) {r:Rule} (hv:cw m.sizes.length r.vars=true) (hc:r.coefs.all jf=true) (hl:r.coefs.length=r.vars.length) (k:Int):-540≤dC (hM m r r.vars.length) k∧dC (hM m r r.vars.length) k≤540:=by
 obtain ⟨h1,h2⟩:=tX hok hv hc hl
 have:=wg (f:=pA k) 27 (hM m r r.vars.length) fun t ht=>by
  obtain ⟨j,j1,u,j2,rfl⟩:=(sk _).1 ht
  obtain ⟨_,c2,c3⟩:=tO hc hl j1
  have hs:=er hok (iC hv j1)
  have hm:=qO c2 c3 (v:=u) (by omega)
  unfold pA qp
  simp only
  split
  ·exact hm
  ·split <;> omega
 unfold dC
 omega
theorem xZ {f:Int→Int} (hf:∀k,-540≤f k∧f k≤540):∀n:Nat,n≤12→b6 0 (fR f n)=true∧∀t ∈ fR f n,bn t.lit≤(n:Int)
 | 0,_=>⟨rfl,by simp [fR]⟩
 | n+1,hn=>by
  obtain ⟨h1,h2⟩:=xZ hf n (by omega)
  have hb:=hf ((n+1:Nat):Int)
  have one:∀c l:Int,1≤c→c≤540→bn l=((n+1:Nat):Int)→b6 0 (fR f n++[⟨c,l⟩])=true∧∀t ∈ fR f n++[(⟨c,l⟩:Term)],bn t.lit≤((n+1:Nat):Int):=by
   intro c l hc1 hc2 hl
   have hok:mY ⟨c,l⟩=true:=by
    unfold bn at hl
    unfold mY
    simp
    omega
   refine ⟨nJ hok (n:=(n:Int)) (by simp only [hl]; omega) _ 0 h1 h2 (by omega),fun t ht=>?_⟩
   rcases List.mem_append.1 ht with ht | ht
   ·have:=h2 t ht; omega
   ·rw [List.mem_singleton] at ht; subst ht; simp only [hl]; omega
  rw [fR]
  unfold piece
  split
  ·exact one _ _ (by omega) (by omega) (by unfold bn; omega)
  ·split
   ·exact one _ _ (by omega) (by omega) (by unfold bn; omega)
   ·rw [List.append_nil]
    exact ⟨h1,fun t ht=>by have:=h2 t ht; omega⟩
theorem yV {f:Int→Int} (hf:∀k,-540≤f k∧f k≤540):∀n:Nat,-(540 * (n:Int))≤jT f n∧jT f n≤0
 | 0=>by simp [jT]
 | n+1=>by
  have h1:=yV hf n
  have h2:=hf ((n+1:Nat):Int)
  rw [jT]
  omega
theorem y7 {m:Model} (hok:aX m=true) {r:Rule} (hv:cw m.sizes.length r.vars=true) (hc:r.coefs.all jf=true) (hl:r.coefs.length=r.vars.length) (hb:-1000≤r.bound∧r.bound≤1000) :
  bp (px (hM m r r.vars.length) r.bound).1=true∧∀v,fJ (px (hM m r r.vars.length) r.bound).1 v=decide (r.bound≤eH v (hM m r r.vars.length)):=by
 obtain ⟨h1,h2⟩:=tX hok hv hc hl
 have hnet:=Dq hok hv hc hl
 have hneg:=wx fun t ht=>(h1 t ht).2
 obtain ⟨o1,_⟩:=xZ hnet 12 (by omega)
 have hmin:=yV hnet 12
 have hokc:bp ⟨fR (dC (hM m r r.vars.length)) 12,max 0 (r.bound - qT (hM m r r.vars.length) - jT (dC (hM m r r.vars.length)) 12)⟩=true:=by
  unfold bp okB
  simp only [o1,Bool.true_and,Bool.and_eq_true,decide_eq_true_eq]
  omega
 have e:(px (hM m r r.vars.length) r.bound).1=⟨fR (dC (hM m r r.vars.length)) 12,max 0 (r.bound - qT (hM m r r.vars.length) - jT (dC (hM m r r.vars.length)) 12)⟩:=by
  unfold px mW
  rw [if_pos hokc]
 rw [e]
 refine ⟨hokc,fun v=>?_⟩
 have ED:=xm v (hM m r r.vars.length) fun t ht=>(h1 t ht).1
 have Ef:=vp v (dC (hM m r r.vars.length)) 12
 have hs3:=tm v _ (pQ _ _ o1)
 unfold fJ
 simp only
 rw [Bool.eq_iff_iff,decide_eq_true_eq,decide_eq_true_eq]
 omega
theorem xY {m:Model} (hok:aX m=true) {v:List Bool} {cells:List Int} (h:Enc m v cells) {r:Rule} (hv:cw m.sizes.length r.vars=true) {n:Nat} (hn:n<r.vars.length) (c:Nat) (hc:∀k:Nat,k≤cy m (fr r n)→cO v (bF m (fr r n) k)=decide (k=c)):∀q,q≤cy m (fr r n)+1→eH v ((List.range q).map (qp m r n))=if c<q then r.coefs.getD n 0 * (c:Int) else 0
 | 0,_=>by rw [if_neg (by omega)]; rfl
 | q+1,hq=>by
  rw [List.range_succ,List.map_append,List.map_singleton,wU,xY hok h hv hn c hc q (by omega)]
  have:=hc q (by omega)
  unfold qp
  simp only [this]
  by_cases e:q=c
  ·subst e
   rw [if_pos (by simp),if_neg (by omega),if_pos (by omega)]; omega
  ·rw [if_neg (by simpa using e)]
   by_cases hlt:c<q
   ·rw [if_pos hlt,if_pos (by omega)]
   ·rw [if_neg hlt,if_neg (by omega)]
theorem AY {m:Model} (hok:aX m=true) {v:List Bool} {cells:List Int} (h:Enc m v cells) {r:Rule} (hv:cw m.sizes.length r.vars=true) (hl:r.coefs.length=r.vars.length):∀n,n≤r.vars.length→eH v (hM m r n)=pI r.coefs (cW r cells) n
 | 0,_=>by simp [hM,pI,eH,df]
 | n+1,hn=>by
  obtain ⟨c,c1,c2,_,c4⟩:=ud hok h hv (n:=n) (by omega)
  have hvl:=kr r cells
  rw [hM,vc,AY hok h hv hl n (by omega),xY hok h hv (by omega) c c4 _ (Nat.le_refl _),if_pos (by omega),vJ _ _ _ (by omega) (by omega),iA _ (show n<r.coefs.length by omega)]
  have:(cW r cells)[n]=(c:Int):=by
   have:=List.getElem?_eq_getElem (l:=cW r cells) (i:=n) (by omega)
   rw [this] at c2; injection c2
  rw [this]
theorem vF {m:Model} (hok:aX m=true) {v:List Bool} {cells:List Int} (h:Enc m v cells) {r:Rule} (hr:iE m.sizes.length r=true):gq (pr m r) v=eD r (cW r cells):=by
 obtain ⟨hv,_,hk⟩:=fc hr
 unfold pr
 rcases hk with ⟨hk,hc1,hc2,hb1,hb2⟩ | hk | ⟨hk,_⟩ | ⟨hk,_⟩
 ·rw [if_pos hk]
  unfold z7 gq eD
  rw [List.all_cons,List.all_nil,Bool.and_true,(y7 hok hv hc1 hc2 ⟨hb1,hb2⟩).2 v,AY hok h hv hc2 _ (Nat.le_refl _),hk]
  rw [show r.vars.length=(cW r cells).length from (kr r cells).symm,yS _ _ (by rw [kr]; exact hc2)]
  rfl
 ·rw [if_neg (by omega),if_pos hk,z3 hok h hv]
  unfold eD
  rw [hk]; rfl
 ·rw [if_neg (by omega),if_neg (by omega)]
  exact ur hok h hv
 ·rw [if_neg (by omega),if_neg (by omega)]
  exact ur hok h hv
theorem rA {m:Model} (hok:aX m=true) {v:List Bool} {cells:List Int} (h:Enc m v cells):gq (lh m m.rules.length) v=jt m cells:=by
 unfold lh jt
 rw [sS,List.take_length,Bool.eq_iff_iff,List.all_eq_true,List.all_eq_true]
 constructor
 ·intro ha r hr; rw [← vF hok h (ju hok hr)]; exact ha r hr
 ·intro ha r hr; rw [vF hok h (ju hok hr)]; exact ha r hr
theorem Dh:∀(vs:List Int) (b:Int),vs.Pairwise (·<·)→(∀x ∈ vs,1≤x∧x≤12∧b<x)→b6 b (vs.map fun x=>(⟨1,-x⟩:Term))=true
 | [],_,_,_=>rfl
 | x :: vs,b,h,hx=>by
  rw [List.pairwise_cons] at h
  obtain ⟨x1,x2,x3⟩:=hx x (by simp)
  have ha:bn (-x)=x:=by unfold bn; omega
  rw [List.map_cons,b6]
  simp only [ha]
  have hk:mY (⟨1,-x⟩:Term)=true:=by unfold mY; simp; omega
  rw [hk,decide_eq_true x3,Dh vs x h.2 fun y hy=>by have:=h.1 y hy; have:=hx y (by simp [hy]); omega]
  rfl
theorem AH {vs:List Int} (h:vs.Pairwise (·<·)) (hp:∀x ∈ vs,1≤x∧x≤12) (h1:1≤vs.length) (h2:vs.length≤100):bp (sB vs)=true:=by
 unfold bp okB sB
 simp only [Dh vs 0 h fun x hx=>by have:=hp x hx; omega,Bool.true_and,Bool.and_eq_true,decide_eq_true_eq]
 omega
theorem A4 {m:Model} (hok:aX m=true):∀c ∈ iD m m.sizes.length,bp c=true:=by
 intro c hc
 obtain ⟨i,hi,hc⟩:=List.mem_flatMap.1 hc
 rw [List.mem_range] at hi
 have hp:=qJ hok hi
 have hs:=er hok hi
 have hl:=sI m i
 unfold vm at hc
 rcases List.mem_cons.1 hc with rfl | hc
 ·exact qi (jq (tU hp) (ub hp (sj (kX m i))))
 ·rw [List.mem_singleton] at hc
  subst hc
  exact AH (kX m i) hp (by omega) (by omega)
theorem pb {m:Model} (hok:aX m=true) {r:Rule} (hv:cw m.sizes.length r.vars=true) (v:Nat):∀n,n≤r.vars.length→(fq m r v n).Nodup
 | 0,_=>List.nodup_nil
 | n+1,hn=>by
  rw [fq]
  by_cases h:v≤cy m (fr r n)
  ·rw [if_pos h,List.nodup_append]
   refine ⟨pb hok hv v n (by omega),by simp,?_⟩
   intro a ha b hb e
   rw [List.mem_singleton] at hb
   subst hb e
   obtain ⟨j,j1,j2,j3⟩:=(rB n).1 ha
   have:=qm hok (iC hv (n:=n) (by omega)) (iC hv (n:=j) (by omega)) h j2 j3
   have:=sf hv (by omega) (by omega) this.1
   omega
  ·rw [if_neg h,List.append_nil]
   exact pb hok hv v n (by omega)
theorem yL {vs:List Int} (hn:vs.Nodup):(pt vs).Pairwise (·<·):=by
 have h1:=sa vs
 have h2:(pt vs).Nodup:=(jD vs).nodup_iff.2 hn
 exact (h1.and h2).imp fun ⟨a,b⟩=>by omega
theorem Ca {m:Model} (hok:aX m=true) {r:Rule} (hm:r ∈ m.rules):∀c ∈ pr m r,bp c=true:=by
 have hl5:=(bo hok).2.1
 obtain ⟨hv,_,hk⟩:=fc (ju hok hm)
 have hl:=gk hv
 have hforb:∀c ∈ m8 m r,bp c=true:=by
  intro c hc
  obtain ⟨vs,hvs,hc⟩:=List.mem_flatMap.1 hc
  have hf:=(sV hok hv).1 hvs
  unfold pq at hc
  split at hc
  ·cases hc
  ·rw [List.mem_singleton] at hc
   subst hc
   exact qi (jq (qy hok hv hf) (qG hok hv hf))
 have hdiff:∀n,∀c ∈ ma m r n,bp c=true:=by
  intro n
  induction n with
  | zero=>simp [ma]
  | succ n ih =>
   intro c hc
   rw [ma] at hc
   rcases List.mem_append.1 hc with hc | hc
   ·exact ih c hc
   ·split at hc
    ·rw [List.mem_singleton] at hc
     subst hc
     have hd:=ly m r n r.vars.length
     exact AH (yL (pb hok hv n _ (Nat.le_refl _))) (qD (oL hok hv n)) (by rw [(jD _).length_eq]; omega) (by rw [(jD _).length_eq]; omega)
    ·cases hc
 unfold pr
 rcases hk with ⟨hk,hc1,hc2,hb1,hb2⟩ | hk | ⟨hk,_⟩ | ⟨hk,_⟩
 ·rw [if_pos hk]
  intro c hc
  unfold z7 at hc
  rw [List.mem_singleton] at hc
  subst hc
  exact (y7 hok hv hc1 hc2 ⟨hb1,hb2⟩).1
 ·rw [if_neg (by omega),if_pos hk]; exact hdiff 4
 ·rw [if_neg (by omega),if_neg (by omega)]; exact hforb
 ·rw [if_neg (by omega),if_neg (by omega)]; exact hforb
theorem De {m:Model} (hok:aX m=true):∀c ∈ mb m,bp c=true:=by
 intro c hc
 rcases List.mem_append.1 hc with hc | hc
 ·exact A4 hok c hc
 ·obtain ⟨r,hr,hc⟩:=List.mem_flatMap.1 hc
  exact Ca hok (List.mem_of_mem_take hr) c hc
theorem BQ {list:List Con} (h:∀c ∈ list,bp c=true) (hl:list.length≤400):gD list=true:=by
 unfold gD
 rw [List.all_eq_true.2 h,decide_eq_true (by omega)]; rfl
theorem B1 {m:Model} (h:(ze m).2=true):aX m=true∧ze m=(mb m,true)∧gD (mb m)=true:=by
 unfold ze at h ⊢
 cases hok:aX m with
 | false=>rw [hok] at h; simp at h
 | true =>
  rw [hok] at h
  simp only [if_true] at h ⊢
  by_cases hl:(mb m).length > 400
  ·rw [if_pos hl] at h; simp at h
  ·rw [if_neg hl]
   exact ⟨trivial,rfl,BQ (De hok) (by omega)⟩
theorem BG {m:Model} (hok:aX m=true) {v:List Bool} (hv:v.length=12):gq (mb m) v=true ↔ (decode m v).2=true∧jt m (decode m v).1=true:=by
 unfold mb
 rw [qg,Bool.and_eq_true,sG hok v _ (Nat.le_refl _),← zB hok hv]
 constructor
 ·rintro ⟨h1,h2⟩
  exact ⟨h1,by rw [← rA hok (rC hok hv h1)]; exact h2⟩
 ·rintro ⟨h1,h2⟩
  exact ⟨h1,by rw [rA hok (rC hok hv h1)]; exact h2⟩
theorem D8 {m:Model} (hok:aX m=true) {v:List Bool} {cells:List Int} (h:Enc m v cells):gq (mb m) v=jt m cells:=by
 unfold mb
 rw [qg,rA hok h,(sG hok v _ (Nat.le_refl _)).2 (h.cell hok),Bool.true_and]
theorem Bc (code:List UInt8) (fu:Nat) (hf:FU≤fu):gK fu code=some ():=by
 refine AB ?_
 unfold gK
 exact Ay ⟨[],[]⟩ (xH code fu hf) s0 fun o ho=>jI ho
theorem Fi:FU≤FU:=Nat.le_refl _
theorem v7 {m:Model} (hok:aX m=true) (h:∀v:List Bool,v.length=12→gq (mb m) v=false):oD m=0:=by
 unfold oD fv
 rw [if_pos hok,List.countP_eq_zero]
 intro c hc hs
 have hf:=(yW (all_zero (bo hok).2.2.1)).1 hc
 have he:=Ap hok hf
 have:=h _ he.len
 rw [D8 hok he,hs] at this
 cases this
theorem zK {fu:Nat} {list:List Con} {fuel:Int} (hp:gD list=true) (hf:oN fuel=true):(gZ fu list fuel).1=0 ∨ (gZ fu list fuel).1=1 ∨ (gZ fu list fuel).1=2:=by
 have O:=(dD fu _ _ (qa hp hf) Dec.nil).2.2.1
 unfold gZ
 rw [hp,hf]
 simp only [Bool.and_true,if_true]
 by_cases e:(cU fu ⟨list,[],fuel⟩ []).2.1=2
 ·rw [if_pos e]; simp
 ·rw [if_neg e]; simp only; omega
theorem rY (code:List UInt8) (g0:code.length≤9223372036854775807∧∀x ∈ code,True):∃ fu,jN fu code=some true:=by
 refine ⟨FU,?_⟩
 unfold jN
 split
 ·rfl
 refine vG (Bc code FU Fi) (o0:=⟨[],[]⟩) s0 fun m hx=>?_
 have hs:=Dk hx
 rw [FD FU Fi hs,Option.bind_some,Fu FU Fi hs,Option.bind_some,EW]
 simp only [bne_self_eq_false,Bool.false_eq_true,if_false,decide_true,Bool.not_true,Option.bind_some,Bool.false_or,beq_self_eq_true,if_true]
 cases he:(ze m).2 with
 | false=>simp
 | true =>
  obtain ⟨hok,e,hp⟩:=B1 he
  rw [if_neg (by simp),e]
  simp only
  rw [DS FU Fi,Option.bind_some]
  rcases zK (fu:=FU) (fuel:=2000) hp (by decide) with e0 | e1 | e2
  ·rw [e0]; rfl
  ·obtain ⟨q1,q2,q3,_⟩:=BB e1
   obtain ⟨h1,h2⟩:=(BG hok q2).1 q3
   have hd:=rC hok q2 h1
   have hsol:tR m (decode m (gZ FU (mb m) 2000).2.1).1=true:=by
    unfold tR oR
    rw [hok,h2,tz.2 hd.fits]; rfl
   rw [if_pos (by rw [e1]; rfl),Cx m hs,Option.bind_some,h1,A5 m hs,hsol]
   rfl
  ·have hno:=(yk e2).2
   have hcnt:=v7 hok hno
   have href:=(BF e2).1
   rw [if_neg (by rw [e2]; decide),e2,DZ m hs FU Fi,Fh FU Fi,hcnt,href]
   rfl
def gN (m:Model):Nat:=(iH m.sizes).toNat
theorem FO {m:Model} (hok:aX m=true):(gN m:Int)=iH m.sizes∧gN m≤12:=by
 obtain ⟨_,_,ha,_,h12,_⟩:=bo hok
 have:=(pg m.sizes ha).1
 unfold gN; omega
theorem DW {m:Model} (hok:aX m=true) {v w:List Bool} (h:v.take (gN m)=w.take (gN m)) {i:Nat} (hi:i<m.sizes.length) {k:Nat} (hk:k≤cy m i):pz m v i k=pz m w i k:=by
 have hs:=er hok hi
 have hr:=nF hok hi (v:=(k:Int)) ⟨by omega,by omega⟩
 have hg:=FO hok
 unfold pz
 have hlt:(bF m i k - 1).toNat<gN m:=by omega
 have e:∀x:List Bool,x.getD (bF m i k - 1).toNat false=(x.take (gN m)).getD (bF m i k - 1).toNat false:=by
  intro x
  rw [List.getD_eq_getElem?_getD,List.getD_eq_getElem?_getD,List.getElem?_take_of_lt hlt]
 rw [e v,e w,h]
theorem Enc.agree {m:Model} (hok:aX m=true) {v w:List Bool} (h:v.take (gN m)=w.take (gN m)) (hw:w.length=12) {cells:List Int} (he:Enc m v cells):Enc m w cells:=
 ⟨hw,he.fits,fun i hi k hk=>by rw [← DW hok h hi hk]; exact he.on i hi k hk⟩
end Go.L
