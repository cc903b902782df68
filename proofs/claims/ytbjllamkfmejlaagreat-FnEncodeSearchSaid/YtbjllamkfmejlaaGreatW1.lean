/- Part of a proof by program: W1. -/
import Derived.Test.YtbjllamkfmejlaaGreatD1
import Derived.Test.YtbjllamkfmejlaaGreatProg
import Derived.Test.YtbjllamkfmejlaaGreatBits
namespace Go.Proofs.YtbjllamkfmejlaaGreat
open Go Go.E Go.L Go.RowKit
open Tryz hiding bits_Len
set_option linter.unusedVariables false
set_option linter.unusedSimpArgs false
set_option maxRecDepth 100000
theorem U.{u} {α:Sort u} {a:α}:a=a:=rfl
theorem aP:prog.follows .mixedOrders=true:=by kernel_rfl
theorem bN:FA prog 26 0 0:=jE underlying26 U sizeOf23 U
theorem fB:FA prog 26 1 1:=jE underlying26 U sizeOf24 U
theorem ck:FA prog 73 0 0:=jE underlying73 U sizeOf71 U
theorem fy:FA prog 73 1 1:=jE underlying73 U sizeOf3 U
theorem gB:FA prog 79 0 0:=jE underlying79 U sizeOf3 U
theorem cM:FA prog 79 1 1:=jE underlying79 U sizeOf23 U
theorem hO:FA prog 79 2 2:=jE underlying79 U sizeOf23 U
theorem km:FA prog 79 3 3:=jE underlying79 U sizeOf3 U
theorem ez:FA prog 79 4 4:=jE underlying79 U sizeOf77 U
theorem xf:FA prog 94 0 0:=jE underlying94 U sizeOf28 U
theorem xJ:FA prog 94 1 1:=jE underlying94 U sizeOf3 U
theorem si:FA prog 94 2 2:=jE underlying94 U sizeOf42 U
theorem tV:FA prog 94 3 3:=jE underlying94 U sizeOf4 U
theorem ep:FA prog 122 0 0:=jE underlying122 U sizeOf3 U
theorem eC:FA prog 122 1 1:=jE underlying122 U sizeOf3 U
theorem jx:FA prog 131 0 0:=jE underlying131 U sizeOf28 U
theorem ox:FA prog 131 1 1:=jE underlying131 U sizeOf37 U
theorem lH:FA prog 136 0 0:=jE underlying136 U sizeOf22 U
theorem vi:FA prog 136 1 1:=jE underlying136 U sizeOf3 U
theorem iq:FA prog 158 0 0:=jE underlying158 U sizeOf3 U
theorem kW:FA prog 158 1 1:=jE underlying158 U sizeOf3 U
theorem kL:FA prog 158 2 2:=jE underlying158 U sizeOf3 U
theorem gO:FA prog 158 3 3:=jE underlying158 U sizeOf73 U
theorem Fp:ET prog 22 5 1:=tp underlying22 (by decide) (by kernel_rfl)
theorem eb:ET prog 23 3 1:=tp underlying23 (by decide) (by kernel_rfl)
theorem Ey:ET prog 24 79 5:=tp underlying24 (by decide) (by kernel_rfl)
theorem nU:ET prog 28 73 2:=tp underlying28 (by decide) (by kernel_rfl)
theorem Cm:ET prog 37 4 1:=tp underlying37 (by decide) (by kernel_rfl)
theorem FB:ET prog 42 158 5:=tp underlying42 (by decide) (by kernel_rfl)
theorem lN:ET prog 71 122 2:=tp underlying71 (by decide) (by kernel_rfl)
theorem Ez:ET prog 77 23 1:=tp underlying77 (by decide) (by kernel_rfl)
theorem zJ:TermEq prog 122:=Bj (by kernel_rfl) underlying122 U (by decide) (by decide) U U underlying3 underlying3 (by kernel_rfl)
theorem eF (a0 a1:Value) (ha0:a0.oneCell'=true) (ha1:a1.oneCell'=true):∀w,(Instr.build 122 #[(0,a0),(1,a1)]).run prog w=.ok (.agg #[a0,a1]) w:=by
  intro w
  simp [Instr.build,Instr.fill,zeroValue122,runUnderlying122,sizeOf3,bl ha0,bl ha1,cd]
theorem y9 (a0 a1:Value) (ha0:a0.oneCell'=true) (ha1:a1.oneCell'=true):∀w,(Instr.build 131 #[(0,a0),(1,a1)]).run prog w=.ok (.agg #[a0,a1]) w:=by
  intro w
  simp [Instr.build,Instr.fill,zeroValue131,runUnderlying131,sizeOf28,sizeOf37,bl ha0,bl ha1,cd]
theorem By (a0:Value) (ha0:a0.oneCell'=true):∀w,(Instr.build 136 #[(0,a0)]).run prog w=.ok (.agg #[a0,.int .i64 0]) w:=by
  intro w
  simp [Instr.build,Instr.fill,zeroValue136,runUnderlying136,sizeOf3,sizeOf22,bl ha0,cd]
theorem vU (a0 a1 a2:Value) (ha0:a0.oneCell'=true):∀w,(Instr.build 158 #[(0,a0),(3,.agg #[a1,a2])]).run prog w=.ok (.agg #[a0,.int .i64 0,.int .i64 0,a1,a2]) w:=by
  intro w
  simp [Instr.build,Instr.fill,zeroValue158,runUnderlying158,sizeOf3,sizeOf73,bl ha0,cd]
theorem xi :∀w,(Instr.build 26 #[]).run prog w=.ok (.agg #[.slice none 0 0,.slice none 0 0]) w:=by
  intro w
  simp [Instr.build,Instr.fill,zeroValue26,runUnderlying26,sizeOf23,sizeOf24,cd]
theorem Cj (a0:Value) (ha0:a0.oneCell'=true):∀w,(Instr.build 26 #[(0,a0)]).run prog w=.ok (.agg #[a0,.slice none 0 0]) w:=by
  intro w
  simp [Instr.build,Instr.fill,zeroValue26,runUnderlying26,sizeOf23,sizeOf24,bl ha0,cd]
theorem eg :∀w,(Instr.build 73 #[]).run prog w=.ok (.agg #[.slice none 0 0,.int .i64 0]) w:=by
  intro w
  simp [Instr.build,Instr.fill,zeroValue73,runUnderlying73,sizeOf3,sizeOf71,cd]
theorem Cy (a0:Value) (ha0:a0.oneCell'=true):∀w,(Instr.build 73 #[(0,a0)]).run prog w=.ok (.agg #[a0,.int .i64 0]) w:=by
  intro w
  simp [Instr.build,Instr.fill,zeroValue73,runUnderlying73,sizeOf3,sizeOf71,bl ha0,cd]
theorem mL (a0:Value) (ha0:a0.oneCell'=true):∀w,(Instr.build 73 #[(1,a0)]).run prog w=.ok (.agg #[.slice none 0 0,a0]) w:=by
  intro w
  simp [Instr.build,Instr.fill,zeroValue73,runUnderlying73,sizeOf3,sizeOf71,bl ha0,cd]
theorem CL (a0:Value) (ha0:a0.oneCell'=true):∀w,(Instr.build 79 #[(0,a0)]).run prog w=.ok (.agg #[a0,.slice none 0 0,.slice none 0 0,.int .i64 0,.slice none 0 0]) w:=by
  intro w
  simp [Instr.build,Instr.fill,zeroValue79,runUnderlying79,sizeOf3,sizeOf23,sizeOf77,bl ha0,cd]
theorem uy (a0 a1 a2 a3:Value) (ha0:a0.oneCell'=true) (ha1:a1.oneCell'=true) (ha2:a2.oneCell'=true) (ha3:a3.oneCell'=true):∀w,(Instr.build 79 #[(0,a0),(1,a1),(2,a2),(3,a3)]).run prog w=.ok (.agg #[a0,a1,a2,a3,.slice none 0 0]) w:=by
  intro w
  simp [Instr.build,Instr.fill,zeroValue79,runUnderlying79,sizeOf3,sizeOf23,sizeOf77,bl ha0,bl ha1,bl ha2,bl ha3,cd]
theorem zy (a0 a1:Value) (ha0:a0.oneCell'=true) (ha1:a1.oneCell'=true):∀w,(Instr.build 94 #[(0,a0),(1,a1)]).run prog w=.ok (.agg #[a0,a1,.slice none 0 0,.bool false]) w:=by
  intro w
  simp [Instr.build,Instr.fill,zeroValue94,runUnderlying94,sizeOf3,sizeOf4,sizeOf28,sizeOf42,bl ha0,bl ha1,cd]
theorem xD (a0 a1:Value) (ha0:a0.oneCell'=true) (ha1:a1.oneCell'=true):∀w,(Instr.buildSlice 209 2 #[(0,a0),(1,a1)]).run prog w=.ok (.slice (some ⟨w.heap.size,0,none⟩) 2 2) (w.alloc (.cells #[a0,a1] 71)):=by
  intro w
  simp [Instr.buildSlice,Instr.fill,newRow,zeroValue71,runUnderlying209,sizeOf71,bl ha0,bl ha1,cd,dG,dt,dN,eP,Array.range_succ,iU]
theorem jd :∀w,(Instr.buildSlice 23 0 #[]).run prog w=.ok (.slice (some ⟨w.heap.size,0,none⟩) 0 0) (w.alloc (.cells #[] 3)):=by
  intro w
  simp [Instr.buildSlice,Instr.fill,newRow,runUnderlying23,sizeOf3,cd,dG,dt,dN,eP,Array.range_succ,iU]
theorem dp (a0:Value) (ha0:a0.oneCell'=true):∀w,(Instr.buildSlice 23 1 #[(0,a0)]).run prog w=.ok (.slice (some ⟨w.heap.size,0,none⟩) 1 1) (w.alloc (.cells #[a0] 3)):=by
  intro w
  simp [Instr.buildSlice,Instr.fill,newRow,zeroValue3,runUnderlying23,sizeOf3,bl ha0,cd,dG,dt,dN,eP,Array.range_succ,iU]
theorem yl (a0 a1:Value) (ha0:a0.oneCell'=true) (ha1:a1.oneCell'=true):∀w,(Instr.buildSlice 23 2 #[(0,a0),(1,a1)]).run prog w=.ok (.slice (some ⟨w.heap.size,0,none⟩) 2 2) (w.alloc (.cells #[a0,a1] 3)):=by
  intro w
  simp [Instr.buildSlice,Instr.fill,newRow,zeroValue3,runUnderlying23,sizeOf3,bl ha0,bl ha1,cd,dG,dt,dN,eP,Array.range_succ,iU]
theorem vN (a0 a1 a2:Value) (ha0:a0.oneCell'=true) (ha1:a1.oneCell'=true) (ha2:a2.oneCell'=true):∀w,(Instr.buildSlice 23 3 #[(0,a0),(1,a1),(2,a2)]).run prog w=.ok (.slice (some ⟨w.heap.size,0,none⟩) 3 3) (w.alloc (.cells #[a0,a1,a2] 3)):=by
  intro w
  simp [Instr.buildSlice,Instr.fill,newRow,zeroValue3,runUnderlying23,sizeOf3,bl ha0,bl ha1,bl ha2,cd,dG,dt,dN,eP,Array.range_succ,iU]
theorem lU (a0 a1 a2 a3:Value) (ha0:a0.oneCell'=true) (ha1:a1.oneCell'=true) (ha2:a2.oneCell'=true) (ha3:a3.oneCell'=true):∀w,(Instr.buildSlice 23 4 #[(0,a0),(1,a1),(2,a2),(3,a3)]).run prog w=.ok (.slice (some ⟨w.heap.size,0,none⟩) 4 4) (w.alloc (.cells #[a0,a1,a2,a3] 3)):=by
  intro w
  simp [Instr.buildSlice,Instr.fill,newRow,zeroValue3,runUnderlying23,sizeOf3,bl ha0,bl ha1,bl ha2,bl ha3,cd,dG,dt,dN,eP,Array.range_succ,iU]
theorem jb (a0 a1 a2 a3 a4:Value) (ha0:a0.oneCell'=true) (ha1:a1.oneCell'=true) (ha2:a2.oneCell'=true) (ha3:a3.oneCell'=true) (ha4:a4.oneCell'=true):∀w,(Instr.buildSlice 23 5 #[(0,a0),(1,a1),(2,a2),(3,a3),(4,a4)]).run prog w=.ok (.slice (some ⟨w.heap.size,0,none⟩) 5 5) (w.alloc (.cells #[a0,a1,a2,a3,a4] 3)):=by
  intro w
  simp [Instr.buildSlice,Instr.fill,newRow,zeroValue3,runUnderlying23,sizeOf3,bl ha0,bl ha1,bl ha2,bl ha3,bl ha4,cd,dG,dt,dN,eP,Array.range_succ,iU]
theorem mf (a0 a1 a2 a3 a4 a5:Value) (ha0:a0.oneCell'=true) (ha1:a1.oneCell'=true) (ha2:a2.oneCell'=true) (ha3:a3.oneCell'=true) (ha4:a4.oneCell'=true) (ha5:a5.oneCell'=true):∀w,(Instr.buildSlice 23 6 #[(0,a0),(1,a1),(2,a2),(3,a3),(4,a4),(5,a5)]).run prog w=.ok (.slice (some ⟨w.heap.size,0,none⟩) 6 6) (w.alloc (.cells #[a0,a1,a2,a3,a4,a5] 3)):=by
  intro w
  simp [Instr.buildSlice,Instr.fill,newRow,zeroValue3,runUnderlying23,sizeOf3,bl ha0,bl ha1,bl ha2,bl ha3,bl ha4,bl ha5,cd,dG,dt,dN,eP,Array.range_succ,iU]
theorem pG (a0 a1 a2 a3 a4 a5 a6:Value) (ha0:a0.oneCell'=true) (ha1:a1.oneCell'=true) (ha2:a2.oneCell'=true) (ha3:a3.oneCell'=true) (ha4:a4.oneCell'=true) (ha5:a5.oneCell'=true) (ha6:a6.oneCell'=true):∀w,(Instr.buildSlice 23 7 #[(0,a0),(1,a1),(2,a2),(3,a3),(4,a4),(5,a5),(6,a6)]).run prog w=.ok (.slice (some ⟨w.heap.size,0,none⟩) 7 7) (w.alloc (.cells #[a0,a1,a2,a3,a4,a5,a6] 3)):=by
  intro w
  simp [Instr.buildSlice,Instr.fill,newRow,zeroValue3,runUnderlying23,sizeOf3,bl ha0,bl ha1,bl ha2,bl ha3,bl ha4,bl ha5,bl ha6,cd,dG,dt,dN,eP,Array.range_succ,iU]
theorem wj (a0 a1 a2 a3 a4:Value) :∀w,(Instr.buildSlice 24 1 #[(0,.agg #[a0,a1,a2,a3,a4])]).run prog w=.ok (.slice (some ⟨w.heap.size,0,none⟩) 1 1) (w.alloc (.cells #[a0,a1,a2,a3,a4] 79)):=by
  intro w
  simp [Instr.buildSlice,Instr.fill,newRow,zeroValue79,runUnderlying24,sizeOf79,cd,dG,dt,dN,eP,Array.range_succ,iU]
theorem qw :∀w,(Instr.buildSlice 28 0 #[]).run prog w=.ok (.slice (some ⟨w.heap.size,0,none⟩) 0 0) (w.alloc (.cells #[] 73)):=by
  intro w
  simp [Instr.buildSlice,Instr.fill,newRow,runUnderlying28,sizeOf73,cd,dG,dt,dN,eP,Array.range_succ,iU]
theorem iO (a0 a1:Value) :∀w,(Instr.buildSlice 28 1 #[(0,.agg #[a0,a1])]).run prog w=.ok (.slice (some ⟨w.heap.size,0,none⟩) 1 1) (w.alloc (.cells #[a0,a1] 73)):=by
  intro w
  simp [Instr.buildSlice,Instr.fill,newRow,zeroValue73,runUnderlying28,sizeOf73,cd,dG,dt,dN,eP,Array.range_succ,iU]
theorem tj (a0 a1 a2 a3:Value) :∀w,(Instr.buildSlice 28 2 #[(0,.agg #[a0,a1]),(1,.agg #[a2,a3])]).run prog w=.ok (.slice (some ⟨w.heap.size,0,none⟩) 2 2) (w.alloc (.cells #[a0,a1,a2,a3] 73)):=by
  intro w
  simp [Instr.buildSlice,Instr.fill,newRow,zeroValue73,runUnderlying28,sizeOf73,cd,dG,dt,dN,eP,Array.range_succ,iU]
theorem wV (a0:Value) (ha0:a0.oneCell'=true):∀w,(Instr.buildSlice 37 1 #[(0,a0)]).run prog w=.ok (.slice (some ⟨w.heap.size,0,none⟩) 1 1) (w.alloc (.cells #[a0] 4)):=by
  intro w
  simp [Instr.buildSlice,Instr.fill,newRow,zeroValue4,runUnderlying37,sizeOf4,bl ha0,cd,dG,dt,dN,eP,Array.range_succ,iU]
theorem Bk (a0 a1 a2 a3 a4:Value) :∀w,(Instr.buildSlice 42 1 #[(0,.agg #[a0,a1,a2,a3,a4])]).run prog w=.ok (.slice (some ⟨w.heap.size,0,none⟩) 1 1) (w.alloc (.cells #[a0,a1,a2,a3,a4] 158)):=by
  intro w
  simp [Instr.buildSlice,Instr.fill,newRow,zeroValue158,runUnderlying42,sizeOf158,cd,dG,dt,dN,eP,Array.range_succ,iU]
theorem D5 :∀w,(Instr.buildSlice 71 0 #[]).run prog w=.ok (.slice (some ⟨w.heap.size,0,none⟩) 0 0) (w.alloc (.cells #[] 122)):=by
  intro w
  simp [Instr.buildSlice,Instr.fill,newRow,runUnderlying71,sizeOf122,cd,dG,dt,dN,eP,Array.range_succ,iU]
theorem gh (a0 a1:Value) :∀w,(Instr.buildSlice 71 1 #[(0,.agg #[a0,a1])]).run prog w=.ok (.slice (some ⟨w.heap.size,0,none⟩) 1 1) (w.alloc (.cells #[a0,a1] 122)):=by
  intro w
  simp [Instr.buildSlice,Instr.fill,newRow,zeroValue122,runUnderlying71,sizeOf122,cd,dG,dt,dN,eP,Array.range_succ,iU]
theorem wb (a0:Value) (ha0:a0.oneCell'=true):∀w,(Instr.buildSlice 77 1 #[(0,a0)]).run prog w=.ok (.slice (some ⟨w.heap.size,0,none⟩) 1 1) (w.alloc (.cells #[a0] 23)):=by
  intro w
  simp [Instr.buildSlice,Instr.fill,newRow,zeroValue23,runUnderlying77,sizeOf23,bl ha0,cd,dG,dt,dN,eP,Array.range_succ,iU]
theorem yU {code:List UInt8} {v0:Value} {H:FH} {w:World} {R:List Ass} (Z:ab H w R) (h0:(rS 5 RP.u8).rel H [v0] code) {r:Rd} (hF:og code=some r):C prog 72 #[v0] w fun v w'=>∃ H':FH,Le H H'∧∃ (u1:Nat) (u2:Value),v=Pt u1∧(rS 5 RP.u8).rel H' [u2] r.b∧ab H' w' (box u1 136 #[u2,I r.p] :: R):=by
 unfold og at hF
 refine aE func72 U ntmps72 U (sq (aV (.pointer none) U (nq (sq (mV v0 U (aW U underlying22 U (ai h0) (c9 U U U (nn ?_))))))))
 obtain ⟨af,J,hF⟩:=bind_some hF
 obtain ⟨R3,ag⟩:=ca fun f w_=>∃ j,f 0=j∧(rS 5 RP.u8).rel H [j] af∧ab H w_ (R)
 refine av R3 ?_ ?_
 refine al (b:=decide ((code.length:Int) > 2000)) U (fun an=>?_) (fun an=>?_)
 have J:=(az an).symm.trans J
 obtain ⟨x5,a1,J⟩:=bind_some J
 refine ae (mV v0 U (Cg (a:=0) (b:=2000) U Fp U h0 U U a1 (fun v8 a2=>aV v8 U (nn ?_))))
 obtain rfl:=so J
 exact rj ag ⟨v8,U,a2,Z⟩
 have J:=(ay an).symm.trans J
 refine aq ?_
 obtain rfl:=so J
 exact rj ag ⟨v0,U,h0,Z⟩
 intro f w_ hR
 obtain ⟨j,a3,o,Z⟩:=rk ag hR
 refine sq (mF a3 U (da U (bG U) (By (j) (aH (ai o))) (cr (v:=.agg #[j,I 0]) (cs:=#[j,I 0]) U U U Z (fun a0 a4 Z=>aV (Pt a0) U (nn (aA (aN (v1:=Pt a0) results72 U ?_)))))))
 obtain rfl:=so hF
 exact ⟨H,(Le.refl _),a0,j,U,o,Z⟩
theorem jv {r_:Rd} {n_:Int} {g_0:Nat} {v0_0:Value} {H:FH} {w:World} (Z:ab H w [box g_0 136 #[v0_0,I r_.p]]) (h0_0:(rS 5 RP.u8).rel H [v0_0] r_.b) {r:Int × Int} (hF:fL r_ n_=some r):C prog 127 #[Pt g_0,I n_] w fun v w'=>v=I r.1∧ab H w' [box g_0 136 #[v0_0,I r.2]]:=by
 unfold fL at hF
 refine aE func127 U ntmps127 U (sq (aI U (ns (mV (Pt g_0) U (mV (Pt g_0) U (hH U U (fA 1 vi U U (bw 0 Z isAgg3 U U U (bf U U U (hH U U (fA 1 vi U U (ei (v:=I (i64 (r_.p+1))) (cs2:=#[v0_0,I (i64 (r_.p+1))]) 0 U sizeOf3 U U U Z U U U (fun w2 Z=>nq (ao ?_))))))))))))))
 obtain ⟨R3,b3⟩:=ca fun f w_=>f 0=Pt g_0∧f 1=I n_∧f 24=Bo ((decide (n_<1)) || ((r_.b.length:Int) == 0))∧ab H w_ ([box g_0 136 #[v0_0,I (i64 (r_.p+1))]])
 refine av R3 ?_ ?_
 refine ae (mI U (bh U U U (mB U (aD (d:=17) (b:=decide (n_<1)) U (fun b4=>?_) (fun b4=>?_)))))
 refine ps U (ps U (ps U (ps U (ps U (ps U (aC (v:=Bo ((decide (n_<1)) || ((r_.b.length:Int) == 0))) U U (fK b4) (nn (rj b3 ⟨U,U,U,Z⟩))))))))
 refine mV (Pt g_0) U (hH U U (fA 0 lH U U (bw 0 Z isAgg22 U U U (aW U underlying22 U (ai h0_0) (bD U U U (aC (v:=Bo ((decide (n_<1)) || ((r_.b.length:Int) == 0))) U U (fb b4 U) (nn (rj b3 ⟨U,U,U,Z⟩))))))))
 intro f w_ hR
 obtain ⟨ag,c4,c5,Z⟩:=rk b3 hR
 refine al (b:=((decide (n_<1)) || ((r_.b.length:Int) == 0))) c5 (fun b5=>?_) (fun b5=>?_)
 have hF:=(az b5).symm.trans hF
 refine sq (aI U (nn (aA (aN (v1:=I 0) results127 U ?_))))
 obtain rfl:=so hF
 exact ⟨U,Z⟩
 have hF:=(ay b5).symm.trans hF
 refine aq (sq (mF ag U (hH U U (fA 1 vi U U (bw 0 Z isAgg3 U U U (db U U U (aI U (nq (sq (mI U (mF ag U (hH U U (fA 0 lH U U (bw 0 Z isAgg22 U U U (aW U underlying22 U (ai h0_0) (bh U U U (nn (al (b:=decide ((i64 ((i64 (r_.p+1)) - 1))<(r_.b.length:Int))) U (fun b8=>?_) (fun b8=>?_)))))))))))))))))))
 have hF:=(az b8).symm.trans hF
 refine ao ?_
 obtain ⟨x7,ec,hF⟩:=bind_some hF
 obtain ⟨ek,a6,hF⟩:=bind_some hF
 refine ae (mF ag U (hH U U (fA 0 lH U U (bw 0 Z isAgg22 U U U (mI U (bP (r:=RP.u8) U underlying22 sizeOf5 U h0_0 U ec (fun en et dg a0 ch=>?_)))))))
 obtain rfl:_=[_]:=a0
 refine bt U isAgg5 U (At.cell (dn.at ch Z.sub) (j:=0) U) (BA (n:=(x7.toNat:Int)) U U ⟨_,underlying5⟩ underlying3 (mF c4 U (AT (m:=i64 (x7.toNat:Int)) (n:=n_) U U U (fun he=>by rw [if_pos he] at a6; cases a6) (aI U (nn (aA (aN (v1:=I (Int.tmod (i64 (x7.toNat:Int)) n_)) results127 U ?_)))))))
 obtain rfl:=so hF
 exact ⟨U,Z⟩
 have hF:=(ay b8).symm.trans hF
 refine aq (ao ?_)
 obtain ⟨eu,bd,hF⟩:=bind_some hF
 obtain ⟨J,c6,hF⟩:=bind_some hF
 obtain ⟨e0,bs,hF⟩:=bind_some hF
 obtain ⟨R,c7,hF⟩:=bind_some hF
 obtain ⟨e1,b0,hF⟩:=bind_some hF
 refine bT 44 [aZ (Pt g_0),aZ (Pt g_0),aZ (Pt g_0),aZ (v0_0),aZ (I (i64 ((i64 (r_.p+1)) - 1))),aZ (Pt g_0),aZ (Pt g_0),aZ (Pt g_0),aZ (v0_0),aZ (I (r_.b.length:Int)),aZ (I (Int.tmod (i64 ((i64 (r_.p+1)) - 1)) (r_.b.length:Int))),gC RP.u8 J 0,aZ (.int .u8 (J.toNat:Int)),aZ (I (i64 (J.toNat:Int))),aZ (I (i64 ((i64 (J.toNat:Int)) * 131))),aZ (Pt g_0),aZ (Pt g_0),aZ (Pt g_0),aZ (v0_0),aZ (I (i64 ((i64 (r_.p+1)) - 1))),aZ (I (i64 ((i64 ((i64 (r_.p+1)) - 1)) * 7))),aZ (I (i64 ((i64 ((i64 ((i64 (r_.p+1)) - 1)) * 7))+3))),aZ (Pt g_0),aZ (Pt g_0),aZ (Pt g_0),aZ (v0_0),aZ (I (r_.b.length:Int)),aZ (I (Int.tmod (i64 ((i64 ((i64 ((i64 (r_.p+1)) - 1)) * 7))+3)) (r_.b.length:Int))),gC RP.u8 R 0,aZ (.int .u8 (R.toNat:Int)),aZ (I (i64 (R.toNat:Int))),aZ (I (i64 ((i64 (R.toNat:Int)) * 1117))),aZ (I (i64 ((i64 ((i64 (J.toNat:Int)) * 131))+(i64 ((i64 (R.toNat:Int)) * 1117))))),aZ (I (i64 ((i64 (r_.p+1)) - 1))),aZ (I (i64 ((i64 ((i64 (r_.p+1)) - 1)) * 29))),aZ (I (i64 ((i64 ((i64 ((i64 (J.toNat:Int)) * 131))+(i64 ((i64 (R.toNat:Int)) * 1117))))+(i64 ((i64 ((i64 (r_.p+1)) - 1)) * 29))))),aZ (I (i64 ((i64 (r_.p+1)) - 1))),aZ (Pt g_0),aZ (Pt g_0),aZ (Pt g_0),aZ (v0_0),aZ (I (r_.b.length:Int)),aZ (I (i64 (Int.tdiv (i64 ((i64 (r_.p+1)) - 1)) (r_.b.length:Int)))),aZ (I (i64 ((i64 (Int.tdiv (i64 ((i64 (r_.p+1)) - 1)) (r_.b.length:Int))) * 53)))] [box g_0 136 #[v0_0,I (i64 (r_.p+1))]] [] ([]) [([],[]),([],[]),([],[]),([],[]),([],[]),([],[]),([],[]),([],[]),([],[]),([],[]),([],[]),([],[]),([],[]),([],[]),([],[]),([],[]),([],[]),([],[]),([],[]),([],[]),([],[]),([],[]),([],[]),([],[]),([],[]),([],[]),([],[]),([],[]),([],[]),([],[]),([],[]),([],[]),([],[]),([],[]),([],[]),([],[]),([],[]),([],[]),([],[]),([],[]),([],[]),([],[]),([],[]),([],[])] (S:=[]) aP (by kernel_rfl) U (by kernel_rfl) (ad (ah _) (ad (ah _) (ad (ah _) (ad (ah _) (ad (ah _) (ad (ah _) (ad (ah _) (ad (ah _) (ad (ah _) (ad (ah _) (ad (ah _) (ad (bU _ _ _) (ad (ah _) (ad (ah _) (ad (ah _) (ad (ah _) (ad (ah _) (ad (ah _) (ad (ah _) (ad (ah _) (ad (ah _) (ad (ah _) (ad (ah _) (ad (ah _) (ad (ah _) (ad (ah _) (ad (ah _) (ad (ah _) (ad (bU _ _ _) (ad (ah _) (ad (ah _) (ad (ah _) (ad (ah _) (ad (ah _) (ad (ah _) (ad (ah _) (ad (ah _) (ad (ah _) (ad (ah _) (ad (ah _) (ad (ah _) (ad (ah _) (ad (ah _) (ad (ah _) bV)))))))))))))))))))))))))))))))))))))))))))) Z ?_ (fun f w_ a5 an o b1 Z=>?_)
 refine aa (fun f w_ _ _ s _ _ Z=>mF ((s 0 U).trans ag) U (nO U U Z)) (aa (fun f w_ _ _ _ _ p Z=>hH U (p 0 47 U U) (nO U U Z)) (aa (fun f w_ _ _ _ _ p Z=>fA 0 lH (p 1 48 U U) U (nO U U Z)) (aa (fun f w_ _ _ _ _ p Z=>bw 0 Z isAgg22 (p 2 49 U U) U U (nO U U Z)) (aa (fun f w_ _ _ s _ _ Z=>mF ((s 5 U).trans U) U (nO U U Z)) (aa (fun f w_ _ _ s _ _ Z=>mF ((s 0 U).trans ag) U (nO U U Z)) (aa (fun f w_ _ _ _ _ p Z=>hH U (p 5 52 U U) (nO U U Z)) (aa (fun f w_ _ _ _ _ p Z=>fA 0 lH (p 6 53 U U) U (nO U U Z)) (aa (fun f w_ _ _ _ _ p Z=>bw 0 Z isAgg22 (p 7 54 U U) U U (nO U U Z)) (aa (fun f w_ _ _ _ o p Z=>aW U underlying22 (p 8 55 U U) (ai (RP.mono _ h0_0 o)) (nO U U Z)) (aa (fun f w_ _ _ _ _ p Z=>AT (m:=i64 ((i64 (r_.p+1)) - 1)) (n:=(r_.b.length:Int)) U (p 4 51 U U) (p 9 56 U U) (fun he=>by rw [if_pos he] at bd; cases bd) (nO U U Z)) (aa ?_ ?_)))))))))))
 intro f w_ a5 cn an o af Z
 refine bP (r:=RP.u8) U underlying22 sizeOf5 (af 3 50 U U) (RP.mono _ h0_0 o) (af 10 57 U U) c6 (fun e2 e3 dj a1 cp=>?_)
 obtain rfl:_=[_]:=a1
 exact ax ⟨U,_,_,U,Le.refl _,fun _ _=>⟨_,_,_,U,U,cp⟩,Z⟩
 refine aa ?_ ?_
 intro f w_ a5 cn an o af Z
 obtain ⟨e4,e5,ee,c8,a2,c1⟩:=(af 11 58 U U)
 obtain rfl:_=[_]:=a2
 refine bt U isAgg5 c8 (At.cell (dn.at c1 Z.sub) (j:=0) U) (ax ⟨U,_,_,U,Le.refl _,fun _ _=>rfl,Z⟩)
 refine aa (fun f w_ _ _ _ _ p Z=>BA (n:=(J.toNat:Int)) U (p 12 59 U U) ⟨_,underlying5⟩ underlying3 (nO U U Z)) (aa (fun f w_ _ _ _ _ p Z=>rf U (p 13 60 U U) U (nO U U Z)) (aa (fun f w_ _ _ s _ _ Z=>mF ((s 0 U).trans ag) U (nO U U Z)) (aa (fun f w_ _ _ _ _ p Z=>hH U (p 15 62 U U) (nO U U Z)) (aa (fun f w_ _ _ _ _ p Z=>fA 0 lH (p 16 63 U U) U (nO U U Z)) (aa (fun f w_ _ _ _ _ p Z=>bw 0 Z isAgg22 (p 17 64 U U) U U (nO U U Z)) (aa (fun f w_ _ _ s _ _ Z=>mF ((s 5 U).trans U) U (nO U U Z)) (aa (fun f w_ _ _ _ _ p Z=>rf U (p 19 66 U U) U (nO U U Z)) (aa (fun f w_ _ _ _ _ p Z=>bf U (p 20 67 U U) U (nO U U Z)) (aa (fun f w_ _ _ s _ _ Z=>mF ((s 0 U).trans ag) U (nO U U Z)) (aa (fun f w_ _ _ _ _ p Z=>hH U (p 22 69 U U) (nO U U Z)) (aa (fun f w_ _ _ _ _ p Z=>fA 0 lH (p 23 70 U U) U (nO U U Z)) (aa (fun f w_ _ _ _ _ p Z=>bw 0 Z isAgg22 (p 24 71 U U) U U (nO U U Z)) (aa (fun f w_ _ _ _ o p Z=>aW U underlying22 (p 25 72 U U) (ai (RP.mono _ h0_0 o)) (nO U U Z)) (aa (fun f w_ _ _ _ _ p Z=>AT (m:=i64 ((i64 ((i64 ((i64 (r_.p+1)) - 1)) * 7))+3)) (n:=(r_.b.length:Int)) U (p 21 68 U U) (p 26 73 U U) (fun he=>by rw [if_pos he] at bs; cases bs) (nO U U Z)) (aa ?_ ?_)))))))))))))))
 intro f w_ a5 cn an o af Z
 refine bP (r:=RP.u8) U underlying22 sizeOf5 (af 18 65 U U) (RP.mono _ h0_0 o) (af 27 74 U U) c7 (fun fa fo ds a3 c2=>?_)
 obtain rfl:_=[_]:=a3
 exact ax ⟨U,_,_,U,Le.refl _,fun _ _=>⟨_,_,_,U,U,c2⟩,Z⟩
 refine aa ?_ ?_
 intro f w_ a5 cn an o af Z
 obtain ⟨fs,fu,ej,dd,a4,c3⟩:=(af 28 75 U U)
 obtain rfl:_=[_]:=a4
 refine bt U isAgg5 dd (At.cell (dn.at c3 Z.sub) (j:=0) U) (ax ⟨U,_,_,U,Le.refl _,fun _ _=>rfl,Z⟩)
 refine aa (fun f w_ _ _ _ _ p Z=>BA (n:=(R.toNat:Int)) U (p 29 76 U U) ⟨_,underlying5⟩ underlying3 (nO U U Z)) (aa (fun f w_ _ _ _ _ p Z=>rf U (p 30 77 U U) U (nO U U Z)) (aa (fun f w_ _ _ _ _ p Z=>bf U (p 14 61 U U) (p 31 78 U U) (nO U U Z)) (aa (fun f w_ _ _ s _ _ Z=>mF ((s 5 U).trans U) U (nO U U Z)) (aa (fun f w_ _ _ _ _ p Z=>rf U (p 33 80 U U) U (nO U U Z)) (aa (fun f w_ _ _ _ _ p Z=>bf U (p 32 79 U U) (p 34 81 U U) (nO U U Z)) (aa (fun f w_ _ _ s _ _ Z=>mF ((s 5 U).trans U) U (nO U U Z)) (aa (fun f w_ _ _ s _ _ Z=>mF ((s 0 U).trans ag) U (nO U U Z)) (aa (fun f w_ _ _ _ _ p Z=>hH U (p 37 84 U U) (nO U U Z)) (aa (fun f w_ _ _ _ _ p Z=>fA 0 lH (p 38 85 U U) U (nO U U Z)) (aa (fun f w_ _ _ _ _ p Z=>bw 0 Z isAgg22 (p 39 86 U U) U U (nO U U Z)) (aa (fun f w_ _ _ _ o p Z=>aW U underlying22 (p 40 87 U U) (ai (RP.mono _ h0_0 o)) (nO U U Z)) (aa (fun f w_ _ _ _ _ p Z=>Co (m:=i64 ((i64 (r_.p+1)) - 1)) (n:=(r_.b.length:Int)) U (p 36 83 U U) (p 41 88 U U) (fun he=>by rw [if_pos he] at b0; cases b0) (nO U U Z)) (aa (fun f w_ _ _ _ _ p Z=>rf U (p 42 89 U U) U (nO U U Z)) (aQ))))))))))))))
 refine bf U (b1 35 82 U U) (b1 43 90 U U) (aI U (ns (mI U (mI U (Co (m:=i64 ((i64 ((i64 ((i64 ((i64 (J.toNat:Int)) * 131))+(i64 ((i64 (R.toNat:Int)) * 1117))))+(i64 ((i64 ((i64 (r_.p+1)) - 1)) * 29))))+(i64 ((i64 (Int.tdiv (i64 ((i64 (r_.p+1)) - 1)) (r_.b.length:Int))) * 53)))) (n:=64) U U U (by decide) (Fy (m:=i64 ((i64 ((i64 ((i64 ((i64 (J.toNat:Int)) * 131))+(i64 ((i64 (R.toNat:Int)) * 1117))))+(i64 ((i64 ((i64 (r_.p+1)) - 1)) * 29))))+(i64 ((i64 (Int.tdiv (i64 ((i64 (r_.p+1)) - 1)) (r_.b.length:Int))) * 53)))) (n:=i64 (Int.tdiv (i64 ((i64 ((i64 ((i64 ((i64 (J.toNat:Int)) * 131))+(i64 ((i64 (R.toNat:Int)) * 1117))))+(i64 ((i64 ((i64 (r_.p+1)) - 1)) * 29))))+(i64 ((i64 (Int.tdiv (i64 ((i64 (r_.p+1)) - 1)) (r_.b.length:Int))) * 53)))) 64)) U U U (aI U (nq ?_))))))))
 obtain ⟨gd,b2,hF⟩:=bind_some hF
 refine ae (mI U (mF ((an 1 U).trans c4) U (AT (m:=(zW .i64 (i64 ((i64 ((i64 ((i64 ((i64 (J.toNat:Int)) * 131))+(i64 ((i64 (R.toNat:Int)) * 1117))))+(i64 ((i64 ((i64 (r_.p+1)) - 1)) * 29))))+(i64 ((i64 (Int.tdiv (i64 ((i64 (r_.p+1)) - 1)) (r_.b.length:Int))) * 53)))) (i64 (Int.tdiv (i64 ((i64 ((i64 ((i64 ((i64 (J.toNat:Int)) * 131))+(i64 ((i64 (R.toNat:Int)) * 1117))))+(i64 ((i64 ((i64 (r_.p+1)) - 1)) * 29))))+(i64 ((i64 (Int.tdiv (i64 ((i64 (r_.p+1)) - 1)) (r_.b.length:Int))) * 53)))) 64)))) (n:=n_) U U U (fun he=>by rw [if_pos he] at b2; cases b2) (aI U (nn (aA (aN (v1:=I (Int.tmod (zW .i64 (i64 ((i64 ((i64 ((i64 ((i64 (J.toNat:Int)) * 131))+(i64 ((i64 (R.toNat:Int)) * 1117))))+(i64 ((i64 ((i64 (r_.p+1)) - 1)) * 29))))+(i64 ((i64 (Int.tdiv (i64 ((i64 (r_.p+1)) - 1)) (r_.b.length:Int))) * 53)))) (i64 (Int.tdiv (i64 ((i64 ((i64 ((i64 ((i64 (J.toNat:Int)) * 131))+(i64 ((i64 (R.toNat:Int)) * 1117))))+(i64 ((i64 ((i64 (r_.p+1)) - 1)) * 29))))+(i64 ((i64 (Int.tdiv (i64 ((i64 (r_.p+1)) - 1)) (r_.b.length:Int))) * 53)))) 64))) n_)) results127 U ?_)))))))
 obtain rfl:=so hF
 exact ⟨U,(ab.down Z o (cb c0))⟩
theorem dQ {r_:Rd} {list:List Int} {g_0:Nat} {v0_0:Value} {v1:Value} {H:FH} {w:World} (Z:ab H w [box g_0 136 #[v0_0,I r_.p]]) (h0_0:(rS 5 RP.u8).rel H [v0_0] r_.b) (h1:(rS 3 RP.int).rel H [v1] list) {r:Int × Int} (hF:dy r_ list=some r):C prog 75 #[Pt g_0,v1] w fun v w'=>v=I r.1∧ab H w' [box g_0 136 #[v0_0,I r.2]]:=by
 unfold dy at hF
 refine aE func75 U ntmps75 U (sq (aI U (nq ?_)))
 obtain ⟨x6,af,hF⟩:=bind_some hF
 obtain ⟨x8,ag,hF⟩:=bind_some hF
 refine ae (mV v1 U (mV (Pt g_0) U (mV v1 U (aW U underlying23 U (ai h1) ?_))))
 obtain ⟨a2,an,a0,a3,a1⟩:=Z.lS [_]
 refine ar U call127 (cu U U) (jv (r_:=r_) (n_:=(list.length:Int)) a0 (RP.mono _ h0_0 an) af) ?_
 rintro _ a4 ⟨rfl,Z⟩
 have Z:=a1 Z (cb c0)
 refine bP (r:=RP.int) U underlying23 sizeOf3 U h1 U ag (fun a5 a6 R o J=>?_)
 obtain rfl:_=[_]:=o
 refine bt U isAgg3 U (At.cell (dn.at J Z.sub) (j:=0) U) (aI U (nn (aA (aN (v1:=I x8) results75 U ?_))))
 obtain rfl:=so hF
 exact ⟨U,Z⟩
theorem Ak {m:Model} {v0_0:Value} {v0_1:Value} {H:FH} {w:World} (Z:ab H w []) (h0_0:(rS 3 RP.int).rel H [v0_0] m.sizes) (h0_1:(rS 79 (cY 3 23)).rel H [v0_1] m.rules) {r:Model} (hF:p8 m=some r):C prog 126 #[.agg #[v0_0,v0_1]] w fun v w'=>∃ (u1:Value) (u2:Value),v=.agg #[u1,u2]∧ab H w' [oF 3 RP.int u1 r.sizes,oS 79 (cF 3 23) u2 r.rules]:=by
 unfold p8 at hF
 refine aE func126 U ntmps126 U (sq (cr (v:=.agg #[v0_0,v0_1]) (cs:=#[v0_0,v0_1]) U U U Z (fun g5 w6 Z=>dS (cs:=#[S0,S0]) U zeroValue26 U Z (fun g7 w8 Z=>nq ?_))))
 obtain ⟨ch,hG,hF⟩:=bind_some hF
 refine ae (cS U cC (jd  ) Z (fun h3 l7 Z=>?_))
 have Z:=ab.bS (R:=(OR.bu RP.int)) [] [] 0 Z U U U (by decide)
 refine fA 0 bN U U (bw 2 Z isAgg23 U U U (qZ (v:=(Sl h3 0 0)) (u:=v0_0) U eb U U Z h0_0 hG (fun a2 l8 Z=>da U (bG U) (Cj (a2) (aH (ab.len 0 Z U))) (dS (cs:=#[S0,S0]) U zeroValue26 U Z (fun bd l9 Z=>bg (vs:=#[a2,S0]) (cs2:=#[a2,S0]) 0 U sizeOf26 U U U (aj (aH (ab.len 1 Z U)) (aj U aK)) Z U (by show 0+2≤2; decide) U (fun mg Z=>nq (sq (aI U (nn ?_)))))))))
 have hh:List.length m.rules≤9223372036854775807:=bB (ai h0_1)
 obtain ⟨hJ,ee,hF⟩:=bind_some hF
 obtain ⟨h4,hn⟩:=ca fun f w_=>∃ ag:List Rule,∃ eu,∃ o,hJ=.nx ag∧Le H eu∧f 2=Pt g7∧f 3=Pt bd∧ab eu w_ ([oF 3 RP.int a2 ch,oS 79 (cF 3 23) o ag,box bd 26 #[a2,o],box g7 26 #[S0,S0]])
 refine av h4 ?_ ?_
 refine ak ?_
 obtain ⟨hK,g4⟩:=ff fun n f w_=>∃ c4:Nat,∃ cn:List Rule,∃ ag:List Rule,∃ eu,∃ o,n=cn.length∧List.drop c4 m.rules=cn∧c4+cn.length=m.rules.length∧aw pJ cn c4 ag=some hJ∧Le H eu∧f 1=Pt g5∧f 2=Pt g7∧f 3=Pt bd∧f 4=I c4∧ab eu w_ ([oF 3 RP.int a2 ch,oS 79 (cF 3 23) o ag,box bd 26 #[a2,o],box g7 26 #[S0,S0],box g5 26 #[v0_0,v0_1]])
 have Z:=ab.bE (R:=(cF 3 23)) (e:=79) Z
 have Z:=Z.aU [4,4,3,3,4] U
 refine a8 hK (n:=m.rules.length) ?_ ?_
 exact ij g4 ⟨0,m.rules,[],H,S0,U,U,Nat.zero_add _,ee,(Le.refl _),U,U,U,U,Z⟩
 intro m0 f w_ hI
 obtain ⟨c4,cn,ag,eu,o,rfl,ho,fu,ee,g2,e0,ec,ds,e1,Z⟩:=ik g4 hI
 refine ao (sq (mF e1 U (fA 1 fB e0 U (bw 4 Z isAgg24 U U U (aW U underlying24 U (ai (RP.mono _ h0_1 g2)) (bh U U U (nn (al (b:=decide ((c4:Int)<(m.rules.length:Int))) U (fun g6=>?_) (fun g6=>?_)))))))))
 have hr:=of_decide_eq_true g6
 rcases cn with _ | ⟨J,gd⟩
 exact absurd hr (by simp at fu; omega)
 obtain ⟨m1,b5,ee⟩:=aJ ee
 rw [pJ] at b5
 have hs:=aY ho
 refine aq (ao (ak (sq (fA 1 fB e0 U (bw 4 Z isAgg24 U U U (mF e1 U (bP (r:=(cY 3 23)) U underlying24 sizeOf79 U (RP.mono _ h0_1 g2) U hs (fun m2 n0 h2 e5 ht=>?_))))))))
 obtain ⟨a3,a4,a5,rfl,g0,g1,dj⟩:=iL.1 e5
 refine a7 (cs:=[I J.kind,a3,a4,I J.bound,a5]) U isAgg79 sizeOf79 U (At.sub (dn.at ht Z.sub) 0 5) U (dS (cs:=#[I 0,S0,S0,I 0,S0]) U zeroValue79 U Z (fun b1 n1 Z=>bg (vs:=#[I J.kind,a3,a4,I J.bound,a5]) (cs2:=#[I J.kind,a3,a4,I J.bound,a5]) 0 U sizeOf79 U U U (aj U (aj (aH (ai g0)) (aj (aH (ai g1)) (aj U (aj (aH (ai dj)) aK))))) Z U (by show 0+5≤5; decide) U (fun n2 Z=>nq ?_)))
 obtain ⟨cp,hN,b5⟩:=bind_some b5
 obtain ⟨c1,hP,b5⟩:=bind_some b5
 refine bT 14 [aZ (Pt b1),aZ (I J.kind),gE,aZ (Pq b1 1),aZ (a3),gE,gE,aZ (Pq b1 2),aZ (a4),gE,aZ (Pq b1 3),aZ (I J.bound),xW fun h5=>xW fun h6=>aZ (.agg #[I J.kind,h5,h6,I J.bound,S0]),gE] [box b1 79 #[I J.kind,a3,a4,I J.bound,a5],oF 3 RP.int a2 ch,oS 79 (cF 3 23) o ag,box bd 26 #[a2,o],box g7 26 #[S0,S0],box g5 26 #[v0_0,v0_1]] [.made 2 27 (fun v_=>oF 3 RP.int v_ ([])) (some 5),.made 5 30 (fun v_=>oF 3 RP.int v_ cp) (some 12),.made 6 31 (fun v_=>oF 3 RP.int v_ ([])) (some 9),.made 9 34 (fun v_=>oF 3 RP.int v_ c1) (some 12),.made 12 37 (fun v_=>oF 3 RP.int (dm v_ 1) cp) none,.made 12 37 (fun v_=>oF 3 RP.int (dm v_ 2) c1) none,.made 13 6 (fun v_=>uw v_ 79 #[I 0,S0,S0,I 0,S0]) none] ([]) [([],[]),([],[]),([],[0]),([],[]),([],[]),([0],[1]),([],[2]),([],[]),([],[]),([2],[3]),([],[]),([],[]),([1,3],[4,5]),([],[6])] (S:=[(some 2,[27],some 5),(some 5,[30],some 12),(some 6,[31],some 9),(some 9,[34],some 12),(some 12,[37],none),(some 12,[37],none),(some 13,[6],none)]) aP (by kernel_rfl) U (by kernel_rfl) (ad (ah _) (ad (ah _) (ad (bO) (ad (ah _) (ad (ah _) (ad (bO) (ad (bO) (ad (ah _) (ad (ah _) (ad (bO) (ad (ah _) (ad (ah _) (ad (fh fun _=>fh fun _=>ah _) (ad (bO) bV)))))))))))))) Z ?_ (fun f w_ c2 b2 b0 hQ Z=>?_)
 refine aa (fun f w_ _ _ s _ _ Z=>fA 0 gB ((s 5 U).trans U) U (nO U U Z)) (aa (fun f w_ _ _ _ _ p Z=>bw 0 Z isAgg3 (p 0 25 U U) U U (nO U U Z)) (aa ?_ ?_))
 intro f w_ c2 e2 b2 b0 c5 Z
 refine cS U cC (jd  ) Z (fun n3 n4 Z=>?_)
 have Z:=ab.bS (R:=(OR.bu RP.int)) [] [] 0 Z U U U (by decide)
 have Z:=Z.aU [6,6,6,6,6,6] U
 exact ax ⟨U,_,_,U,Le.refl _,fun _ _=>trivial,Z⟩
 refine aa (fun f w_ _ _ s _ _ Z=>fA 1 cM ((s 5 U).trans U) U (nO U U Z)) (aa (fun f w_ _ _ _ _ p Z=>bw 0 Z isAgg23 (p 3 28 U U) U U (nO U U Z)) (aa ?_ ?_))
 intro f w_ c2 e2 b2 b0 c5 Z
 have Z:ab c2 w_ (box b1 79 #[I J.kind,a3,a4,I J.bound,a5] :: oF 3 RP.int a2 ch :: oS 79 (cF 3 23) o ag :: box bd 26 #[a2,o] :: box g7 26 #[S0,S0] :: box g5 26 #[v0_0,v0_1] :: oF 3 RP.int (f 27) ([]) :: e2):=Z
 have Z:=Z.get 6 U
 refine qZ (v:=(f 27)) (u:=a3) U eb U (c5 4 29 U U) Z (RP.mono _ g0 b0) hN (fun n5 n6 Z=>?_)
 have Z:=Z.aU [6,6,6,6,6,6] U
 exact ax ⟨U,_,_,U,Le.refl _,fun _ _=>trivial,Z⟩
 refine aa ?_ ?_
 intro f w_ c2 e2 b2 b0 c5 Z
 refine cS U cC (jd  ) Z (fun n7 n8 Z=>?_)
 have Z:=ab.bS (R:=(OR.bu RP.int)) [] [] 0 Z U U U (by decide)
 have Z:=Z.aU [6,6,6,6,6,6] U
 exact ax ⟨U,_,_,U,Le.refl _,fun _ _=>trivial,Z⟩
 refine aa (fun f w_ _ _ s _ _ Z=>fA 2 hO ((s 5 U).trans U) U (nO U U Z)) (aa (fun f w_ _ _ _ _ p Z=>bw 0 Z isAgg23 (p 7 32 U U) U U (nO U U Z)) (aa ?_ ?_))
 intro f w_ c2 e2 b2 b0 c5 Z
 have Z:ab c2 w_ (box b1 79 #[I J.kind,a3,a4,I J.bound,a5] :: oF 3 RP.int a2 ch :: oS 79 (cF 3 23) o ag :: box bd 26 #[a2,o] :: box g7 26 #[S0,S0] :: box g5 26 #[v0_0,v0_1] :: oF 3 RP.int (f 31) ([]) :: e2):=Z
 have Z:=Z.get 6 U
 refine qZ (v:=(f 31)) (u:=a4) U eb U (c5 8 33 U U) Z (RP.mono _ g1 b0) hP (fun ob oh Z=>?_)
 have Z:=Z.aU [6,6,6,6,6,6] U
 exact ax ⟨U,_,_,U,Le.refl _,fun _ _=>trivial,Z⟩
 refine aa (fun f w_ _ _ s _ _ Z=>fA 3 km ((s 5 U).trans U) U (nO U U Z)) (aa (fun f w_ _ _ _ _ p Z=>bw 0 Z isAgg3 (p 10 35 U U) U U (nO U U Z)) (aa ?_ ?_))
 intro f w_ c2 e2 b2 b0 c5 Z
 have Z:ab c2 w_ (box b1 79 #[I J.kind,a3,a4,I J.bound,a5] :: oF 3 RP.int a2 ch :: oS 79 (cF 3 23) o ag :: box bd 26 #[a2,o] :: box g7 26 #[S0,S0] :: box g5 26 #[v0_0,v0_1] :: oF 3 RP.int (f 30) cp :: oF 3 RP.int (f 34) c1 :: e2):=Z
 refine da U (xO (c5 1 26 U U) U U (c5 11 36 U U)) (uy (I J.kind) ((f 30)) ((f 34)) (I J.bound) U (aH (ab.len 6 Z U)) (aH (ab.len 7 Z U)) U) (ax ⟨U,_,_,U,Le.refl _,fun _ _=>⟨_,_,U⟩,Z⟩)
 refine aa ?_ ?_
 intro f w_ c2 e2 b2 b0 c5 Z
 refine dS (cs:=#[I 0,S0,S0,I 0,S0]) U zeroValue79 U Z (fun h7 oj Z=>?_)
 have Z:=Z.aU [6,6,6,6,6,6,6] U
 have Z:=ab.uw (v:=Pt h7) U Z
 have Z:=Z.aU [6,6,6,6,6,6] U
 exact ax ⟨U,_,_,U,Le.refl _,fun _ _=>trivial,Z⟩
 exact aQ
 have Z:ab c2 w_ ([box b1 79 #[I J.kind,a3,a4,I J.bound,a5],oF 3 RP.int a2 ch,oS 79 (cF 3 23) o ag,box bd 26 #[a2,o],box g7 26 #[S0,S0],box g5 26 #[v0_0,v0_1],own (OR.bq 3 (OR.bu RP.int)) [(dm (f 37) 1)] cp,own (OR.bq 3 (OR.bu RP.int)) [(dm (f 37) 2)] c1,uw (f 6) 79 #[I 0,S0,S0,I 0,S0]]):=Z
 obtain ⟨a0,a1,g8⟩:=(hQ 12 37 U U)
 have hren:ab c2 w_ ([box b1 79 #[I J.kind,a3,a4,I J.bound,a5],oF 3 RP.int a2 ch,oS 79 (cF 3 23) o ag,box bd 26 #[a2,o],box g7 26 #[S0,S0],box g5 26 #[v0_0,v0_1],own (OR.bq 3 (OR.bu RP.int)) [(dm (f 37) 1)] cp,own (OR.bq 3 (OR.bu RP.int)) [(dm (f 37) 2)] c1,uw (f 6) 79 #[I 0,S0,S0,I 0,S0]]):=Z
 rw [g8] at hren
 have Z:ab c2 w_ ([box b1 79 #[I J.kind,a3,a4,I J.bound,a5],oF 3 RP.int a2 ch,oS 79 (cF 3 23) o ag,box bd 26 #[a2,o],box g7 26 #[S0,S0],box g5 26 #[v0_0,v0_1],oF 3 RP.int a0 cp,oF 3 RP.int a1 c1,uw (f 6) 79 #[I 0,S0,S0,I 0,S0]]):=hren
 obtain ⟨c6,g9,Z⟩:=ab.CW (ab.get 8 Z U)
 refine bg (vs:=#[I J.kind,a0,a1,I J.bound,S0]) (cs2:=#[I J.kind,a0,a1,I J.bound,S0]) 0 U sizeOf79 g9 g8 U (aj U (aj (aH (ab.len 7 Z U)) (aj (aH (ab.len 8 Z U)) (aj U (aj U aK))))) Z U (by show 0+5≤5; decide) U (fun ih Z=>ax (ao (sq (aI U (nn ?_)))))
 have ha:List.length J.rows≤9223372036854775807:=bB (ai (RP.mono _ dj b0))
 obtain ⟨hp,c8,b5⟩:=bind_some b5
 obtain ⟨hS,hb⟩:=ca fun f w_=>∃ an:List (List Int),∃ c7,∃ af,hp=.nx an∧Le c2 c7∧f 1=Pt g5∧f 2=Pt g7∧f 3=Pt bd∧f 4=I c4∧f 6=Pt c6∧ab c7 w_ ([oF 3 RP.int a0 cp,oF 3 RP.int a1 c1,own (OR.bq 23 (OR.bq 3 (OR.bu RP.int))) [af] an,box c6 79 #[I J.kind,a0,a1,I J.bound,af],oF 3 RP.int a2 ch,oS 79 (cF 3 23) o ag,box bd 26 #[a2,o],box g7 26 #[S0,S0],box g5 26 #[v0_0,v0_1]])
 refine av hS ?_ ?_
 refine ak ?_
 obtain ⟨hq,fa⟩:=ff fun n f w_=>∃ b3:Nat,∃ bs:List (List Int),∃ an:List (List Int),∃ c7,∃ af,n=bs.length∧List.drop b3 J.rows=bs∧b3+bs.length=J.rows.length∧aw qs bs b3 an=some hp∧Le c2 c7∧f 1=Pt g5∧f 2=Pt g7∧f 3=Pt bd∧f 4=I c4∧f 5=Pt b1∧f 6=Pt c6∧f 7=I b3∧ab c7 w_ ([oF 3 RP.int a0 cp,oF 3 RP.int a1 c1,own (OR.bq 23 (OR.bq 3 (OR.bu RP.int))) [af] an,box c6 79 #[I J.kind,a0,a1,I J.bound,af],box b1 79 #[I J.kind,a3,a4,I J.bound,a5],oF 3 RP.int a2 ch,oS 79 (cF 3 23) o ag,box bd 26 #[a2,o],box g7 26 #[S0,S0],box g5 26 #[v0_0,v0_1]])
 have Z:=ab.bE (R:=(OR.bq 3 (OR.bu RP.int))) (e:=23) Z
 have Z:=Z.aU [7,7,7,7,7,7,7,7,9,9] U
 refine a8 hq (n:=J.rows.length) ?_ ?_
 exact ij fa ⟨0,J.rows,[],c2,S0,U,U,Nat.zero_add _,c8,(Le.refl _),((b2 1 U).trans e0),((b2 2 U).trans ec),((b2 3 U).trans ds),((b2 4 U).trans e1),((b2 5 U).trans U),g9,U,Z⟩
 intro jn f w_ hI
 obtain ⟨b3,bs,an,c7,af,rfl,hc,et,c8,ej,e0,ec,ds,e1,hv,g3,hx,Z⟩:=ik fa hI
 refine ao (sq (mF hx U (fA 4 ez hv U (bw 4 Z isAgg77 U U U (aW U underlying77 U (ai (RP.mono _ dj (Le.trans b0 ej))) (bh U U U (nn (al (b:=decide ((b3:Int)<(J.rows.length:Int))) U (fun fo=>?_) (fun fo=>?_)))))))))
 have hi:=of_decide_eq_true fo
 rcases bs with _ | ⟨fs,e3⟩
 exact absurd hi (by simp at et; omega)
 obtain ⟨j1,dd,c8⟩:=aJ c8
 rw [qs] at dd
 have hj:=aY hc
 refine aq (ao (ak ?_))
 obtain ⟨ek,hy,dd⟩:=bind_some dd
 obtain ⟨hV,hz,dd⟩:=bind_some dd
 refine bT 10 [aZ (Pq c6 4),aZ (af),gE,aZ (Pq b1 4),aZ (a5),aZ (I b3),gC (rS 3 RP.int) fs 0,eJ (rS 3 RP.int) fs,gE,gE] [oF 3 RP.int a0 cp,oF 3 RP.int a1 c1,own (OR.bq 23 (OR.bq 3 (OR.bu RP.int))) [af] an,box c6 79 #[I J.kind,a0,a1,I J.bound,af],box b1 79 #[I J.kind,a3,a4,I J.bound,a5],oF 3 RP.int a2 ch,oS 79 (cF 3 23) o ag,box bd 26 #[a2,o],box g7 26 #[S0,S0],box g5 26 #[v0_0,v0_1]] [.made 2 47 (fun v_=>oF 3 RP.int v_ ([])) (some 8),.made 8 53 (fun v_=>oF 3 RP.int v_ ek) (some 9),.made 9 54 (fun v_=>own (OR.bq 23 (OR.bq 3 (OR.bu RP.int))) [v_] ([ek])) none] ([]) [([],[]),([],[]),([],[0]),([],[]),([],[]),([],[]),([],[]),([],[]),([0],[1]),([1],[2])] (S:=[(some 2,[47],some 8),(some 8,[53],some 9),(some 9,[54],none)]) aP (by kernel_rfl) U (by kernel_rfl) (ad (ah _) (ad (ah _) (ad (bO) (ad (ah _) (ad (ah _) (ad (ah _) (ad (bU _ _ _) (ad (cA _ _) (ad (bO) (ad (bO) bV)))))))))) Z ?_ (fun f w_ b8 a6 c3 hA Z=>?_)
 refine aa (fun f w_ _ _ s _ _ Z=>fA 4 ez ((s 6 U).trans g3) U (nO U U Z)) (aa (fun f w_ _ _ _ _ p Z=>bw 3 Z isAgg77 (p 0 45 U U) U U (nO U U Z)) (aa ?_ ?_))
 intro f w_ b8 en a6 c3 b4 Z
 refine cS U cC (jd  ) Z (fun j2 j3 Z=>?_)
 have Z:=ab.bS (R:=(OR.bu RP.int)) [] [] 0 Z U U U (by decide)
 have Z:=Z.aU [10,10,10,10,10,10,10,10,10,10] U
 exact ax ⟨U,_,_,U,Le.refl _,fun _ _=>trivial,Z⟩
 refine aa (fun f w_ _ _ s _ _ Z=>fA 4 ez ((s 5 U).trans hv) U (nO U U Z)) (aa (fun f w_ _ _ _ _ p Z=>bw 4 Z isAgg77 (p 3 48 U U) U U (nO U U Z)) (aa (fun f w_ _ _ s _ _ Z=>mF ((s 7 U).trans hx) U (nO U U Z)) (aa ?_ ?_)))
 intro f w_ b8 en a6 c3 b4 Z
 refine bP (r:=(rS 3 RP.int)) U underlying77 sizeOf23 (b4 4 49 U U) (RP.mono _ dj (Le.trans (Le.trans b0 ej) c3)) (b4 5 50 U U) hj (fun j4 j5 hW dg hk=>?_)
 obtain ⟨j6,rfl,h8⟩:=kP dg
 exact ax ⟨U,_,_,U,Le.refl _,fun _ _=>⟨_,_,_,U,dg,hk⟩,Z⟩
 refine aa ?_ ?_
 intro f w_ b8 en a6 c3 b4 Z
 obtain ⟨j7,j8,h9,hB,e4,hl⟩:=(b4 6 51 U U)
 obtain ⟨kk,rfl,hC⟩:=kP e4
 refine bt U isAgg23 hB (At.cell (dn.at hl Z.sub) (j:=0) U) (ax ⟨U,_,_,U,Le.refl _,fun _ _=>hC,Z⟩)
 refine aa ?_ ?_
 intro f w_ b8 en a6 c3 b4 Z
 have Z:ab b8 w_ (oF 3 RP.int a0 cp :: oF 3 RP.int a1 c1 :: own (OR.bq 23 (OR.bq 3 (OR.bu RP.int))) [af] an :: box c6 79 #[I J.kind,a0,a1,I J.bound,af] :: box b1 79 #[I J.kind,a3,a4,I J.bound,a5] :: oF 3 RP.int a2 ch :: oS 79 (cF 3 23) o ag :: box bd 26 #[a2,o] :: box g7 26 #[S0,S0] :: box g5 26 #[v0_0,v0_1] :: oF 3 RP.int (f 47) ([]) :: en):=Z
 have hD:(rS 3 RP.int).rel b8 [f 52] fs:=(b4 7 52 U U)
 have Z:=Z.get 10 U
 refine qZ (v:=(f 47)) (u:=(f 52)) U eb U U Z hD hy (fun ks ky Z=>?_)
 have Z:=Z.aU [10,10,10,10,10,10,10,10,10,10] U
 exact ax ⟨U,_,_,U,Le.refl _,fun _ _=>trivial,Z⟩
 refine aa ?_ ?_
 intro f w_ b8 en a6 c3 b4 Z
 have Z:ab b8 w_ (oF 3 RP.int a0 cp :: oF 3 RP.int a1 c1 :: own (OR.bq 23 (OR.bq 3 (OR.bu RP.int))) [af] an :: box c6 79 #[I J.kind,a0,a1,I J.bound,af] :: box b1 79 #[I J.kind,a3,a4,I J.bound,a5] :: oF 3 RP.int a2 ch :: oS 79 (cF 3 23) o ag :: box bd 26 #[a2,o] :: box g7 26 #[S0,S0] :: box g5 26 #[v0_0,v0_1] :: oF 3 RP.int (f 53) ek :: en):=Z
 refine cS U (bG U) (wb ((f 53)) (aH (ab.len 10 Z U))) Z (fun k0 lo Z=>?_)
 have Z:=Z.get 11 U
 have Z:=ab.bS (R:=(OR.bq 3 (OR.bu RP.int))) [([(f 53)],ek)] [ek] 1 Z U U U (by decide)
 have Z:=Z.aU [10,10,10,10,10,10,10,10,10,10] U
 exact ax ⟨U,_,_,U,Le.refl _,fun _ _=>trivial,Z⟩
 exact aQ
 have Z:ab b8 w_ ([oF 3 RP.int a0 cp,oF 3 RP.int a1 c1,own (OR.bq 23 (OR.bq 3 (OR.bu RP.int))) [af] an,box c6 79 #[I J.kind,a0,a1,I J.bound,af],box b1 79 #[I J.kind,a3,a4,I J.bound,a5],oF 3 RP.int a2 ch,oS 79 (cF 3 23) o ag,box bd 26 #[a2,o],box g7 26 #[S0,S0],box g5 26 #[v0_0,v0_1],own (OR.bq 23 (OR.bq 3 (OR.bu RP.int))) [(f 54)] ([ek])]):=Z
 have Z:=Z.aU [10,3] U
 refine cj (v:=af) (u:=(f 54)) U Ez (hA 1 46 U U) U Z hz (fun hf l0 Z=>fA 4 ez ((a6 6 U).trans g3) U (ei (v:=hf) (cs2:=#[I J.kind,a0,a1,I J.bound,hf]) 3 U sizeOf77 U U (aH (ab.len 0 Z U)) Z U U U (fun l1 Z=>nn (ae (mF ((a6 7 U).trans hx) U (bf U U U (aI U (nn ?_))))))))
 obtain rfl:=so dd
 have Z:=Z.aU [9,9,9,9,9,9,6,7,9,9] U
 show ∃ m,m<_∧hq m _ _
 refine ⟨e3.length,by simp,?_⟩
 exact ij fa ⟨b3+1,e3,hV,b8,hf,U,aL hc,by simp at et; omega,c8,(Le.trans ej c3),((a6 1 U).trans e0),((a6 2 U).trans ec),((a6 3 U).trans ds),((a6 4 U).trans e1),((a6 5 U).trans hv),((a6 6 U).trans g3),((eI (aO (n:=J.rows.length) (by simp at et; omega) ha))),Z⟩
 rcases bs with _ | ⟨_,_⟩
 obtain rfl:=aT c8
 refine a9 ?_
 have Z:=Z.aU [9,9,9,9,9,8,8,8,8] U
 exact rj hb ⟨an,c7,af,U,ej,e0,ec,ds,e1,g3,(ab.aG 9 Z)⟩
 exact absurd (of_decide_eq_false fo) (by simp at et; omega)
 intro f w_ hR
 obtain ⟨an,c7,af,rfl,ej,e0,ec,ds,e1,g3,Z⟩:=rk hb hR
 obtain ⟨h0,hE,b5⟩:=bind_some b5
 refine ae (fA 1 fB ds U (bw 6 Z isAgg24 U U U (a7 (cs:=[I J.kind,a0,a1,I J.bound,af]) U isAgg79 sizeOf79 g3 (At.bK (de.at (ab.aM 3 Z U)) 0 5) U (cS U (bG U) (wj (I J.kind) (a0) (a1) (I J.bound) (af) ) Z (fun h1 l2 Z=>?_)))))
 have Z:=Z.aU [3,3,3] U
 have Z:=qj (r:=({ kind:=J.kind,vars:=cp,coefs:=c1,bound:=J.bound,rows:=an }:Rule)) Z
 have Z:=ab.bS (R:=(cF 3 23)) [([I J.kind,a0,a1,I J.bound,af],({ kind:=J.kind,vars:=cp,coefs:=c1,bound:=J.bound,rows:=an }:Rule))] [({ kind:=J.kind,vars:=cp,coefs:=c1,bound:=J.bound,rows:=an }:Rule)] 1 Z U U U (by decide)
 have Z:=Z.get 3 U
 refine cj (v:=o) (u:=(Sl h1 1 1)) U Ey U U Z hE (fun hg l3 Z=>fA 1 fB ds U (ei (v:=hg) (cs2:=#[a2,hg]) 3 U sizeOf24 U U (aH (ab.len 0 Z U)) Z U U U (fun l4 Z=>nn (ae (mF e1 U (bf U U U (aI U (nn ?_))))))))
 obtain rfl:=so b5
 have Z:=Z.aU [5,5,2,3,5] U
 show ∃ m,m<_∧hK m _ _
 refine ⟨gd.length,by simp,?_⟩
 exact ij g4 ⟨c4+1,gd,h0,c7,hg,U,aL ho,by simp at fu; omega,ee,(Le.trans (Le.trans g2 b0) ej),e0,ec,ds,((eI (aO (n:=m.rules.length) (by simp at fu; omega) hh))),(ab.aG 5 Z)⟩
 rcases cn with _ | ⟨_,_⟩
 obtain rfl:=aT ee
 refine a9 (rj hn ⟨ag,eu,o,U,g2,ec,ds,(ab.aG 4 Z)⟩)
 exact absurd (of_decide_eq_false g6) (by simp at fu; omega)
 intro f w_ hR
 obtain ⟨ag,eu,o,rfl,g2,ec,ds,Z⟩:=rk hn hR
 refine sq (a7 (cs:=[a2,o]) U isAgg26 sizeOf26 ds (At.bK (de.at (ab.aM 2 Z U)) 0 2) U (bg (vs:=#[a2,o]) (cs2:=#[a2,o]) 3 U sizeOf26 ec U U (aj (aH (ab.len 0 Z U)) (aj (aH (ab.len 1 Z U)) aK)) Z U (by show 0+2≤2; decide) U (fun l5 Z=>nn (aA (aN (v1:=.agg #[a2,o]) results126 (bC isAgg26 sizeOf26 ec (ab.aM 0 Z U) U) ?_)))))
 obtain rfl:=so hF
 have Z:=Z.aU [2,2] U
 exact ⟨a2,o,U,(ab.down (ab.aG 2 Z) g2 (co bk (co sh c0)))⟩
theorem xR {fu:Nat} {r_:Rd} {m:Model} {g_0:Nat} {v0_0:Value} {v1_0:Value} {v1_1:Value} {H:FH} {w:World} {R:List Ass} (Z:ab H w (box g_0 136 #[v0_0,I r_.p] :: R)) (h0_0:(rS 5 RP.u8).rel H [v0_0] r_.b) (h1_0:(rS 3 RP.int).rel H [v1_0] m.sizes) (h1_1:(rS 79 (cY 3 23)).rel H [v1_1] m.rules) {r:Unit} (hF:mT fu r_ m=some r):C prog 73 #[Pt g_0,.agg #[v1_0,v1_1]] w fun v w'=>∃ o:Model × Int,(fD o.1∧nK r_.p o.2)∧∃ H':FH,Le H H'∧∃ (u1:Value) (u2:Value),v=.agg #[u1,u2]∧(rS 3 RP.int).rel H' [u1] o.1.sizes∧(rS 79 (cY 3 23)).rel H' [u2] o.1.rules∧ab H' w' (box g_0 136 #[v0_0,I o.2] :: R):=by
 unfold mT at hF
 refine aE func73 U ntmps73 U (sq (cr (v:=.agg #[v1_0,v1_1]) (cs:=#[v1_0,v1_1]) U U U Z (fun g5 w6 Z=>dS (cs:=#[S0,S0]) U zeroValue26 U Z (fun g7 w8 Z=>nq ?_))))
 obtain ⟨ag,n5,hF⟩:=bind_some hF
 refine ae (a7 (cs:=[v1_0,v1_1]) U isAgg26 sizeOf26 U (At.bK (de.at (ab.aM 1 Z U)) 0 2) U ?_)
 obtain ⟨x0,n6,tT,Gi,u0⟩:=Z.borrow
 refine ar U call126 (b9 U) (Ak (m:=m) tT (RP.mono _ h1_0 n6) (RP.mono _ h1_1 n6) n5) ?_
 rintro _ Gj ⟨af,J,rfl,Z⟩
 have Z:=u0 Z (co bk (co sh c0))
 refine dS (cs:=#[S0,S0]) U zeroValue26 U Z (fun a3 Gk Z=>bg (vs:=#[af,J]) (cs2:=#[af,J]) 0 U sizeOf26 U U U (aj (aH (ab.len 1 Z U)) (aj (aH (ab.len 2 Z U)) aK)) Z U (by show 0+2≤2; decide) U (fun Gl Z=>ns (fA 1 fB U U (bw 0 Z isAgg24 U U U (aW U underlying24 U (ab.len 2 Z U) (aI U (nq (ao ?_))))))))
 obtain ⟨a2,n7,hF⟩:=bind_some hF
 refine ae (mV (Pt g_0) U ?_)
 have Z:=Z.get 5 U
 obtain ⟨x1,u3,u4,Gm,u5⟩:=Z.lS [_]
 refine ar U call127 (cu U U) (jv (r_:=r_) (n_:=50) u4 (RP.mono _ h0_0 u3) n7) ?_
 rintro _ Gn ⟨rfl,Z⟩
 have Z:=u5 Z (cb c0)
 refine nn (ak (sq (bD U U U (aB U (nn (al (b:=(a2.1 == 0)) U (fun hj=>?_) (fun hj=>?_)))))))
 have hF:=(az hj).symm.trans hF
 refine sq (fA 0 bN U U (bw 1 Z isAgg23 U U U (aW U underlying23 U (ab.len 2 Z U) (c9 U U U (nn (al (b:=decide ((ag.sizes.length:Int) > 0)) U (fun hk=>?_) (fun hk=>?_)))))))
 have hF:=(az hk).symm.trans hF
 obtain ⟨c1,n8,hF⟩:=bind_some hF
 obtain ⟨Gp,hl,hF⟩:=bind_some hF
 have Z:=ab.drop 5 Z U
 have Z:=Z.aU [4,4,4,4] U
 refine cv 5 [Pt a3,af,Pt g_0,none,I c1.1] [box a3 26 #[af,J],oF 3 RP.int af ag.sizes,oS 79 (cF 3 23) J ag.rules,box g7 26 #[S0,S0]] [.base (box g_0 136 #[v0_0,I a2.2]) (some 4),.made 3 23 (fun v_=>oF 3 RP.int v_ ([(-1),4,3,9223372036854775807])) none,.made 4 24 (fun v_=>box g_0 136 #[v0_0,I c1.2]) none] (R) [([],[]),([],[]),([],[]),([],[1]),([0,1],[1,2])] (S:=[(none,[],some 4),(some 3,[23],none),(some 4,[24],none)]) aP (by kernel_rfl) U (by kernel_rfl) Z ?_ (fun f w_ hN c6 hc hW Z=>?_)
 refine aa (fun f w_ _ _ s _ _ Z=>fA 0 bN ((s 5 U).trans U) U (nO U U Z)) (aa (fun f w_ _ _ _ _ p Z=>bw 0 Z isAgg23 (p 0 20 U U) U U (nO U U Z)) (aa (fun f w_ _ _ s _ _ Z=>mF ((s 0 U).trans U) U (nO U U Z)) (aa ?_ ?_)))
 intro f w_ hN ob c6 hc h0 Z
 refine cS U (xO U U U U) (lU (I (-1)) (I 4) (I 3) (I 9223372036854775807) U U U U) Z (fun Gq Gr Z=>?_)
 have Z:=ko [(-1),4,3,9223372036854775807] 4 Z U U (by decide)
 have Z:=Z.aU [4,4,4,4] U
 exact ax ⟨U,_,_,U,Le.refl _,fun _ _=>trivial,Z⟩
 refine aa ?_ ?_
 intro f w_ hN ob c6 hc h0 Z
 have Z:ab hN w_ (box a3 26 #[af,J] :: oF 3 RP.int af ag.sizes :: oS 79 (cF 3 23) J ag.rules :: box g7 26 #[S0,S0] :: box g_0 136 #[v0_0,I a2.2] :: oF 3 RP.int (f 23) ([(-1),4,3,9223372036854775807]) :: ob):=Z
 have Z:=Z.get 4 U
 obtain ⟨oh,u6,v3,v8,v9⟩:=Z.lS [_]
 have oj:(rS 3 RP.int).rel oh [(f 23)] ([(-1),4,3,9223372036854775807]):=cg 4 v8 U
 refine ar U call75 (cu (h0 2 22 U U) U) (dQ (r_:=({ b:=r_.b,p:=a2.2 }:Rd)) (list:=[(-1),4,3,9223372036854775807]) v3 (RP.mono _ h0_0 (Le.trans hc u6)) oj n8) ?_
 rintro _ Gs ⟨rfl,Z⟩
 have Z:=v9 Z (cb c0)
 have Z:=Z.aU [5,5,5,5,5] U
 exact ax ⟨U,_,_,U,Le.refl _,fun _ _=>rfl,Z⟩
 exact aQ
 have Z:ab hN w_ (box a3 26 #[af,J] :: oF 3 RP.int af ag.sizes :: oS 79 (cF 3 23) J ag.rules :: box g7 26 #[S0,S0] :: oF 3 RP.int (f 23) ([(-1),4,3,9223372036854775807]) :: box g_0 136 #[v0_0,I c1.2] :: R):=Z
 obtain ⟨Gt,oq,h1,_,_⟩:=ab.row 1 Z U hl
 refine bJ (R:=(OR.bu RP.int)) (tb:=0) 0 U underlying23 sizeOf3 (hW 1 21 U U) h1 (by first | rfl | simp) U hl ?_
 have Z:=ab.dr (r:=RP.int) (cs:=[I c1.1]) (x:=c1.1) Z U
 have Z:=Z.aU [2,1] U
 refine fj (u:=I c1.1) U sizeOf3 U U (hW 4 24 U U) h1 Z hl (fun Gu Z=>?_)
 refine ax (sq (a7 (cs:=[af,J]) U isAgg26 sizeOf26 ((c6 5 U).trans U) (At.bK (de.at (ab.aM 1 Z U)) 0 2) U (bg (vs:=#[af,J]) (cs2:=#[af,J]) 3 U sizeOf26 ((c6 4 U).trans U) U U (aj (aH (ab.len 0 Z U)) (aj (aH (ab.len 2 Z U)) aK)) Z U (by show 0+2≤2; decide) U (fun Gv Z=>nn (aA (aN (v1:=.agg #[af,J]) results73 (bC isAgg26 sizeOf26 ((c6 4 U).trans U) (ab.aM 0 Z U) U) ?_))))))
 have hG:=dB hF
 have Z:=Z.get 1 U
 obtain ⟨w0,w1,Z,hn⟩:=ab.freeze Z
 have hn:(rS 3 RP.int).rel w0 [af] (ag.sizes.set (Int.toNat 0) c1.1):=hn
 have Z:=Z.get 2 U
 obtain ⟨o0,o1,Z,ho⟩:=ab.freeze Z
 have ho:(rS 79 (cY 3 23)).rel o0 [J] ag.rules:=ho
 have Z:=Z.get 3 U
 have Z:=ab.drop 1 Z U
 have Z:=ab.drop 1 Z U
 have Z:=ab.drop 1 Z U
 exact ⟨(({ sizes:=(ag.sizes.set (Int.toNat 0) c1.1),rules:=ag.rules }:Model),c1.2),hG,o0,(Le.trans (Le.trans hc w1) o1),af,J,U,(RP.mono _ hn o1),ho,Z⟩
 have hF:=(ay hk).symm.trans hF
 refine aq (sq (a7 (cs:=[af,J]) U isAgg26 sizeOf26 U (At.bK (de.at (ab.aM 1 Z U)) 0 2) U (bg (vs:=#[af,J]) (cs2:=#[af,J]) 4 U sizeOf26 U U U (aj (aH (ab.len 2 Z U)) (aj (aH (ab.len 3 Z U)) aK)) Z U (by show 0+2≤2; decide) U (fun Gw Z=>nn (aA (aN (v1:=.agg #[af,J]) results73 (bC isAgg26 sizeOf26 U (ab.aM 0 Z U) U) ?_))))))
 have hG:=dB hF
 have Z:=Z.get 3 U
 obtain ⟨w2,w3,Z,hp⟩:=ab.freeze Z
 have hp:(rS 3 RP.int).rel w2 [af] ag.sizes:=hp
 have Z:=Z.get 3 U
 obtain ⟨h2,h3,Z,c7⟩:=ab.freeze Z
 have c7:(rS 79 (cY 3 23)).rel h2 [J] ag.rules:=c7
 have Z:=Z.get 1 U
 have Z:=ab.drop 1 Z U
 have Z:=ab.drop 1 Z U
 have Z:=ab.drop 1 Z U
 exact ⟨(ag,a2.2),hG,h2,(Le.trans w3 h3),af,J,U,(RP.mono _ hp h3),c7,Z⟩
 have hF:=(ay hj).symm.trans hF
 refine sq (bD U U U (aB U (nn (al (b:=(a2.1 == 1)) U (fun c8=>?_) (fun c8=>?_)))))
 have hF:=(az c8).symm.trans hF
 obtain ⟨h4,a6,hF⟩:=bind_some hF
 obtain ⟨o2,hq⟩:=ca fun f w_=>∃ a1:List Int,∃ an,h4=.nx a1∧f 4=Pt g7∧f 5=Pt a3∧ab H w_ (box g_0 136 #[v0_0,I a2.2] :: oF 3 RP.int an a1 :: oS 79 (cF 3 23) J ag.rules :: box a3 26 #[an,J] :: box g7 26 #[S0,S0] :: R)
 refine av o2 ?_ ?_
 refine ak ?_
 obtain ⟨h5,dd⟩:=ff fun n f w_=>∃ a1:List Int,∃ an,bx lE n a1=some h4∧f 4=Pt g7∧f 5=Pt a3∧ab H w_ (box g_0 136 #[v0_0,I a2.2] :: oF 3 RP.int an a1 :: oS 79 (cF 3 23) J ag.rules :: box a3 26 #[an,J] :: box g7 26 #[S0,S0] :: R)
 have Z:=Z.aU [4,2,4,4,4] U
 have Z:=ab.drop 5 Z U
 refine a8 h5 (n:=fu) ?_ ?_
 exact ij dd ⟨ag.sizes,af,a6,U,U,Z⟩
 intro hr f w_ hI
 obtain ⟨a1,an,a6,cn,b5,Z⟩:=ik dd hI
 rcases hr with _ | hr
 exact (cl a6).elim
 obtain ⟨x2,a4,a6⟩:=cq a6
 rw [lE] at a4
 refine ao (sq (fA 0 bN b5 U (bw 3 Z isAgg23 U U U (aW U underlying23 U (ab.len 1 Z U) (kE U U U (nn (al (b:=decide ((a1.length:Int)≤5)) U (fun dg=>?_) (fun dg=>?_))))))))
 have a4:=(az dg).symm.trans a4
 refine aq (ak ?_)
 obtain ⟨o3,l1,a4⟩:=bind_some a4
 refine ae (fA 0 bN b5 U (bw 3 Z isAgg23 U U U (cS U (bG U) (dp (I 0) U) Z (fun o4 x3 Z=>?_))))
 have Z:=ko [0] 1 Z U U (by decide)
 have Z:=Z.get 2 U
 refine cj (v:=an) (u:=(Sl o4 1 1)) U eb U U Z l1 (fun hs x4 Z=>fA 0 bN b5 U (ei (v:=hs) (cs2:=#[hs,J]) 3 U sizeOf23 U U (aH (ab.len 0 Z U)) Z U U U (fun x5 Z=>nn ?_)))
 obtain rfl:=so a4
 have Z:=Z.aU [4,1,4,3,4] U
 show ∃ m,m<_∧h5 m _ _
 refine ⟨hr,Nat.lt_succ_self _,?_⟩
 exact ij dd ⟨o3,hs,a6,cn,b5,Z⟩
 have a4:=(ay dg).symm.trans a4
 refine a9 ?_
 obtain rfl:=so a4
 obtain rfl:=so a6
 exact rj hq ⟨a1,an,U,cn,b5,Z⟩
 intro f w_ hR
 obtain ⟨a1,an,rfl,cn,b5,Z⟩:=rk hq hR
 refine sq (a7 (cs:=[an,J]) U isAgg26 sizeOf26 b5 (At.bK (de.at (ab.aM 3 Z U)) 0 2) U (bg (vs:=#[an,J]) (cs2:=#[an,J]) 4 U sizeOf26 cn U U (aj (aH (ab.len 1 Z U)) (aj (aH (ab.len 2 Z U)) aK)) Z U (by show 0+2≤2; decide) U (fun x6 Z=>nn (aA (aN (v1:=.agg #[an,J]) results73 (bC isAgg26 sizeOf26 cn (ab.aM 0 Z U) U) ?_)))))
 have hG:=dB hF
 have Z:=Z.get 2 U
 obtain ⟨o5,o6,Z,dj⟩:=ab.freeze Z
 have dj:(rS 3 RP.int).rel o5 [an] a1:=dj
 have Z:=Z.get 2 U
 obtain ⟨h6,h7,Z,ds⟩:=ab.freeze Z
 have ds:(rS 79 (cY 3 23)).rel h6 [J] ag.rules:=ds
 have Z:=Z.get 1 U
 have Z:=ab.drop 1 Z U
 have Z:=ab.drop 1 Z U
 exact ⟨(({ sizes:=a1,rules:=ag.rules }:Model),a2.2),hG,h6,(Le.trans o6 h7),an,J,U,(RP.mono _ dj h7),ds,Z⟩
 have hF:=(ay c8).symm.trans hF
 refine sq (bD U U U (aB U (nn (al (b:=(a2.1 == 2)) U (fun ec=>?_) (fun ec=>?_)))))
 have hF:=(az ec).symm.trans hF
 refine sq (mI U (c9 U U U (nn (al (b:=decide ((ag.rules.length:Int) > 0)) U (fun ee=>?_) (fun ee=>?_)))))
 have hF:=(az ee).symm.trans hF
 obtain ⟨b3,l2,hF⟩:=bind_some hF
 obtain ⟨ht,ej,hF⟩:=bind_some hF
 have Z:=ab.drop 5 Z U
 have Z:=Z.aU [4,4,4,4] U
 refine cv 5 [Pq a3 1,J,Pt g_0,none,I b3.1] [box a3 26 #[af,J],oF 3 RP.int af ag.sizes,oS 79 (cF 3 23) J ag.rules,box g7 26 #[S0,S0]] [.base (box g_0 136 #[v0_0,I a2.2]) (some 4),.made 3 44 (fun v_=>oF 3 RP.int v_ ([0,5,1,2,3])) none,.made 4 45 (fun v_=>box g_0 136 #[v0_0,I b3.2]) none] (R) [([],[]),([],[]),([],[]),([],[1]),([0,1],[1,2])] (S:=[(none,[],some 4),(some 3,[44],none),(some 4,[45],none)]) aP (by kernel_rfl) U (by kernel_rfl) Z ?_ (fun f w_ hf b8 c2 hv Z=>?_)
 refine aa (fun f w_ _ _ s _ _ Z=>fA 1 fB ((s 5 U).trans U) U (nO U U Z)) (aa (fun f w_ _ _ _ _ p Z=>bw 0 Z isAgg24 (p 0 41 U U) U U (nO U U Z)) (aa (fun f w_ _ _ s _ _ Z=>mF ((s 0 U).trans U) U (nO U U Z)) (aa ?_ ?_)))
 intro f w_ hf h8 b8 c2 hx Z
 refine cS U (xM U U U U U) (jb (I 0) (I 5) (I 1) (I 2) (I 3) U U U U U) Z (fun x7 x8 Z=>?_)
 have Z:=ko [0,5,1,2,3] 5 Z U U (by decide)
 have Z:=Z.aU [4,4,4,4] U
 exact ax ⟨U,_,_,U,Le.refl _,fun _ _=>trivial,Z⟩
 refine aa ?_ ?_
 intro f w_ hf h8 b8 c2 hx Z
 have Z:ab hf w_ (box a3 26 #[af,J] :: oF 3 RP.int af ag.sizes :: oS 79 (cF 3 23) J ag.rules :: box g7 26 #[S0,S0] :: box g_0 136 #[v0_0,I a2.2] :: oF 3 RP.int (f 44) ([0,5,1,2,3]) :: h8):=Z
 have Z:=Z.get 4 U
 obtain ⟨l3,o7,o8,o9,p0⟩:=Z.lS [_]
 have l4:(rS 3 RP.int).rel l3 [(f 44)] ([0,5,1,2,3]):=cg 4 o9 U
 refine ar U call75 (cu (hx 2 43 U U) U) (dQ (r_:=({ b:=r_.b,p:=a2.2 }:Rd)) (list:=[0,5,1,2,3]) o8 (RP.mono _ h0_0 (Le.trans c2 o7)) l4 l2) ?_
 rintro _ x9 ⟨rfl,Z⟩
 have Z:=p0 Z (cb c0)
 have Z:=Z.aU [5,5,5,5,5] U
 exact ax ⟨U,_,_,U,Le.refl _,fun _ _=>rfl,Z⟩
 exact aQ
 have Z:ab hf w_ (box a3 26 #[af,J] :: oF 3 RP.int af ag.sizes :: oS 79 (cF 3 23) J ag.rules :: box g7 26 #[S0,S0] :: oF 3 RP.int (f 44) ([0,5,1,2,3]) :: box g_0 136 #[v0_0,I b3.2] :: R):=Z
 obtain ⟨ys,n0,hy,_,_⟩:=ab.row 2 Z U ej
 refine bJ (R:=(cF 3 23)) (tb:=0) 0 U underlying24 sizeOf79 (hv 1 42 U U) hy (by first | rfl | simp) U ej (fA (Int.toNat 0 * 5+0) gB U U ?_)
 have Z:=Z.get 2 U
 refine BV (j:=0) (u:=I b3.1) (z:={ ht with kind:=b3.1 }) U sizeOf3 U U (hv 4 45 U U) U hy Z ej zj (fun y1 Z=>ax (sq (a7 (cs:=[af,J]) U isAgg26 sizeOf26 ((b8 5 U).trans U) (At.bK (de.at (ab.aM 1 Z U)) 0 2) U (bg (vs:=#[af,J]) (cs2:=#[af,J]) 3 U sizeOf26 ((b8 4 U).trans U) U U (aj (aH (ab.len 2 Z U)) (aj (aH (ab.len 0 Z U)) aK)) Z U (by show 0+2≤2; decide) U (fun y2 Z=>nn (aA (aN (v1:=.agg #[af,J]) results73 (bC isAgg26 sizeOf26 ((b8 4 U).trans U) (ab.aM 0 Z U) U) ?_)))))))
 have hG:=dB hF
 have Z:=Z.get 3 U
 obtain ⟨p1,p2,Z,ek⟩:=ab.freeze Z
 have ek:(rS 3 RP.int).rel p1 [af] ag.sizes:=ek
 have Z:=Z.get 1 U
 obtain ⟨h9,ih,Z,en⟩:=ab.freeze Z
 have en:(rS 79 (cY 3 23)).rel h9 [J] (ag.rules.set (Int.toNat 0) ({ ht with kind:=b3.1 })):=en
 have Z:=Z.get 3 U
 have Z:=ab.drop 1 Z U
 have Z:=ab.drop 1 Z U
 have Z:=ab.drop 1 Z U
 exact ⟨(({ sizes:=ag.sizes,rules:=(ag.rules.set (Int.toNat 0) ({ ht with kind:=b3.1 })) }:Model),b3.2),hG,h9,(Le.trans (Le.trans c2 p2) ih),af,J,U,(RP.mono _ ek ih),en,Z⟩
 have hF:=(ay ee).symm.trans hF
 refine aq (sq (a7 (cs:=[af,J]) U isAgg26 sizeOf26 U (At.bK (de.at (ab.aM 1 Z U)) 0 2) U (bg (vs:=#[af,J]) (cs2:=#[af,J]) 4 U sizeOf26 U U U (aj (aH (ab.len 2 Z U)) (aj (aH (ab.len 3 Z U)) aK)) Z U (by show 0+2≤2; decide) U (fun zc Z=>nn (aA (aN (v1:=.agg #[af,J]) results73 (bC isAgg26 sizeOf26 U (ab.aM 0 Z U) U) ?_))))))
 have hG:=dB hF
 have Z:=Z.get 3 U
 obtain ⟨p3,p4,Z,et⟩:=ab.freeze Z
 have et:(rS 3 RP.int).rel p3 [af] ag.sizes:=et
 have Z:=Z.get 3 U
 obtain ⟨jn,j1,Z,eu⟩:=ab.freeze Z
 have eu:(rS 79 (cY 3 23)).rel jn [J] ag.rules:=eu
 have Z:=Z.get 1 U
 have Z:=ab.drop 1 Z U
 have Z:=ab.drop 1 Z U
 have Z:=ab.drop 1 Z U
 exact ⟨(ag,a2.2),hG,jn,(Le.trans p4 j1),af,J,U,(RP.mono _ et j1),eu,Z⟩
 have hF:=(ay ec).symm.trans hF
 refine sq (bD U U U (aB U (nn (al (b:=(a2.1 == 3)) U (fun e0=>?_) (fun e0=>?_)))))
 have hF:=(az e0).symm.trans hF
 refine ao ?_
 obtain ⟨j2,b1,hF⟩:=bind_some hF
 obtain ⟨p5,e1⟩:=ca fun f w_=>f 0=Pt g_0∧f 4=Pt g7∧f 5=Pt a3∧f 6=I (ag.rules.length:Int)∧f 62=Bo j2∧ab H w_ (box g_0 136 #[v0_0,I a2.2] :: oF 3 RP.int af ag.sizes :: oS 79 (cF 3 23) J ag.rules :: box a3 26 #[af,J] :: box g7 26 #[S0,S0] :: R)
 refine av p5 ?_ ?_
 refine ae (mI U (c9 U U U (mB U (aD (d:=52) (b:=decide ((ag.rules.length:Int) > 0)) U (fun e2=>?_) (fun e2=>?_)))))
 rw [az e2] at b1
 obtain ⟨zs,e3,b1⟩:=bind_some b1
 refine fA 1 fB U U (bw 1 Z isAgg24 U U U (mI U (db U U U ?_)))
 obtain ⟨zz,n1,hz,_,_⟩:=ab.row 3 Z U e3
 refine bJ (R:=(cF 3 23)) (tb:=0) 0 U underlying24 sizeOf79 U hz (by first | rfl | simp) U e3 (fA (Int.toNat (i64 ((ag.rules.length:Int) - 1)) * 5+1) cM U U ?_)
 obtain ⟨z0,w4,l5,hP⟩:=ab.FW 3 Z U hz e3
 obtain ⟨tB,tC,tS,rfl,hA,p6,q0⟩:=z9 l5
 refine bt U isAgg23 U (At.cell hP (j:=1) U) (aW U underlying23 U hA (c9 U U U (dU b1 U (nn ?_))))
 have Z:=Z.aU [4,2,4,4,4] U
 have Z:=ab.drop 5 Z U
 exact rj e1 ⟨U,U,U,U,U,Z⟩
 rw [ay e2] at b1
 refine ps U (ps U (ps U (ps U (ps U (ps U (ps U (ps U (ps U (dU b1 U (nn ?_))))))))))
 have Z:=Z.aU [4,2,4,4,4] U
 have Z:=ab.drop 5 Z U
 exact rj e1 ⟨U,U,U,U,U,Z⟩
 intro f w_ hR
 obtain ⟨w5,cn,b5,w7,q1,Z⟩:=rk e1 hR
 refine al (b:=j2) q1 (fun e4=>?_) (fun e4=>?_)
 have hF:=(az e4).symm.trans hF
 obtain ⟨a0,c3,hF⟩:=bind_some hF
 obtain ⟨a5,l7,hF⟩:=bind_some hF
 obtain ⟨z1,e5,hF⟩:=bind_some hF
 obtain ⟨j3,n2,hB,_,_⟩:=ab.row 2 Z U c3
 have Z:=Z.aU [2,1,4,4,4] U
 refine cv 10 [Pq a3 1,J,I (ag.rules.length:Int),I (i64 ((ag.rules.length:Int) - 1)),Value.pointer (some ⟨j3,Int.toNat (i64 ((ag.rules.length:Int) - 1)) * 5,none⟩),Value.pointer (some ⟨j3,Int.toNat (i64 ((ag.rules.length:Int) - 1)) * 5+1,none⟩),none,Pt g_0,none,I a5.1] [oF 3 RP.int af ag.sizes,box a3 26 #[af,J],box g7 26 #[S0,S0]] [.base (box g_0 136 #[v0_0,I a2.2]) (some 9),.base (oS 79 (cF 3 23) J ag.rules) (some 6),.made 6 69 (fun v_=>A1 (fun (u_:Value × Value)=>[hole 79 (cF 3 23) J ag.rules (Int.toNat (i64 ((ag.rules.length:Int) - 1))) [I a0.kind,v_,u_.1,I a0.bound,u_.2],oF 3 RP.int u_.1 a0.coefs,own (OR.bq 23 (OR.bq 3 (OR.bu RP.int))) [u_.2] a0.rows])) none,.made 6 69 (fun v_=>oF 3 RP.int v_ a0.vars) none,.made 8 71 (fun v_=>oF 3 RP.int v_ ([(-1),5,1,0])) none,.made 9 72 (fun v_=>box g_0 136 #[v0_0,I a5.2]) none] (R) [([],[]),([],[]),([],[]),([],[]),([1],[1]),([],[]),([1],[2,3]),([],[]),([],[4]),([0,4],[4,5])] (S:=[(none,[],some 9),(none,[],some 6),(some 6,[69],none),(some 6,[69],none),(some 8,[71],none),(some 9,[72],none)]) aP (by kernel_rfl) U (by kernel_rfl) Z ?_ (fun f w_ b0 bd b2 l8 Z=>?_)
 refine aa (fun f w_ _ _ s _ _ Z=>fA 1 fB ((s 5 U).trans b5) U (nO U U Z)) (aa (fun f w_ _ _ _ _ p Z=>bw 1 Z isAgg24 (p 0 63 U U) U U (nO U U Z)) (aa (fun f w_ _ _ s _ _ Z=>mF ((s 6 U).trans w7) U (nO U U Z)) (aa (fun f w_ _ _ _ _ p Z=>db U (p 2 65 U U) U (nO U U Z)) (aa ?_ ?_))))
 intro f w_ b0 cp bd b2 bs Z
 have Z:ab b0 w_ (oF 3 RP.int af ag.sizes :: box a3 26 #[af,J] :: box g7 26 #[S0,S0] :: oS 79 (cF 3 23) J ag.rules :: cp):=Z
 refine bJ (R:=(cF 3 23)) (tb:=0) 0 U underlying24 sizeOf79 (bs 1 64 U U) hB (by first | rfl | simp) (bs 3 66 U U) c3 (ax ⟨U,_,_,U,Le.refl _,fun _ _=>rfl,Z⟩)
 refine aa (fun f w_ _ _ _ _ p Z=>fA (Int.toNat (i64 ((ag.rules.length:Int) - 1)) * 5+1) cM (p 4 67 U U) U (nO U U Z)) (aa ?_ ?_)
 intro f w_ b0 cp bd b2 bs Z
 have Z:ab b0 w_ (oF 3 RP.int af ag.sizes :: box a3 26 #[af,J] :: box g7 26 #[S0,S0] :: oS 79 (cF 3 23) J ag.rules :: cp):=Z
 have Z:=Z.get 3 U
 obtain ⟨w9,Z,c4⟩:=ab.focus Z c3
 have c4:=c4 _ _ _ hB
 obtain ⟨hQ,hS,hV,rfl,Z⟩:=Aj Z
 refine bt U isAgg23 (bs 5 68 U U) (At.cell c4 (j:=1) U) ?_
 have Z:=Z.aU [2,2,3] U
 have Z:=ab.pack (fun (u_:Value × Value)=>[hole 79 (cF 3 23) J ag.rules (Int.toNat (i64 ((ag.rules.length:Int) - 1))) [I a0.kind,hQ,u_.1,I a0.bound,u_.2],oF 3 RP.int u_.1 a0.coefs,own (OR.bq 23 (OR.bq 3 (OR.bu RP.int))) [u_.2] a0.rows]) (hS,hV) Z
 have Z:=Z.aU [1,1,4,4,4] U
 exact ax ⟨U,_,_,U,Le.refl _,fun _ _=>trivial,Z⟩
 refine aa (fun f w_ _ _ s _ _ Z=>mF ((s 0 U).trans w5) U (nO U U Z)) (aa ?_ ?_)
 intro f w_ b0 cp bd b2 bs Z
 refine cS U (xO U U U U) (lU (I (-1)) (I 5) (I 1) (I 0) U U U U) Z (fun As Bs Z=>?_)
 have Z:=ko [(-1),5,1,0] 4 Z U U (by decide)
 have Z:=Z.aU [3,3,3] U
 exact ax ⟨U,_,_,U,Le.refl _,fun _ _=>trivial,Z⟩
 refine aa ?_ ?_
 intro f w_ b0 cp bd b2 bs Z
 have Z:ab b0 w_ (oF 3 RP.int af ag.sizes :: box a3 26 #[af,J] :: box g7 26 #[S0,S0] :: box g_0 136 #[v0_0,I a2.2] :: oF 3 RP.int (f 71) ([(-1),5,1,0]) :: cp):=Z
 have Z:=Z.get 3 U
 obtain ⟨l9,q2,q3,q4,q8⟩:=Z.lS [_]
 have mg:(rS 3 RP.int).rel l9 [(f 71)] ([(-1),5,1,0]):=cg 3 q4 U
 refine ar U call75 (cu (bs 7 70 U U) U) (dQ (r_:=({ b:=r_.b,p:=a2.2 }:Rd)) (list:=[(-1),5,1,0]) q3 (RP.mono _ h0_0 (Le.trans b2 q2)) mg l7) ?_
 rintro _ Cs ⟨rfl,Z⟩
 have Z:=q8 Z (cb c0)
 have Z:=Z.aU [4,4,4,4] U
 exact ax ⟨U,_,_,U,Le.refl _,fun _ _=>rfl,Z⟩
 exact aQ
 have Z:ab b0 w_ (oF 3 RP.int af ag.sizes :: box a3 26 #[af,J] :: box g7 26 #[S0,S0] :: A1 (fun (u_:Value × Value)=>[hole 79 (cF 3 23) J ag.rules (Int.toNat (i64 ((ag.rules.length:Int) - 1))) [I a0.kind,(f 69),u_.1,I a0.bound,u_.2],oF 3 RP.int u_.1 a0.coefs,own (OR.bq 23 (OR.bq 3 (OR.bu RP.int))) [u_.2] a0.rows]) :: oF 3 RP.int (f 69) a0.vars :: oF 3 RP.int (f 71) ([(-1),5,1,0]) :: box g_0 136 #[v0_0,I a5.2] :: R):=Z
 have Z:=Z.get 3 U
 obtain ⟨⟨hg,hh⟩,Z⟩:=ab.unpack Z
 have Z:ab b0 w_ (hole 79 (cF 3 23) J ag.rules (Int.toNat (i64 ((ag.rules.length:Int) - 1))) [I a0.kind,(f 69),hg,I a0.bound,hh] :: oF 3 RP.int hg a0.coefs :: own (OR.bq 23 (OR.bq 3 (OR.bu RP.int))) [hh] a0.rows :: oF 3 RP.int af ag.sizes :: box a3 26 #[af,J] :: box g7 26 #[S0,S0] :: oF 3 RP.int (f 69) a0.vars :: oF 3 RP.int (f 71) ([(-1),5,1,0]) :: box g_0 136 #[v0_0,I a5.2] :: R):=Z
 obtain ⟨Db,n3,hC,_,_⟩:=ab.row 6 Z U e5
 refine bJ (R:=(OR.bu RP.int)) (tb:=0) 0 U underlying23 sizeOf3 U hC (by first | rfl | simp) U e5 ?_
 have Z:=ab.dr (r:=RP.int) (cs:=[I a5.1]) (x:=a5.1) Z U
 have Z:=Z.aU [7,1] U
 refine fj (u:=I a5.1) U sizeOf3 U U (l8 9 72 U U) hC Z e5 (fun D1 Z=>?_)
 refine ax (ao ?_)
 have Z:=Z.aU [1,3,3,3] U
 have Z:=qj (r:=({ kind:=a0.kind,vars:=(a0.vars.set (Int.toNat 0) a5.1),coefs:=a0.coefs,bound:=a0.bound,rows:=a0.rows }:Rule)) Z
 have Z:=ab.DN (x':=({ kind:=a0.kind,vars:=(a0.vars.set (Int.toNat 0) a5.1),coefs:=a0.coefs,bound:=a0.bound,rows:=a0.rows }:Rule)) (ib c3).2.2 Z
 refine ae (a7 (cs:=[af,J]) U isAgg26 sizeOf26 ((bd 5 U).trans b5) (At.bK (de.at (ab.aM 2 Z U)) 0 2) U (bg (vs:=#[af,J]) (cs2:=#[af,J]) 3 U sizeOf26 ((bd 4 U).trans cn) U U (aj (aH (ab.len 1 Z U)) (aj (aH (ab.len 0 Z U)) aK)) Z U (by show 0+2≤2; decide) U (fun ET Z=>nn (aA (aN (v1:=.agg #[af,J]) results73 (bC isAgg26 sizeOf26 ((bd 4 U).trans cn) (ab.aM 0 Z U) U) ?_)))))
 have hG:=dB hF
 have Z:=Z.get 2 U
 obtain ⟨ra,rv,Z,fa⟩:=ab.freeze Z
 have fa:(rS 3 RP.int).rel ra [af] ag.sizes:=fa
 have Z:=Z.get 1 U
 obtain ⟨j4,j5,Z,fo⟩:=ab.freeze Z
 have fo:(rS 79 (cY 3 23)).rel j4 [J] (ag.rules.set (Int.toNat (i64 ((ag.rules.length:Int) - 1))) ({ kind:=a0.kind,vars:=(a0.vars.set (Int.toNat 0) a5.1),coefs:=a0.coefs,bound:=a0.bound,rows:=a0.rows }:Rule)):=fo
 have Z:=Z.get 3 U
 have Z:=ab.drop 1 Z U
 have Z:=ab.drop 1 Z U
 have Z:=ab.drop 1 Z U
 exact ⟨(({ sizes:=ag.sizes,rules:=(ag.rules.set (Int.toNat (i64 ((ag.rules.length:Int) - 1))) ({ kind:=a0.kind,vars:=(a0.vars.set (Int.toNat 0) a5.1),coefs:=a0.coefs,bound:=a0.bound,rows:=a0.rows }:Rule)) }:Model),a5.2),hG,j4,(Le.trans (Le.trans b2 rv) j5),af,J,U,(RP.mono _ fa j5),fo,Z⟩
 have hF:=(ay e4).symm.trans hF
 refine aq (sq (a7 (cs:=[af,J]) U isAgg26 sizeOf26 b5 (At.bK (de.at (ab.aM 3 Z U)) 0 2) U (bg (vs:=#[af,J]) (cs2:=#[af,J]) 4 U sizeOf26 cn U U (aj (aH (ab.len 1 Z U)) (aj (aH (ab.len 2 Z U)) aK)) Z U (by show 0+2≤2; decide) U (fun Fs Z=>nn (aA (aN (v1:=.agg #[af,J]) results73 (bC isAgg26 sizeOf26 cn (ab.aM 0 Z U) U) ?_))))))
 have hG:=dB hF
 have Z:=Z.get 2 U
 obtain ⟨r0,r1,Z,fs⟩:=ab.freeze Z
 have fs:(rS 3 RP.int).rel r0 [af] ag.sizes:=fs
 have Z:=Z.get 2 U
 obtain ⟨j6,j7,Z,gd⟩:=ab.freeze Z
 have gd:(rS 79 (cY 3 23)).rel j6 [J] ag.rules:=gd
 have Z:=Z.get 1 U
 have Z:=ab.drop 1 Z U
 have Z:=ab.drop 1 Z U
 exact ⟨(ag,a2.2),hG,j6,(Le.trans r1 j7),af,J,U,(RP.mono _ fs j7),gd,Z⟩
 have hF:=(ay e0).symm.trans hF
 refine sq (bD U U U (aB U (nn (al (b:=(a2.1 == 4)) U (fun g0=>?_) (fun g0=>?_)))))
 have hF:=(az g0).symm.trans hF
 refine sq (mI U (c9 U U U (nn (al (b:=decide ((ag.rules.length:Int) > 0)) U (fun g1=>?_) (fun g1=>?_)))))
 have hF:=(az g1).symm.trans hF
 obtain ⟨b4,m0,hF⟩:=bind_some hF
 obtain ⟨hD,g2,hF⟩:=bind_some hF
 have Z:=ab.drop 5 Z U
 have Z:=Z.aU [4,4,4,4] U
 refine cv 5 [Pq a3 1,J,Pt g_0,none,I b4.1] [box a3 26 #[af,J],oF 3 RP.int af ag.sizes,oS 79 (cF 3 23) J ag.rules,box g7 26 #[S0,S0]] [.base (box g_0 136 #[v0_0,I a2.2]) (some 4),.made 3 81 (fun v_=>oF 3 RP.int v_ ([1001,(-1001),1000])) none,.made 4 82 (fun v_=>box g_0 136 #[v0_0,I b4.2]) none] (R) [([],[]),([],[]),([],[]),([],[1]),([0,1],[1,2])] (S:=[(none,[],some 4),(some 3,[81],none),(some 4,[82],none)]) aP (by kernel_rfl) U (by kernel_rfl) Z ?_ (fun f w_ hi ch c5 hE Z=>?_)
 refine aa (fun f w_ _ _ s _ _ Z=>fA 1 fB ((s 5 U).trans U) U (nO U U Z)) (aa (fun f w_ _ _ _ _ p Z=>bw 0 Z isAgg24 (p 0 78 U U) U U (nO U U Z)) (aa (fun f w_ _ _ s _ _ Z=>mF ((s 0 U).trans U) U (nO U U Z)) (aa ?_ ?_)))
 intro f w_ hi j8 ch c5 hJ Z
 refine cS U (EI U U U) (vN (I 1001) (I (-1001)) (I 1000) U U U) Z (fun F0 F1 Z=>?_)
 have Z:=ko [1001,(-1001),1000] 3 Z U U (by decide)
 have Z:=Z.aU [4,4,4,4] U
 exact ax ⟨U,_,_,U,Le.refl _,fun _ _=>trivial,Z⟩
 refine aa ?_ ?_
 intro f w_ hi j8 ch c5 hJ Z
 have Z:ab hi w_ (box a3 26 #[af,J] :: oF 3 RP.int af ag.sizes :: oS 79 (cF 3 23) J ag.rules :: box g7 26 #[S0,S0] :: box g_0 136 #[v0_0,I a2.2] :: oF 3 RP.int (f 81) ([1001,(-1001),1000]) :: j8):=Z
 have Z:=Z.get 4 U
 obtain ⟨m1,r2,r3,ss,sx⟩:=Z.lS [_]
 have m2:(rS 3 RP.int).rel m1 [(f 81)] ([1001,(-1001),1000]):=cg 4 ss U
 refine ar U call75 (cu (hJ 2 80 U U) U) (dQ (r_:=({ b:=r_.b,p:=a2.2 }:Rd)) (list:=[1001,(-1001),1000]) r3 (RP.mono _ h0_0 (Le.trans c5 r2)) m2 m0) ?_
 rintro _ F2 ⟨rfl,Z⟩
 have Z:=sx Z (cb c0)
 have Z:=Z.aU [5,5,5,5,5] U
 exact ax ⟨U,_,_,U,Le.refl _,fun _ _=>rfl,Z⟩
 exact aQ
 have Z:ab hi w_ (box a3 26 #[af,J] :: oF 3 RP.int af ag.sizes :: oS 79 (cF 3 23) J ag.rules :: box g7 26 #[S0,S0] :: oF 3 RP.int (f 81) ([1001,(-1001),1000]) :: box g_0 136 #[v0_0,I b4.2] :: R):=Z
 obtain ⟨F3,n4,hK,_,_⟩:=ab.row 2 Z U g2
 refine bJ (R:=(cF 3 23)) (tb:=0) 0 U underlying24 sizeOf79 (hE 1 79 U U) hK (by first | rfl | simp) U g2 (fA (Int.toNat 0 * 5+3) km U U ?_)
 have Z:=Z.get 2 U
 refine BV (j:=3) (u:=I b4.1) (z:={ hD with bound:=b4.1 }) U sizeOf3 U U (hE 4 82 U U) U hK Z g2 zm (fun F4 Z=>ax (sq (a7 (cs:=[af,J]) U isAgg26 sizeOf26 ((ch 5 U).trans U) (At.bK (de.at (ab.aM 1 Z U)) 0 2) U (bg (vs:=#[af,J]) (cs2:=#[af,J]) 3 U sizeOf26 ((ch 4 U).trans U) U U (aj (aH (ab.len 2 Z U)) (aj (aH (ab.len 0 Z U)) aK)) Z U (by show 0+2≤2; decide) U (fun F5 Z=>nn (aA (aN (v1:=.agg #[af,J]) results73 (bC isAgg26 sizeOf26 ((ch 4 U).trans U) (ab.aM 0 Z U) U) ?_)))))))
 have hG:=dB hF
 have Z:=Z.get 3 U
 obtain ⟨sz,ti,Z,g3⟩:=ab.freeze Z
 have g3:(rS 3 RP.int).rel sz [af] ag.sizes:=g3
 have Z:=Z.get 1 U
 obtain ⟨kk,ks,Z,g4⟩:=ab.freeze Z
 have g4:(rS 79 (cY 3 23)).rel kk [J] (ag.rules.set (Int.toNat 0) ({ hD with bound:=b4.1 })):=g4
 have Z:=Z.get 3 U
 have Z:=ab.drop 1 Z U
 have Z:=ab.drop 1 Z U
 have Z:=ab.drop 1 Z U
 exact ⟨(({ sizes:=ag.sizes,rules:=(ag.rules.set (Int.toNat 0) ({ hD with bound:=b4.1 })) }:Model),b4.2),hG,kk,(Le.trans (Le.trans c5 ti) ks),af,J,U,(RP.mono _ g3 ks),g4,Z⟩
 have hF:=(ay g1).symm.trans hF
 refine aq (sq (a7 (cs:=[af,J]) U isAgg26 sizeOf26 U (At.bK (de.at (ab.aM 1 Z U)) 0 2) U (bg (vs:=#[af,J]) (cs2:=#[af,J]) 4 U sizeOf26 U U U (aj (aH (ab.len 2 Z U)) (aj (aH (ab.len 3 Z U)) aK)) Z U (by show 0+2≤2; decide) U (fun F6 Z=>nn (aA (aN (v1:=.agg #[af,J]) results73 (bC isAgg26 sizeOf26 U (ab.aM 0 Z U) U) ?_))))))
 have hG:=dB hF
 have Z:=Z.get 3 U
 obtain ⟨tl,tn,Z,g6⟩:=ab.freeze Z
 have g6:(rS 3 RP.int).rel tl [af] ag.sizes:=g6
 have Z:=Z.get 3 U
 obtain ⟨ky,k0,Z,g8⟩:=ab.freeze Z
 have g8:(rS 79 (cY 3 23)).rel ky [J] ag.rules:=g8
 have Z:=Z.get 1 U
 have Z:=ab.drop 1 Z U
 have Z:=ab.drop 1 Z U
 have Z:=ab.drop 1 Z U
 exact ⟨(ag,a2.2),hG,ky,(Le.trans tn k0),af,J,U,(RP.mono _ g6 k0),g8,Z⟩
 have hF:=(ay g0).symm.trans hF
 refine sq (bD U U U (aB U (nn (al (b:=(a2.1 == 5)) U (fun g9=>?_) (fun g9=>?_)))))
 have hF:=(az g9).symm.trans hF
 refine sq (da U (cC ) (xi  ) (bg (vs:=#[S0,S0]) (cs2:=#[S0,S0]) 4 U sizeOf26 U U U (aj U (aj U aK)) Z U (by show 0+2≤2; decide) U (fun F7 Z=>nn (aA (aN (v1:=.agg #[S0,S0]) results73 (bC isAgg26 sizeOf26 U (ab.aM 0 Z U) U) ?_)))))
 have hG:=dB hF
 have Z:=Z.get 1 U
 have Z:=ab.drop 1 Z U
 have Z:=ab.drop 1 Z U
 have Z:=ab.drop 1 Z U
 have Z:=ab.drop 1 Z U
 have Z:=ab.drop 1 Z U
 exact ⟨(({ sizes:=[],rules:=[] }:Model),a2.2),hG,H,(Le.refl _),S0,S0,U,(fw _ _ _),(fw _ _ _),Z⟩
 have hF:=(ay g9).symm.trans hF
 refine aq (sq (a7 (cs:=[af,J]) U isAgg26 sizeOf26 U (At.bK (de.at (ab.aM 1 Z U)) 0 2) U (bg (vs:=#[af,J]) (cs2:=#[af,J]) 4 U sizeOf26 U U U (aj (aH (ab.len 2 Z U)) (aj (aH (ab.len 3 Z U)) aK)) Z U (by show 0+2≤2; decide) U (fun F8 Z=>nn (aA (aN (v1:=.agg #[af,J]) results73 (bC isAgg26 sizeOf26 U (ab.aM 0 Z U) U) ?_))))))
 have hG:=dB hF
 have Z:=Z.get 3 U
 obtain ⟨tr,ts,Z,ha⟩:=ab.freeze Z
 have ha:(rS 3 RP.int).rel tr [af] ag.sizes:=ha
 have Z:=Z.get 3 U
 obtain ⟨lo,l0,Z,hb⟩:=ab.freeze Z
 have hb:(rS 79 (cY 3 23)).rel lo [J] ag.rules:=hb
 have Z:=Z.get 1 U
 have Z:=ab.drop 1 Z U
 have Z:=ab.drop 1 Z U
 have Z:=ab.drop 1 Z U
 exact ⟨(ag,a2.2),hG,lo,(Le.trans ts l0),af,J,U,(RP.mono _ ha l0),hb,Z⟩
theorem ux {fu:Nat} {r_:Rd} {m:Model} {least:Int} {g_0:Nat} {v0_0:Value} {v1_0:Value} {v1_1:Value} {H:FH} {w:World} (Z:ab H w [box g_0 136 #[v0_0,I r_.p]]) (h0_0:(rS 5 RP.u8).rel H [v0_0] r_.b) (h1_0:(rS 3 RP.int).rel H [v1_0] m.sizes) (h1_1:(rS 79 (cY 3 23)).rel H [v1_1] m.rules) {r:(List Int) × Int} (hF:oe fu r_ m least=some r):C prog 164 #[Pt g_0,.agg #[v1_0,v1_1],I least] w fun v w'=>∃ (u1:Value),v=u1∧ab H w' [oF 3 RP.int u1 r.1,box g_0 136 #[v0_0,I r.2]]:=by
 unfold oe at hF
 refine aE func164 U ntmps164 U (sq (cr (v:=.agg #[v1_0,v1_1]) (cs:=#[v1_0,v1_1]) U U U Z (fun g3 w4 Z=>aV S0 U (ns (cS U cC (jd  ) Z (fun g8 w9 Z=>?_))))))
 have Z:=ab.bS (R:=(OR.bu RP.int)) [] [] 0 Z U U U (by decide)
 refine aV (Sl g8 0 0) U (nq (sq (aI U (nn ?_))))
 have hr:List.length m.sizes≤9223372036854775807:=bB (ai h1_0)
 obtain ⟨h0,dd,hF⟩:=bind_some hF
 obtain ⟨l1,hx⟩:=ca fun f w_=>∃ a6:List Int,∃ o:Int,∃ a0,h0=.nx (a6,o)∧f 0=Pt g_0∧f 2=I least∧f 4=Pt g3∧f 7=a0∧ab H w_ ([oF 3 RP.int a0 a6,box g_0 136 #[v0_0,I o],box g3 26 #[v1_0,v1_1]])
 refine av l1 ?_ ?_
 refine ak ?_
 obtain ⟨h1,fo⟩:=ff fun n f w_=>∃ bd:Nat,∃ ch:List Int,∃ a6:List Int,∃ o:Int,∃ a0,n=ch.length∧List.drop bd m.sizes=ch∧bd+ch.length=m.sizes.length∧aw (nA r_) ch bd (a6,o)=some h0∧f 0=Pt g_0∧f 2=I least∧f 4=Pt g3∧f 7=a0∧f 8=I bd∧ab H w_ ([oF 3 RP.int a0 a6,box g_0 136 #[v0_0,I o],box g3 26 #[v1_0,v1_1]])
 have Z:=Z.aU [1,2,2] U
 refine a8 h1 (n:=m.sizes.length) ?_ ?_
 exact ij fo ⟨0,m.sizes,[],r_.p,(Sl g8 0 0),U,U,Nat.zero_add _,dd,U,U,U,U,U,Z⟩
 intro o5 f w_ hI
 obtain ⟨bd,ch,a6,o,a0,rfl,hy,e1,dd,a1,a4,b0,ag,fa,Z⟩:=ik fo hI
 refine ao (sq (mF fa U (fA 0 bN b0 U (bw 2 Z isAgg23 U U U (aW U underlying23 U (ai h1_0) (bh U U U (nn (al (b:=decide ((bd:Int)<(m.sizes.length:Int))) U (fun fs=>?_) (fun fs=>?_)))))))))
 have hE:=of_decide_eq_true fs
 rcases ch with _ | ⟨n5,e2⟩
 exact absurd hE (by simp at e1; omega)
 obtain ⟨o6,dg,dd⟩:=aJ dd
 rw [nA] at dg
 have l2:=aY hy
 refine aq (ao (ak (ao ?_)))
 obtain ⟨hG,h2,dg⟩:=bind_some dg
 refine ae (mF a1 U ?_)
 have Z:=Z.get 1 U
 obtain ⟨n6,l3,l4,o7,l5⟩:=Z.lS [_]
 refine ar U call127 (cu U U) (jv (r_:=({ b:=r_.b,p:=o }:Rd)) (n_:=3) l4 (RP.mono _ h0_0 l3) h2) ?_
 rintro _ o8 ⟨rfl,Z⟩
 have Z:=l5 Z (cb c0)
 refine c9 U U U (nn ?_)
 obtain ⟨e3,c4,dg⟩:=bind_some dg
 obtain ⟨l7,gd⟩:=ca fun f w_=>∃ cn,f 0=Pt g_0∧f 2=I least∧f 4=Pt g3∧f 7=cn∧f 8=I bd∧ab H w_ ([oF 3 RP.int cn e3,box g_0 136 #[v0_0,I hG.2],box g3 26 #[v1_0,v1_1]])
 refine av l7 ?_ ?_
 refine al (b:=decide (hG.1 > 0)) U (fun g0=>?_) (fun g0=>?_)
 have c4:=(az g0).symm.trans c4
 obtain ⟨o9,h3,c4⟩:=bind_some c4
 refine ae (mF ag U (mF fa U (cS U (bG U) (dp (I bd) U) Z (fun l8 p0 Z=>?_))))
 have Z:=ab.dr (r:=RP.int) (cs:=[I bd]) (x:=(bd:Int)) Z U
 have Z:=ab.bS (R:=(OR.bu RP.int)) [([I bd],(bd:Int))] [(bd:Int)] 1 Z U U U (by decide)
 have Z:=Z.get 2 U
 refine cj (v:=a0) (u:=(Sl l8 1 1)) U eb U U Z h3 (fun h4 p1 Z=>aV h4 U (nn ?_))
 obtain rfl:=so c4
 exact rj gd ⟨h4,a1,a4,b0,U,fa,Z⟩
 have c4:=(ay g0).symm.trans c4
 refine aq ?_
 obtain rfl:=so c4
 have Z:=Z.aU [2,1,2] U
 exact rj gd ⟨a0,a1,a4,b0,ag,fa,Z⟩
 intro f w_ hR
 obtain ⟨cn,a1,a4,b0,ag,fa,Z⟩:=rk gd hR
 refine ae (mF fa U (bf U U U (aI U (nn ?_))))
 obtain rfl:=so dg
 show ∃ m,m<_∧h1 m _ _
 refine ⟨e2.length,by simp,?_⟩
 exact ij fo ⟨bd+1,e2,e3,hG.2,cn,U,aL hy,by simp at e1; omega,dd,a1,a4,b0,ag,((eI (aO (n:=m.sizes.length) (by simp at e1; omega) hr))),Z⟩
 rcases ch with _ | ⟨_,_⟩
 obtain rfl:=aT dd
 refine a9 (rj hx ⟨a6,o,a0,U,a1,a4,b0,ag,Z⟩)
 exact absurd (of_decide_eq_false fs) (by simp at e1; omega)
 intro f w_ hR
 obtain ⟨a6,o,a0,rfl,a1,a4,b0,ag,Z⟩:=rk hx hR
 refine ao (sq (aI U (nn ?_)))
 obtain ⟨h5,c7,hF⟩:=bind_some hF
 obtain ⟨l9,hz⟩:=ca fun f w_=>∃ J:List Int,∃ a2:Int,∃ af,h5=.nx (J,a2)∧f 0=Pt g_0∧f 2=I least∧f 7=af∧ab H w_ ([oF 3 RP.int af J,box g_0 136 #[v0_0,I o]])
 refine av l9 ?_ ?_
 refine ak ?_
 obtain ⟨h6,g1⟩:=ff fun n f w_=>∃ J:List Int,∃ a2:Int,∃ af,bx (nk m least) n (J,a2)=some h5∧f 0=Pt g_0∧f 2=I least∧f 4=Pt g3∧f 7=af∧f 9=I a2∧ab H w_ ([oF 3 RP.int af J,box g_0 136 #[v0_0,I o],box g3 26 #[v1_0,v1_1]])
 refine a8 h6 (n:=fu) ?_ ?_
 exact ij g1 ⟨a6,0,a0,c7,a1,a4,b0,ag,U,Z⟩
 intro hJ f w_ hI
 obtain ⟨J,a2,af,c7,a1,a4,b0,ag,c2,Z⟩:=ik g1 hI
 rcases hJ with _ | hJ
 exact (cl c7).elim
 obtain ⟨p2,b2,c7⟩:=cq c7
 rw [nk] at b2
 refine ao (ao ?_)
 obtain ⟨mg,g2⟩:=ca fun f w_=>f 0=Pt g_0∧f 2=I least∧f 4=Pt g3∧f 7=af∧f 9=I a2∧f 37=Bo ((decide ((J.length:Int)<least)) && (decide (a2<(m.sizes.length:Int))))∧ab H w_ ([oF 3 RP.int af J,box g_0 136 #[v0_0,I o],box g3 26 #[v1_0,v1_1]])
 refine av mg ?_ ?_
 refine ae (mF ag U (aW U underlying23 U (ab.len 0 Z U) (mF a4 U (bh U U U (mB U (aD (d:=31) (b:=decide ((J.length:Int)<least)) U (fun g4=>?_) (fun g4=>?_)))))))
 refine mF c2 U (fA 0 bN b0 U (bw 2 Z isAgg23 U U U (aW U underlying23 U (ai h1_0) (bh U U U (aC (v:=Bo ((decide ((J.length:Int)<least)) && (decide (a2<(m.sizes.length:Int))))) U U (gw g4 U) (nn (rj g2 ⟨a1,a4,b0,ag,c2,U,Z⟩)))))))
 refine ps U (ps U (ps U (ps U (ps U (aC (v:=Bo ((decide ((J.length:Int)<least)) && (decide (a2<(m.sizes.length:Int))))) U U (jc g4) (nn (rj g2 ⟨a1,a4,b0,ag,c2,U,Z⟩)))))))
 intro f w_ hR
 obtain ⟨a1,a4,b0,ag,c2,h7,Z⟩:=rk g2 hR
 refine al (b:=((decide ((J.length:Int)<least)) && (decide (a2<(m.sizes.length:Int))))) h7 (fun g5=>?_) (fun g5=>?_)
 have b2:=(az g5).symm.trans b2
 refine aq (ao (ak (ao ?_)))
 obtain ⟨h8,dj,b2⟩:=bind_some b2
 obtain ⟨m0,g6⟩:=ca fun f w_=>f 0=Pt g_0∧f 2=I least∧f 4=Pt g3∧f 7=af∧f 9=I a2∧f 52=Bo h8∧ab H w_ ([oF 3 RP.int af J,box g_0 136 #[v0_0,I o],box g3 26 #[v1_0,v1_1]])
 refine av m0 ?_ ?_
 refine ae (mF ag U (aW U underlying23 U (ab.len 0 Z U) (bD U U U (mB U (aD (d:=43) (b:=((J.length:Int) == 0)) U (fun g7=>?_) (fun g7=>?_))))))
 rw [az g7] at dj
 refine ps U (ps U (ps U (ps U (ps U (ps U (ps U (ps U (dU dj U (nn (rj g6 ⟨a1,a4,b0,ag,c2,U,Z⟩))))))))))
 rw [ay g7] at dj
 obtain ⟨p3,g9,dj⟩:=bind_some dj
 refine mF ag U (mF ag U (aW U underlying23 U (ab.len 0 Z U) (db U U U ?_)))
 obtain ⟨p4,h9,hA,_,_⟩:=ab.row 0 Z U g9
 refine bJ (R:=(OR.bu RP.int)) (tb:=0) 0 U underlying23 sizeOf3 U hA (by first | rfl | simp) U g9 ?_
 obtain ⟨n7,ih,hK⟩:=ab.fE 0 Z U hA g9
 obtain rfl:_=[_]:=ih
 refine bt U isAgg3 U (At.cell hK (j:=0) U) (mF c2 U (bh U U U (dU dj U (nn (rj g6 ⟨a1,a4,b0,ag,c2,U,Z⟩)))))
 intro f w_ hR
 obtain ⟨a1,a4,b0,ag,c2,jn,Z⟩:=rk g6 hR
 obtain ⟨e4,c5,b2⟩:=bind_some b2
 obtain ⟨m1,ha⟩:=ca fun f w_=>∃ cp,f 0=Pt g_0∧f 2=I least∧f 4=Pt g3∧f 7=cp∧f 9=I a2∧ab H w_ ([oF 3 RP.int cp e4,box g_0 136 #[v0_0,I o],box g3 26 #[v1_0,v1_1]])
 refine av m1 ?_ ?_
 refine al (b:=h8) jn (fun hb=>?_) (fun hb=>?_)
 have c5:=(az hb).symm.trans c5
 obtain ⟨p5,j1,c5⟩:=bind_some c5
 refine ae (mF ag U (mF c2 U (cS U (bG U) (dp (I a2) U) Z (fun m2 p6 Z=>?_))))
 have Z:=ab.dr (r:=RP.int) (cs:=[I a2]) (x:=a2) Z U
 have Z:=ab.bS (R:=(OR.bu RP.int)) [([I a2],a2)] [a2] 1 Z U U U (by decide)
 have Z:=Z.get 1 U
 refine cj (v:=af) (u:=(Sl m2 1 1)) U eb U U Z j1 (fun j2 q0 Z=>aV j2 U (nn ?_))
 obtain rfl:=so c5
 exact rj ha ⟨j2,a1,a4,b0,U,c2,Z⟩
 have c5:=(ay hb).symm.trans c5
 refine aq ?_
 obtain rfl:=so c5
 exact rj ha ⟨af,a1,a4,b0,ag,c2,Z⟩
 intro f w_ hR
 obtain ⟨cp,a1,a4,b0,ag,c2,Z⟩:=rk ha hR
 refine ae (mF c2 U (bf U U U (aI U (nn ?_))))
 obtain rfl:=so b2
 show ∃ m,m<_∧h6 m _ _
 refine ⟨hJ,Nat.lt_succ_self _,?_⟩
 exact ij g1 ⟨e4,i64 (a2+1),cp,c7,a1,a4,b0,ag,U,Z⟩
 have b2:=(ay g5).symm.trans b2
 refine a9 ?_
 obtain rfl:=so b2
 obtain rfl:=so c7
 exact rj hz ⟨J,a2,af,U,a1,a4,ag,(ab.aG 2 Z)⟩
 intro f w_ hR
 obtain ⟨J,a2,af,rfl,a1,a4,ag,Z⟩:=rk hz hR
 refine ao (ao ?_)
 obtain ⟨n0,hc⟩:=ca fun f w_=>f 0=Pt g_0∧f 2=I least∧f 7=af∧f 65=Bo ((decide ((J.length:Int)<least)) || ((J.length:Int) == 0))∧ab H w_ ([oF 3 RP.int af J,box g_0 136 #[v0_0,I o]])
 refine av n0 ?_ ?_
 refine ae (mF ag U (aW U underlying23 U (ab.len 0 Z U) (mF a4 U (bh U U U (mB U (aD (d:=61) (b:=decide ((J.length:Int)<least)) U (fun hf=>?_) (fun hf=>?_)))))))
 refine ps U (ps U (ps U (aC (v:=Bo ((decide ((J.length:Int)<least)) || ((J.length:Int) == 0))) U U (fK hf) (nn (rj hc ⟨a1,a4,ag,U,Z⟩)))))
 refine mF ag U (aW U underlying23 U (ab.len 0 Z U) (bD U U U (aC (v:=Bo ((decide ((J.length:Int)<least)) || ((J.length:Int) == 0))) U U (fb hf U) (nn (rj hc ⟨a1,a4,ag,U,Z⟩)))))
 intro f w_ hR
 obtain ⟨a1,a4,ag,j3,Z⟩:=rk hc hR
 obtain ⟨c1,b8,hF⟩:=bind_some hF
 obtain ⟨n1,hg⟩:=ca fun f w_=>∃ an,f 0=Pt g_0∧f 7=an∧ab H w_ ([oF 3 RP.int an c1,box g_0 136 #[v0_0,I o]])
 refine av n1 ?_ ?_
 refine al (b:=((decide ((J.length:Int)<least)) || ((J.length:Int) == 0))) j3 (fun hh=>?_) (fun hh=>?_)
 have b8:=(az hh).symm.trans b8
 refine sq (cS U cC (jd  ) Z (fun j4 q1 Z=>?_))
 have Z:=ab.bS (R:=(OR.bu RP.int)) [] [] 0 Z U U U (by decide)
 refine aV (Sl j4 0 0) U (ns (aI U (nn ?_)))
 obtain ⟨e5,ee,b8⟩:=bind_some b8
 obtain ⟨hB,c3,b8⟩:=bind_some b8
 obtain ⟨j5,hi⟩:=ca fun f w_=>∃ bs:List Int,∃ a3,hB=.nx bs∧f 0=Pt g_0∧f 7=a3∧ab H w_ ([oF 3 RP.int a3 bs,box g_0 136 #[v0_0,I o]])
 refine av j5 ?_ ?_
 refine ak ?_
 obtain ⟨hC,ej⟩:=ff fun n f w_=>∃ b1:Nat,∃ b5:Nat,∃ bs:List Int,∃ a3,b5=n∧0≤b1∧b1+b5=0+e5∧cI nC b5 b1 bs=some hB∧f 0=Pt g_0∧f 2=I least∧f 7=a3∧f 10=I b1∧ab H w_ ([oF 3 RP.int a3 bs,box g_0 136 #[v0_0,I o]])
 have Z:=Z.aU [2,1] U
 refine a8 hC (n:=e5) ?_ ?_
 exact ij ej ⟨0,e5,[],(Sl j4 0 0),U,Nat.le_refl _,U,c3,a1,a4,U,U,(ab.aG 2 Z)⟩
 intro n8 f w_ hI
 obtain ⟨b1,b5,bs,a3,rfl,hN,hj,c3,a1,a4,ag,hk,Z⟩:=ik ej hI
 refine ao (sq (mF hk U (mF a4 U (bh U U U (nn (al (b:=decide ((b1:Int)<least)) U (fun ek=>?_) (fun ek=>?_)))))))
 have hs:=of_decide_eq_true ek
 rcases b5 with _ | ec
 exact absurd hs (lA hj ee)
 obtain ⟨ob,ds,c3⟩:=eA c3
 rw [nC] at ds
 refine aq (ao (ak ?_))
 obtain ⟨j6,hP,ds⟩:=bind_some ds
 refine ae (mF ag U (mF hk U (cS U (bG U) (dp (I b1) U) Z (fun j7 oh Z=>?_))))
 have Z:=ab.dr (r:=RP.int) (cs:=[I b1]) (x:=(b1:Int)) Z U
 have Z:=ab.bS (R:=(OR.bu RP.int)) [([I b1],(b1:Int))] [(b1:Int)] 1 Z U U U (by decide)
 have Z:=Z.get 1 U
 refine cj (v:=a3) (u:=(Sl j7 1 1)) U eb U U Z hP (fun hD oj Z=>aV hD U (nn (ae (mF hk U (bf U U U (aI U (nn ?_)))))))
 obtain rfl:=so ds
 show ∃ m,m<_∧hC m _ _
 refine ⟨ec,Nat.lt_succ_self _,?_⟩
 exact ij ej ⟨b1+1,ec,j6,hD,U,by omega,by omega,c3,a1,a4,U,((eI (aO (n:=0+e5) (by omega) (jg ee)))),Z⟩
 rcases b5 with _ | _
 obtain rfl:=eo c3
 refine a9 (rj hi ⟨bs,a3,U,a1,ag,Z⟩)
 exact absurd (jZ hN hj ee) (of_decide_eq_false ek)
 intro f w_ hR
 obtain ⟨bs,a3,rfl,a1,ag,Z⟩:=rk hi hR
 obtain rfl:=so b8
 exact rj hg ⟨a3,a1,ag,Z⟩
 have b8:=(ay hh).symm.trans b8
 refine aq ?_
 obtain rfl:=so b8
 exact rj hg ⟨af,a1,ag,Z⟩
 intro f w_ hR
 obtain ⟨an,a1,ag,Z⟩:=rk hg hR
 refine ao (ao ?_)
 obtain ⟨c6,b3,hF⟩:=bind_some hF
 obtain ⟨j8,en⟩:=ca fun f w_=>f 7=an∧f 83=Bo c6.1∧ab H w_ ([oF 3 RP.int an c1,box g_0 136 #[v0_0,I c6.2]])
 refine av j8 ?_ ?_
 refine ae (mF ag U (aW U underlying23 U (ab.len 0 Z U) (c9 U U U (mB U (aD (d:=79) (b:=decide ((c1.length:Int) > 1)) U (fun et=>?_) (fun et=>?_))))))
 rw [az et] at b3
 obtain ⟨oq,hQ,b3⟩:=bind_some b3
 refine mF a1 U ?_
 have Z:=Z.get 1 U
 obtain ⟨n2,kk,ks,o0,ky⟩:=Z.lS [_]
 refine ar U call127 (cu U U) (jv (r_:=({ b:=r_.b,p:=o }:Rd)) (n_:=3) ks (RP.mono _ h0_0 kk) hQ) ?_
 rintro _ k0 ⟨rfl,Z⟩
 have Z:=ky Z (cb c0)
 refine bD U U U (aC (v:=Bo c6.1) U U (congrArg (fun z:Bool × Int=>Value.bool z.1) (so b3)) ?_)
 have Z:ab H k0 ([box g_0 136 #[v0_0,I c6.2],oF 3 RP.int an c1]):=by rw [← so b3]; exact Z
 refine nn ?_
 have Z:=Z.get 1 U
 exact rj en ⟨ag,U,Z⟩
 rw [ay et] at b3
 refine ps U (ps U (ps U (aC (v:=Bo c6.1) U U (congrArg (fun z:Bool × Int=>Value.bool z.1) (so b3)) ?_)))
 have Z:=Z.get 1 U
 have Z:ab H w_ ([box g_0 136 #[v0_0,I c6.2],oF 3 RP.int an c1]):=by rw [← so b3]; exact Z
 refine nn ?_
 have Z:=Z.get 1 U
 exact rj en ⟨ag,U,Z⟩
 intro f w_ hR
 obtain ⟨ag,lo,Z⟩:=rk en hR
 obtain ⟨hl,a5,hF⟩:=bind_some hF
 obtain ⟨l0,eu⟩:=ca fun f w_=>f 7=an∧ab H w_ ([oF 3 RP.int an hl,box g_0 136 #[v0_0,I c6.2]])
 refine av l0 ?_ ?_
 refine al (b:=c6.1) lo (fun e0=>?_) (fun e0=>?_)
 have a5:=(az e0).symm.trans a5
 refine ao ?_
 obtain ⟨hn,c8,a5⟩:=bind_some a5
 refine ae (mF ag U ?_)
 obtain ⟨o1,hW,b4,_,_⟩:=ab.row 0 Z U c8
 refine bJ (R:=(OR.bu RP.int)) (tb:=0) 0 U underlying23 sizeOf3 U b4 (by first | rfl | simp) U c8 ?_
 obtain ⟨n3,hS,ht⟩:=ab.fE 0 Z U b4 c8
 obtain rfl:_=[_]:=hS
 refine bt U isAgg3 U (At.cell ht (j:=0) U) (aI U (nq ?_))
 obtain ⟨ho,hp,a5⟩:=bind_some a5
 refine ae (mF ag U (mF ag U (bJ (R:=(OR.bu RP.int)) (tb:=0) 0 U underlying23 sizeOf3 U b4 (by first | rfl | simp) U hp ?_)))
 obtain ⟨n4,hV,hv⟩:=ab.fE 0 Z U b4 hp
 obtain rfl:_=[_]:=hV
 refine bt U isAgg3 U (At.cell hv (j:=0) U) (bJ (R:=(OR.bu RP.int)) (tb:=0) 0 U underlying23 sizeOf3 U b4 (by first | rfl | simp) U c8 ?_)
 have Z:=ab.dr (r:=RP.int) (cs:=[I ho]) (x:=ho) Z U
 refine fj (u:=I ho) U sizeOf3 U U U b4 Z c8 (fun o2 Z=>?_)
 refine nn ?_
 obtain ⟨o3,hq,a5⟩:=bind_some a5
 refine ae (mF ag U (mI U (bJ (R:=(OR.bu RP.int)) (tb:=0) 0 U underlying23 sizeOf3 U b4 (by first | rfl | simp) U hq ?_)))
 have Z:=ab.dr (r:=RP.int) (cs:=[I hn]) (x:=hn) Z U
 refine fj (u:=I hn) U sizeOf3 U U U b4 Z hq (fun o4 Z=>?_)
 refine nn ?_
 obtain rfl:=so a5
 exact rj eu ⟨ag,Z⟩
 have a5:=(ay e0).symm.trans a5
 refine aq ?_
 obtain rfl:=so a5
 exact rj eu ⟨ag,Z⟩
 intro f w_ hR
 obtain ⟨ag,Z⟩:=rk eu hR
 refine sq (mF ag U (aV an U (nn (aA (aN (v1:=an) results164 U ?_)))))
 obtain rfl:=so hF
 exact ⟨an,U,Z⟩
theorem Af {fu:Nat} {r_:Rd} {m:Model} {g_0:Nat} {v0_0:Value} {v1_0:Value} {v1_1:Value} {H:FH} {w:World} (Z:ab H w [box g_0 136 #[v0_0,I r_.p]]) (h0_0:(rS 5 RP.u8).rel H [v0_0] r_.b) (h1_0:(rS 3 RP.int).rel H [v1_0] m.sizes) (h1_1:(rS 79 (cY 3 23)).rel H [v1_1] m.rules) {r:Rule × Int} (hF:ql fu r_ m=some r):C prog 128 #[Pt g_0,.agg #[v1_0,v1_1]] w fun v w'=>∃ (u1:Value) (u2:Value) (u3:Value),v=.agg #[I r.1.kind,u1,u2,I r.1.bound,u3]∧ab H w' [oF 3 RP.int u1 r.1.vars,oF 3 RP.int u2 r.1.coefs,own (OR.bq 23 (OR.bq 3 (OR.bu RP.int))) [u3] r.1.rows,box g_0 136 #[v0_0,I r.2]]:=by
 unfold ql at hF
 refine aE func128 U ntmps128 U (sq (cr (v:=.agg #[v1_0,v1_1]) (cs:=#[v1_0,v1_1]) U U U Z (fun g5 w6 Z=>dS (cs:=#[I 0,S0,S0,I 0,S0]) U zeroValue79 U Z (fun g7 w8 Z=>nq ?_))))
 obtain ⟨bd,j2,hF⟩:=bind_some hF
 refine ae (mV (Pt g_0) U (cS U (xM U U U U U) (jb (I 1) (I 2) (I 3) (I 4) (I 1) U U U U U) Z (fun o2 v9 Z=>?_)))
 have Z:=ko [1,2,3,4,1] 5 Z U U (by decide)
 have Z:=Z.get 3 U
 obtain ⟨j3,o3,o4,o5,o6⟩:=Z.lS [_]
 have j4:(rS 3 RP.int).rel j3 [(Sl o2 5 5)] ([1,2,3,4,1]):=cg 0 o5 U
 refine ar U call75 (cu U U) (dQ (r_:=r_) (list:=[1,2,3,4,1]) o4 (RP.mono _ h0_0 o3) j4 j2) ?_
 rintro _ w0 ⟨rfl,Z⟩
 have Z:=o6 Z (cb c0)
 refine da U (bG U) (CL (I bd.1) U) (dS (cs:=#[I 0,S0,S0,I 0,S0]) U zeroValue79 U Z (fun b4 w1 Z=>bg (vs:=#[I bd.1,S0,S0,I 0,S0]) (cs2:=#[I bd.1,S0,S0,I 0,S0]) 0 U sizeOf79 U U U (aj U (aj U (aj U (aj U (aj U aK))))) Z U (by show 0+5≤5; decide) U (fun w2 Z=>nq ?_)))
 obtain ⟨bs,j5,hF⟩:=bind_some hF
 refine ae (mV (Pt g_0) U (a7 (cs:=[v1_0,v1_1]) U isAgg26 sizeOf26 U (At.bK (de.at (ab.aM 4 Z U)) 0 2) U ?_))
 have Z:=Z.get 1 U
 obtain ⟨q0,hQ,o7,w3,o8⟩:=Z.lS [_]
 refine ar U call164 (k9 U U U) (ux (r_:=({ b:=r_.b,p:=bd.2 }:Rd)) (m:=m) (least:=1) o7 (RP.mono _ h0_0 hQ) (RP.mono _ h1_0 hQ) (RP.mono _ h1_1 hQ) j5) ?_
 rintro J w4 ⟨_,rfl,Z⟩
 have Z:=o8 Z (co bk (cb c0))
 refine fA 1 cM U U (ei (v:=J) (cs2:=#[I bd.1,J,S0,I 0,S0]) 2 U sizeOf23 U U (aH (ab.len 0 Z U)) Z U U U (fun w5 Z=>nq (sq (fA 0 gB U U (bw 0 Z isAgg3 U U U (nn (ak (sq (bD U U U (aB U (nn ?_)))))))))))
 obtain ⟨⟨g9,ha,hb,c1,hc⟩,c3,hF⟩:=bind_some hF
 obtain ⟨o9,hh⟩:=ca fun f w_=>∃ hS,∃ a3 a4 a5:Value,Le H hS∧f 4=Pt g7∧f 5=Pt b4∧ab hS w_ ([box g_0 136 #[v0_0,I g9],oF 3 RP.int a3 ha,oF 3 RP.int a4 hb,own (OR.bq 23 (OR.bq 3 (OR.bu RP.int))) [a5] hc,box b4 79 #[I bd.1,a3,a4,I c1,a5],box g7 79 #[I 0,S0,S0,I 0,S0]])
 refine av o9 ?_ ?_
 refine al (b:=(bd.1 == 1)) U (fun hi=>?_) (fun hi=>?_)
 have c3:=(az hi).symm.trans c3
 refine ao (sq (aI U (nn ?_)))
 have hx:List.length bs.1≤9223372036854775807:=bB (ab.len 1 Z U)
 obtain ⟨j6,ee,c3⟩:=bind_some c3
 obtain ⟨p0,hA⟩:=ca fun f w_=>∃ af:Int,∃ a0:List Int,∃ ek,∃ j,j6=.nx (af,a0)∧Le H ek∧f 0=Pt g_0∧f 4=Pt g7∧f 5=Pt b4∧ab ek w_ ([box g_0 136 #[v0_0,I af],oF 3 RP.int J bs.1,oF 3 RP.int j a0,box b4 79 #[I bd.1,J,j,I 0,S0],box g7 79 #[I 0,S0,S0,I 0,S0]])
 refine av p0 ?_ ?_
 refine ak ?_
 obtain ⟨j7,hj⟩:=ff fun n f w_=>∃ ds:Nat,∃ c4:List Int,∃ af:Int,∃ a0:List Int,∃ ek,∃ j,n=c4.length∧List.drop ds bs.1=c4∧ds+c4.length=bs.1.length∧aw (nh r_) c4 ds (af,a0)=some j6∧Le H ek∧f 0=Pt g_0∧f 4=Pt g7∧f 5=Pt b4∧f 6=I ds∧ab ek w_ ([box g_0 136 #[v0_0,I af],oF 3 RP.int J bs.1,oF 3 RP.int j a0,box b4 79 #[I bd.1,J,j,I 0,S0],box g7 79 #[I 0,S0,S0,I 0,S0]])
 have Z:=ab.bE (R:=(OR.bu RP.int)) (e:=3) Z
 have Z:=Z.aU [5,2,2,3,4] U
 refine a8 j7 (n:=bs.1.length) ?_ ?_
 exact ij hj ⟨0,bs.1,bs.2,[],H,S0,U,U,Nat.zero_add _,ee,(Le.refl _),U,U,U,U,(ab.aG 5 Z)⟩
 intro w7 f w_ hI
 obtain ⟨ds,c4,af,a0,ek,j,rfl,hB,g4,ee,hf,c7,cn,b0,j8,Z⟩:=ik hj hI
 refine ao (sq (mF j8 U (fA 1 cM b0 U (bw 3 Z isAgg23 U U U (aW U underlying23 U (ab.len 1 Z U) (bh U U U (nn (al (b:=decide ((ds:Int)<(bs.1.length:Int))) U (fun hk=>?_) (fun hk=>?_)))))))))
 have hV:=of_decide_eq_true hk
 rcases c4 with _ | ⟨q1,g6⟩
 exact absurd hV (by simp at g4; omega)
 obtain ⟨w9,ej,ee⟩:=aJ ee
 rw [nh] at ej
 have p1:=aY hB
 refine aq (ao (ak ?_))
 obtain ⟨dj,kk,ej⟩:=bind_some ej
 obtain ⟨p2,ks,ej⟩:=bind_some ej
 have Z:=Z.aU [4,4,4,4] U
 refine cv 6 [Pq b4 2,j,Pt g_0,none,I dj.1,none] [oF 3 RP.int J bs.1,oF 3 RP.int j a0,box b4 79 #[I bd.1,J,j,I 0,S0],box g7 79 #[I 0,S0,S0,I 0,S0]] [.base (box g_0 136 #[v0_0,I af]) (some 4),.made 3 32 (fun v_=>oF 3 RP.int v_ ([1,(-1),2,1,(-2),3])) none,.made 4 33 (fun v_=>box g_0 136 #[v0_0,I dj.2]) none,.made 5 34 (fun v_=>oF 3 RP.int v_ ([dj.1])) none] ([]) [([],[]),([],[]),([],[]),([],[1]),([0,1],[1,2]),([],[3])] (S:=[(none,[],some 4),(some 3,[32],none),(some 4,[33],none),(some 5,[34],none)]) aP (by kernel_rfl) U (by kernel_rfl) Z ?_ (fun f w_ hg dg et ky Z=>?_)
 refine aa (fun f w_ _ _ s _ _ Z=>fA 2 hO ((s 5 U).trans b0) U (nO U U Z)) (aa (fun f w_ _ _ _ _ p Z=>bw 2 Z isAgg23 (p 0 29 U U) U U (nO U U Z)) (aa (fun f w_ _ _ s _ _ Z=>mF ((s 0 U).trans c7) U (nO U U Z)) (aa ?_ ?_)))
 intro f w_ hg hW dg et g8 Z
 refine cS U (CN U U U U U U) (mf (I 1) (I (-1)) (I 2) (I 1) (I (-2)) (I 3) U U U U U U) Z (fun q2 q3 Z=>?_)
 have Z:=ko [1,(-1),2,1,(-2),3] 6 Z U U (by decide)
 have Z:=Z.aU [4,4,4,4] U
 exact ax ⟨U,_,_,U,Le.refl _,fun _ _=>trivial,Z⟩
 refine aa ?_ ?_
 intro f w_ hg hW dg et g8 Z
 have Z:ab hg w_ (oF 3 RP.int J bs.1 :: oF 3 RP.int j a0 :: box b4 79 #[I bd.1,J,j,I 0,S0] :: box g7 79 #[I 0,S0,S0,I 0,S0] :: box g_0 136 #[v0_0,I af] :: oF 3 RP.int (f 32) ([1,(-1),2,1,(-2),3]) :: hW):=Z
 have Z:=Z.get 4 U
 obtain ⟨h0,k0,lo,l0,l1⟩:=Z.lS [_]
 have h1:(rS 3 RP.int).rel h0 [(f 32)] ([1,(-1),2,1,(-2),3]):=cg 4 l0 U
 refine ar U call75 (cu (g8 2 31 U U) U) (dQ (r_:=({ b:=r_.b,p:=af }:Rd)) (list:=[1,(-1),2,1,(-2),3]) lo (RP.mono _ h0_0 (Le.trans (Le.trans hf et) k0)) h1 kk) ?_
 rintro _ q4 ⟨rfl,Z⟩
 have Z:=l1 Z (cb c0)
 have Z:=Z.aU [5,5,5,5,5] U
 exact ax ⟨U,_,_,U,Le.refl _,fun _ _=>rfl,Z⟩
 refine aa ?_ ?_
 intro f w_ hg hW dg et g8 Z
 refine cS U (bG (g8 4 33 U U)) (dp (I dj.1) U) Z (fun q8 ra Z=>?_)
 have Z:=ab.dr (r:=RP.int) (cs:=[I dj.1]) (x:=dj.1) Z U
 have Z:=ab.bS (R:=(OR.bu RP.int)) [([I dj.1],dj.1)] [dj.1] 1 Z U U U (by decide)
 have Z:=Z.aU [4,4,4,4] U
 exact ax ⟨U,_,_,U,Le.refl _,fun _ _=>trivial,Z⟩
 exact aQ
 have Z:ab hg w_ ([oF 3 RP.int J bs.1,oF 3 RP.int j a0,box b4 79 #[I bd.1,J,j,I 0,S0],box g7 79 #[I 0,S0,S0,I 0,S0],oF 3 RP.int (f 32) ([1,(-1),2,1,(-2),3]),box g_0 136 #[v0_0,I dj.2],oF 3 RP.int (f 34) ([dj.1])]):=Z
 have Z:=Z.aU [6,2] U
 refine cj (v:=j) (u:=(f 34)) U eb (ky 1 30 U U) U Z ks (fun hl rv Z=>fA 2 hO ((dg 5 U).trans b0) U (ei (v:=hl) (cs2:=#[I bd.1,J,hl,I 0,S0]) 2 U sizeOf23 U U (aH (ab.len 0 Z U)) Z U U U (fun r0 Z=>nn (ae (mF ((dg 6 U).trans j8) U (bf U U U (aI U (nn ?_))))))))
 obtain rfl:=so ej
 have Z:=Z.aU [3,1,2,3,5] U
 show ∃ m,m<_∧j7 m _ _
 refine ⟨g6.length,by simp,?_⟩
 exact ij hj ⟨ds+1,g6,dj.2,p2,hg,hl,U,aL hB,by simp at g4; omega,ee,(Le.trans hf et),((dg 0 U).trans c7),((dg 4 U).trans cn),((dg 5 U).trans b0),((eI (aO (n:=bs.1.length) (by simp at g4; omega) hx))),(ab.aG 5 Z)⟩
 rcases c4 with _ | ⟨_,_⟩
 obtain rfl:=aT ee
 refine a9 (rj hA ⟨af,a0,ek,j,U,hf,c7,cn,b0,Z⟩)
 exact absurd (of_decide_eq_false hk) (by simp at g4; omega)
 intro f w_ hR
 obtain ⟨af,a0,ek,j,rfl,hf,c7,cn,b0,Z⟩:=rk hA hR
 obtain ⟨hC,h2,c3⟩:=bind_some c3
 refine ae (mF c7 U (cS U (ER U U U U U U U) (pG (I 1) (I 2) (I 0) (I (-1)) (I 3) (I (-3)) (I 4) U U U U U U U) Z (fun l2 r1 Z=>?_)))
 have Z:=ko [1,2,0,(-1),3,(-3),4] 7 Z U U (by decide)
 have Z:=Z.get 1 U
 obtain ⟨h3,l3,l4,l5,l7⟩:=Z.lS [_]
 have h4:(rS 3 RP.int).rel h3 [(Sl l2 7 7)] ([1,2,0,(-1),3,(-3),4]):=cg 0 l5 U
 refine ar U call75 (cu U U) (dQ (r_:=({ b:=r_.b,p:=af }:Rd)) (list:=[1,2,0,(-1),3,(-3),4]) l4 (RP.mono _ h0_0 (Le.trans hf l3)) h4 h2) ?_
 rintro _ r2 ⟨rfl,Z⟩
 have Z:=l7 Z (cb c0)
 refine fA 3 km b0 U (ei (v:=I hC.1) (cs2:=#[I bd.1,J,j,I hC.1,S0]) 4 U sizeOf3 U U U Z U U U (fun r3 Z=>nn ?_))
 obtain ⟨rfl,rfl,rfl,rfl,rfl⟩:=Gd c3
 have Z:=ab.bE (R:=(OR.bq 3 (OR.bu RP.int))) (e:=23) Z
 have Z:=Z.aU [6,2,2,6,6,5] U
 exact rj hh ⟨ek,J,j,S0,hf,cn,b0,(ab.aG 6 Z)⟩
 have c3:=(ay hi).symm.trans c3
 refine sq (bD U U U (aB U (nn ?_)))
 obtain ⟨⟨e0,e1,e2⟩,b1,c3⟩:=bind_some c3
 obtain ⟨l8,e3⟩:=ca fun f w_=>∃ b5 b8:Value,f 4=Pt g7∧f 5=Pt b4∧ab H w_ ([box g_0 136 #[v0_0,I e0],oF 3 RP.int b5 e1,own (OR.bq 23 (OR.bq 3 (OR.bu RP.int))) [b8] e2,box b4 79 #[I bd.1,b5,S0,I 0,b8],box g7 79 #[I 0,S0,S0,I 0,S0]])
 refine av l8 ?_ ?_
 refine al (b:=(bd.1 == 3)) U (fun e4=>?_) (fun e4=>?_)
 have b1:=(az e4).symm.trans b1
 refine ao ?_
 obtain ⟨hD,h5,b1⟩:=bind_some b1
 refine ae (mV (Pt g_0) U (cS U (CN U U U U U U) (mf (I 3) (I 4) (I 2) (I 6) (I 0) (I 8) U U U U U U) Z (fun l9 ss Z=>?_)))
 have Z:=ko [3,4,2,6,0,8] 6 Z U U (by decide)
 have Z:=Z.get 3 U
 obtain ⟨h6,mg,m0,m1,m2⟩:=Z.lS [_]
 have h7:(rS 3 RP.int).rel h6 [(Sl l9 6 6)] ([3,4,2,6,0,8]):=cg 0 m1 U
 refine ar U call75 (cu U U) (dQ (r_:=({ b:=r_.b,p:=bs.2 }:Rd)) (list:=[3,4,2,6,0,8]) m0 (RP.mono _ h0_0 mg) h7 h5) ?_
 rintro _ sx ⟨rfl,Z⟩
 have Z:=m2 Z (cb c0)
 refine aI U (nn ?_)
 obtain ⟨hE,c5,b1⟩:=bind_some b1
 obtain ⟨n0,hn⟩:=ca fun f w_=>∃ b2:Int,∃ a2:Int,∃ ag:List (List Int),∃ o,hE=.nx (b2,a2,ag)∧f 4=Pt g7∧f 5=Pt b4∧ab H w_ ([box g_0 136 #[v0_0,I a2],oF 3 RP.int J bs.1,own (OR.bq 23 (OR.bq 3 (OR.bu RP.int))) [o] ag,box b4 79 #[I bd.1,J,S0,I 0,o],box g7 79 #[I 0,S0,S0,I 0,S0]])
 refine av n0 ?_ ?_
 refine ak ?_
 obtain ⟨hG,e5⟩:=ff fun n f w_=>∃ b2:Int,∃ a2:Int,∃ ag:List (List Int),∃ o,bx (nm r_ bs) n (b2,a2,ag)=some hE∧f 0=Pt g_0∧f 4=Pt g7∧f 5=Pt b4∧f 7=I b2∧ab H w_ ([box g_0 136 #[v0_0,I a2],oF 3 RP.int J bs.1,own (OR.bq 23 (OR.bq 3 (OR.bu RP.int))) [o] ag,box b4 79 #[I bd.1,J,S0,I 0,o],box g7 79 #[I 0,S0,S0,I 0,S0]])
 have Z:=ab.bE (R:=(OR.bq 3 (OR.bu RP.int))) (e:=23) Z
 have Z:=Z.aU [6,4,2,5,4] U
 refine a8 hG (n:=fu) ?_ ?_
 exact ij e5 ⟨hD.1,hD.2,[],S0,c5,U,U,U,U,(ab.aG 5 Z)⟩
 intro ho f w_ hI
 obtain ⟨b2,a2,ag,o,c5,c7,cn,b0,fa,Z⟩:=ik e5 hI
 rcases ho with _ | ho
 exact (cl c5).elim
 obtain ⟨sz,b3,c5⟩:=cq c5
 rw [nm] at b3
 refine ao (sq (mF fa U (c9 U U U (nn (al (b:=decide (b2 > 0)) U (fun fo=>?_) (fun fo=>?_))))))
 have b3:=(az fo).symm.trans b3
 refine aq (ao (ak (sq (cS U cC (jd  ) Z (fun hJ tb Z=>?_)))))
 have Z:=ab.bS (R:=(OR.bu RP.int)) [] [] 0 Z U U U (by decide)
 refine aV (Sl hJ 0 0) U (ax (ao (sq (aI U (nn ?_)))))
 have hp:List.length bs.1≤9223372036854775807:=bB (ab.len 2 Z U)
 obtain ⟨hK,c8,b3⟩:=bind_some b3
 obtain ⟨n1,hq⟩:=ca fun f w_=>∃ a6:List Int,∃ an:Int,∃ a1,hK=.nx (a6,an)∧f 0=Pt g_0∧f 4=Pt g7∧f 5=Pt b4∧f 7=I b2∧f 8=a1∧ab H w_ ([oF 3 RP.int a1 a6,box g_0 136 #[v0_0,I an],oF 3 RP.int J bs.1,own (OR.bq 23 (OR.bq 3 (OR.bu RP.int))) [o] ag,box b4 79 #[I bd.1,J,S0,I 0,o],box g7 79 #[I 0,S0,S0,I 0,S0]])
 refine av n1 ?_ ?_
 refine ak ?_
 obtain ⟨hN,fs⟩:=ff fun n f w_=>∃ c6:Nat,∃ c2:List Int,∃ a6:List Int,∃ an:Int,∃ a1,n=c2.length∧List.drop c6 bs.1=c2∧c6+c2.length=bs.1.length∧aw (nv r_) c2 c6 (a6,an)=some hK∧f 0=Pt g_0∧f 4=Pt g7∧f 5=Pt b4∧f 7=I b2∧f 8=a1∧f 9=I c6∧ab H w_ ([oF 3 RP.int a1 a6,box g_0 136 #[v0_0,I an],oF 3 RP.int J bs.1,own (OR.bq 23 (OR.bq 3 (OR.bu RP.int))) [o] ag,box b4 79 #[I bd.1,J,S0,I 0,o],box g7 79 #[I 0,S0,S0,I 0,S0]])
 refine a8 hN (n:=bs.1.length) ?_ ?_
 exact ij fs ⟨0,bs.1,[],a2,(Sl hJ 0 0),U,U,Nat.zero_add _,c8,c7,cn,b0,fa,U,U,Z⟩
 intro ti f w_ hI
 obtain ⟨c6,c2,a6,an,a1,rfl,hr,en,c8,c7,cn,b0,fa,hy,n2,Z⟩:=ik fs hI
 refine ao (sq (mF n2 U (fA 1 cM b0 U (bw 4 Z isAgg23 U U U (aW U underlying23 U (ab.len 2 Z U) (bh U U U (nn (al (b:=decide ((c6:Int)<(bs.1.length:Int))) U (fun gd=>?_) (fun gd=>?_)))))))))
 have hz:=of_decide_eq_true gd
 rcases c2 with _ | ⟨p3,eu⟩
 exact absurd hz (by simp at en; omega)
 obtain ⟨tl,dd,c8⟩:=aJ c8
 rw [nv] at dd
 have o0:=aY hr
 refine aq (ao (ak ?_))
 obtain ⟨ec,h8,dd⟩:=bind_some dd
 obtain ⟨n3,h9,dd⟩:=bind_some dd
 refine ae (mF hy U (mF c7 U ?_))
 have Z:=Z.get 1 U
 obtain ⟨p4,n4,n5,tn,n6⟩:=Z.lS [_]
 refine ar U call127 (cu U U) (jv (r_:=({ b:=r_.b,p:=an }:Rd)) (n_:=4) n5 (RP.mono _ h0_0 n4) h8) ?_
 rintro _ tr ⟨rfl,Z⟩
 have Z:=n6 Z (cb c0)
 refine cS U (bG U) (dp (I ec.1) U) Z (fun n7 ts Z=>?_)
 have Z:=ab.dr (r:=RP.int) (cs:=[I ec.1]) (x:=ec.1) Z U
 have Z:=ab.bS (R:=(OR.bu RP.int)) [([I ec.1],ec.1)] [ec.1] 1 Z U U U (by decide)
 have Z:=Z.get 2 U
 refine cj (v:=a1) (u:=(Sl n7 1 1)) U eb U U Z h9 (fun hP tB Z=>aV hP U (nn (ae (mF n2 U (bf U U U (aI U (nn ?_)))))))
 obtain rfl:=so dd
 show ∃ m,m<_∧hN m _ _
 refine ⟨eu.length,by simp,?_⟩
 exact ij fs ⟨c6+1,eu,n3,ec.2,hP,U,aL hr,by simp at en; omega,c8,c7,cn,b0,fa,U,((eI (aO (n:=bs.1.length) (by simp at en; omega) hp))),Z⟩
 rcases c2 with _ | ⟨_,_⟩
 obtain rfl:=aT c8
 refine a9 (rj hq ⟨a6,an,a1,U,c7,cn,b0,fa,hy,Z⟩)
 exact absurd (of_decide_eq_false gd) (by simp at en; omega)
 intro f w_ hR
 obtain ⟨a6,an,a1,rfl,c7,cn,b0,fa,hy,Z⟩:=rk hq hR
 obtain ⟨n8,ih,b3⟩:=bind_some b3
 refine ae (fA 4 ez b0 U (bw 4 Z isAgg77 U U U (mF hy U (cS U (bG U) (wb (a1) (aH (ab.len 0 Z U))) Z (fun ob tC Z=>?_)))))
 have Z:=Z.get 1 U
 have Z:=ab.bS (R:=(OR.bq 3 (OR.bu RP.int))) [([a1],a6)] [a6] 1 Z U U U (by decide)
 have Z:=Z.get 3 U
 refine cj (v:=o) (u:=(Sl ob 1 1)) U Ez U U Z ih (fun hs tS Z=>fA 4 ez b0 U (ei (v:=hs) (cs2:=#[I bd.1,J,S0,I 0,hs]) 3 U sizeOf77 U U (aH (ab.len 0 Z U)) Z U U U (fun tT Z=>nn (ae (mF fa U (db U U U (aI U (nn ?_))))))))
 obtain rfl:=so b3
 have Z:=Z.aU [4,1,2,4,4] U
 show ∃ m,m<_∧hG m _ _
 refine ⟨ho,Nat.lt_succ_self _,?_⟩
 exact ij e5 ⟨i64 (b2 - 1),an,n8,hs,c5,c7,cn,b0,U,Z⟩
 have b3:=(ay fo).symm.trans b3
 refine a9 ?_
 obtain rfl:=so b3
 obtain rfl:=so c5
 exact rj hn ⟨b2,a2,ag,o,U,cn,b0,Z⟩
 intro f w_ hR
 obtain ⟨b2,a2,ag,o,rfl,cn,b0,Z⟩:=rk hn hR
 obtain ⟨rfl,rfl,rfl⟩:=zw b1
 exact rj e3 ⟨J,o,cn,b0,Z⟩
 have b1:=(ay e4).symm.trans b1
 refine sq (bD U U U (aB U (nn ?_)))
 obtain ⟨⟨g0,g1⟩,cp,b1⟩:=bind_some b1
 obtain ⟨oh,g2⟩:=ca fun f w_=>∃ ch,f 4=Pt g7∧f 5=Pt b4∧ab H w_ ([box g_0 136 #[v0_0,I g0],oF 3 RP.int ch g1,box b4 79 #[I bd.1,ch,S0,I 0,S0],box g7 79 #[I 0,S0,S0,I 0,S0]])
 refine av oh ?_ ?_
 refine al (b:=(bd.1 == 4)) U (fun g3=>?_) (fun g3=>?_)
 have cp:=(az g3).symm.trans cp
 obtain ⟨u0,jn,cp⟩:=bind_some cp
 obtain ⟨u4,j1,cp⟩:=bind_some cp
 refine ae (mV (Pt g_0) U (a7 (cs:=[v1_0,v1_1]) U isAgg26 sizeOf26 U (At.bK (de.at (ab.aM 5 Z U)) 0 2) U ?_))
 have Z:=Z.get 2 U
 obtain ⟨p5,ht,oj,u5,oq⟩:=Z.lS [_]
 refine ar U call164 (k9 U U U) (ux (r_:=({ b:=r_.b,p:=bs.2 }:Rd)) (m:=m) (least:=2) oj (RP.mono _ h0_0 ht) (RP.mono _ h1_0 ht) (RP.mono _ h1_1 ht) jn) ?_
 rintro o1 u6 ⟨_,rfl,Z⟩
 have Z:=oq Z (co bk (cb c0))
 refine Et (R:=(OR.bu RP.int)) (b:=2) U eb U Z trivial U j1 (fun hv Z=>fA 1 cM U U (ei (v:=hv) (cs2:=#[I bd.1,hv,S0,I 0,S0]) 2 U sizeOf23 U U (aH (ab.len 0 Z U)) Z U U U (fun v3 Z=>nn ?_)))
 obtain ⟨rfl,rfl⟩:=xV cp
 have Z:=Z.aU [5,1,2,3] U
 exact rj g2 ⟨hv,U,U,(ab.aG 4 Z)⟩
 have cp:=(ay g3).symm.trans cp
 refine aq ?_
 obtain ⟨rfl,rfl⟩:=xV cp
 have Z:=Z.aU [4,1,2,3] U
 exact rj g2 ⟨J,U,U,(ab.aG 4 Z)⟩
 intro f w_ hR
 obtain ⟨ch,cn,b0,Z⟩:=rk g2 hR
 obtain ⟨rfl,rfl,rfl⟩:=zw b1
 have Z:=ab.bE (R:=(OR.bq 3 (OR.bu RP.int))) (e:=23) Z
 have Z:=Z.aU [4,4,2,4,4] U
 exact rj e3 ⟨ch,S0,cn,b0,Z⟩
 intro f w_ hR
 obtain ⟨b5,b8,cn,b0,Z⟩:=rk e3 hR
 obtain ⟨rfl,rfl,rfl,rfl,rfl⟩:=Gd c3
 have Z:=ab.bE (R:=(OR.bu RP.int)) (e:=3) Z
 have Z:=Z.aU [5,5,5,3,5,5] U
 exact rj hh ⟨H,b5,S0,b8,(Le.refl _),cn,b0,Z⟩
 intro f w_ hR
 obtain ⟨hS,a3,a4,a5,p6,cn,b0,Z⟩:=rk hh hR
 refine sq (a7 (cs:=[I bd.1,a3,a4,I c1,a5]) U isAgg79 sizeOf79 b0 (At.bK (de.at (ab.aM 4 Z U)) 0 5) U (bg (vs:=#[I bd.1,a3,a4,I c1,a5]) (cs2:=#[I bd.1,a3,a4,I c1,a5]) 5 U sizeOf79 cn U U (aj U (aj (aH (ab.len 1 Z U)) (aj (aH (ab.len 2 Z U)) (aj U (aj (aH (ab.len 3 Z U)) aK))))) Z U (by show 0+5≤5; decide) U (fun v8 Z=>nn (aA (aN (v1:=.agg #[I bd.1,a3,a4,I c1,a5]) results128 (bC isAgg79 sizeOf79 cn (ab.aM 0 Z U) U) ?_)))))
 obtain rfl:=so hF
 have Z:=Z.aU [1,4,4,4] U
 exact ⟨a3,a4,a5,U,(ab.down (ab.aG 4 Z) p6 (co bk (co bk (cc (rO (OR.fT (OR.fT bk)) _ _) (cb c0)))))⟩
theorem yj {fu:Nat} {r_:Rd} {g_0:Nat} {v0_0:Value} {H:FH} {w:World} {R:List Ass} (Z:ab H w (box g_0 136 #[v0_0,I r_.p] :: R)) (h0_0:(rS 5 RP.u8).rel H [v0_0] r_.b) {r:Model × Int} (hF:nZ fu r_=some r):C prog 74 #[Pt g_0] w fun v w'=>∃ H':FH,Le H H'∧∃ (u1:Value) (u2:Value),v=.agg #[u1,u2]∧(rS 3 RP.int).rel H' [u1] r.1.sizes∧ab H' w' (oS 79 (cF 3 23) u2 r.1.rules :: box g_0 136 #[v0_0,I r.2] :: R):=by
 unfold nZ at hF
 refine aE func74 U ntmps74 U (sq (dS (cs:=#[S0,S0]) U zeroValue26 U Z (fun g3 w4 Z=>ns (da U (cC ) (xi  ) (dS (cs:=#[S0,S0]) U zeroValue26 U Z (fun g8 w9 Z=>bg (vs:=#[S0,S0]) (cs2:=#[S0,S0]) 0 U sizeOf26 U U U (aj U (aj U aK)) Z U (by show 0+2≤2; decide) U (fun q1 Z=>nq (ao ?_))))))))
 obtain ⟨h8,h9,hF⟩:=bind_some hF
 refine ae (mV (Pt g_0) U (cS U (xO U U U U) (lU (I 3) (I 2) (I 4) (I 3) U U U U) Z (fun n1 q2 Z=>?_)))
 have Z:=ko [3,2,4,3] 4 Z U U (by decide)
 have Z:=Z.get 3 U
 obtain ⟨ih,n2,n3,n4,n5⟩:=Z.lS [_]
 have jn:(rS 3 RP.int).rel ih [(Sl n1 4 4)] ([3,2,4,3]):=cg 0 n4 U
 refine ar U call75 (cu U U) (dQ (r_:=r_) (list:=[3,2,4,3]) n3 (RP.mono _ h0_0 n2) jn h9) ?_
 rintro _ q3 ⟨rfl,Z⟩
 have Z:=n5 Z (cb c0)
 refine aI U (nn ?_)
 obtain ⟨j1,dj,hF⟩:=bind_some hF
 obtain ⟨n6,hy⟩:=ca fun f w_=>∃ c3:Int,∃ ag:Int,∃ a3:List Int,∃ ec,∃ af,j1=.nx (c3,ag,a3)∧Le H ec∧f 0=Pt g_0∧f 2=Pt g3∧f 3=Pt g8∧ab ec w_ (box g_0 136 #[v0_0,I ag] :: oF 3 RP.int af a3 :: box g8 26 #[af,S0] :: box g3 26 #[S0,S0] :: R)
 refine av n6 ?_ ?_
 refine ak ?_
 obtain ⟨j2,hb⟩:=ff fun n f w_=>∃ c3:Int,∃ ag:Int,∃ a3:List Int,∃ ec,∃ af,bx (mj r_) n (c3,ag,a3)=some j1∧Le H ec∧f 0=Pt g_0∧f 2=Pt g3∧f 3=Pt g8∧f 4=I c3∧ab ec w_ (box g_0 136 #[v0_0,I ag] :: oF 3 RP.int af a3 :: box g8 26 #[af,S0] :: box g3 26 #[S0,S0] :: R)
 have Z:=ab.bE (R:=(OR.bu RP.int)) (e:=3) Z
 have Z:=Z.aU [4,4,2,3] U
 have Z:=ab.drop 4 Z U
 refine a8 j2 (n:=fu) ?_ ?_
 exact ij hb ⟨h8.1,h8.2,[],H,S0,dj,(Le.refl _),U,U,U,U,Z⟩
 intro hN f w_ hI
 obtain ⟨c3,ag,a3,ec,af,dj,fa,b0,a6,a5,j3,Z⟩:=ik hb hI
 rcases hN with _ | hN
 exact (cl dj).elim
 obtain ⟨q4,b8,dj⟩:=cq dj
 rw [mj] at b8
 refine ao (sq (mF j3 U (c9 U U U (nn (al (b:=decide (c3 > 0)) U (fun hc=>?_) (fun hc=>?_))))))
 have b8:=(az hc).symm.trans b8
 refine aq (ao (ak ?_))
 obtain ⟨dg,j4,b8⟩:=bind_some b8
 obtain ⟨n7,j5,b8⟩:=bind_some b8
 have Z:=Z.aU [3,3,3] U
 refine cv 6 [Pt g8,af,Pt g_0,none,I dg.1,none] [oF 3 RP.int af a3,box g8 26 #[af,S0],box g3 26 #[S0,S0]] [.base (box g_0 136 #[v0_0,I ag]) (some 4),.made 3 19 (fun v_=>oF 3 RP.int v_ ([2,1,3,2,0])) none,.made 4 20 (fun v_=>box g_0 136 #[v0_0,I dg.2]) none,.made 5 21 (fun v_=>oF 3 RP.int v_ ([dg.1])) none] (R) [([],[]),([],[]),([],[]),([],[1]),([0,1],[1,2]),([],[3])] (S:=[(none,[],some 4),(some 3,[19],none),(some 4,[20],none),(some 5,[21],none)]) aP (by kernel_rfl) U (by kernel_rfl) Z ?_ (fun f w_ g9 c7 e1 j6 Z=>?_)
 refine aa (fun f w_ _ _ s _ _ Z=>fA 0 bN ((s 3 U).trans a5) U (nO U U Z)) (aa (fun f w_ _ _ _ _ p Z=>bw 1 Z isAgg23 (p 0 16 U U) U U (nO U U Z)) (aa (fun f w_ _ _ s _ _ Z=>mF ((s 0 U).trans b0) U (nO U U Z)) (aa ?_ ?_)))
 intro f w_ g9 hP c7 e1 g7 Z
 refine cS U (xM U U U U U) (jb (I 2) (I 1) (I 3) (I 2) (I 0) U U U U U) Z (fun q8 ra Z=>?_)
 have Z:=ko [2,1,3,2,0] 5 Z U U (by decide)
 have Z:=Z.aU [3,3,3] U
 exact ax ⟨U,_,_,U,Le.refl _,fun _ _=>trivial,Z⟩
 refine aa ?_ ?_
 intro f w_ g9 hP c7 e1 g7 Z
 have Z:ab g9 w_ (oF 3 RP.int af a3 :: box g8 26 #[af,S0] :: box g3 26 #[S0,S0] :: box g_0 136 #[v0_0,I ag] :: oF 3 RP.int (f 19) ([2,1,3,2,0]) :: hP):=Z
 have Z:=Z.get 3 U
 obtain ⟨j7,n8,ob,oh,oj⟩:=Z.lS [_]
 have j8:(rS 3 RP.int).rel j7 [(f 19)] ([2,1,3,2,0]):=cg 3 oh U
 refine ar U call75 (cu (g7 2 18 U U) U) (dQ (r_:=({ b:=r_.b,p:=ag }:Rd)) (list:=[2,1,3,2,0]) ob (RP.mono _ h0_0 (Le.trans (Le.trans fa e1) n8)) j8 j4) ?_
 rintro _ rv ⟨rfl,Z⟩
 have Z:=oj Z (cb c0)
 have Z:=Z.aU [4,4,4,4] U
 exact ax ⟨U,_,_,U,Le.refl _,fun _ _=>rfl,Z⟩
 refine aa ?_ ?_
 intro f w_ g9 hP c7 e1 g7 Z
 refine cS U (bG (g7 4 20 U U)) (dp (I dg.1) U) Z (fun r0 r1 Z=>?_)
 have Z:=ab.dr (r:=RP.int) (cs:=[I dg.1]) (x:=dg.1) Z U
 have Z:=ab.bS (R:=(OR.bu RP.int)) [([I dg.1],dg.1)] [dg.1] 1 Z U U U (by decide)
 have Z:=Z.aU [3,3,3] U
 exact ax ⟨U,_,_,U,Le.refl _,fun _ _=>trivial,Z⟩
 exact aQ
 have Z:ab g9 w_ (oF 3 RP.int af a3 :: box g8 26 #[af,S0] :: box g3 26 #[S0,S0] :: oF 3 RP.int (f 19) ([2,1,3,2,0]) :: box g_0 136 #[v0_0,I dg.2] :: oF 3 RP.int (f 21) ([dg.1]) :: R):=Z
 have Z:=Z.aU [5,1] U
 refine cj (v:=af) (u:=(f 21)) U eb (j6 1 17 U U) U Z j5 (fun hQ r2 Z=>fA 0 bN ((c7 3 U).trans a5) U (ei (v:=hQ) (cs2:=#[hQ,S0]) 1 U sizeOf23 U U (aH (ab.len 0 Z U)) Z U U U (fun r3 Z=>nn (ae (mF ((c7 4 U).trans j3) U (db U U U (aI U (nn ?_))))))))
 obtain rfl:=so b8
 have Z:=Z.aU [2,1,2,4] U
 have Z:=ab.drop 4 Z U
 show ∃ m,m<_∧j2 m _ _
 refine ⟨hN,Nat.lt_succ_self _,?_⟩
 exact ij hb ⟨i64 (c3 - 1),dg.2,n7,g9,hQ,dj,(Le.trans fa e1),((c7 0 U).trans b0),((c7 2 U).trans a6),((c7 3 U).trans a5),U,Z⟩
 have b8:=(ay hc).symm.trans b8
 refine a9 ?_
 obtain rfl:=so b8
 obtain rfl:=so dj
 exact rj hy ⟨c3,ag,a3,ec,af,U,fa,b0,a6,a5,Z⟩
 intro f w_ hR
 obtain ⟨c3,ag,a3,ec,af,rfl,fa,b0,a6,a5,Z⟩:=rk hy hR
 refine ao (sq (aI U (nn ?_)))
 obtain ⟨hz,cn,hF⟩:=bind_some hF
 obtain ⟨kk,hf⟩:=ca fun f w_=>∃ c4:Int,∃ a0:List Int,∃ b5,∃ J,hz=.nx (c4,a0)∧Le ec b5∧f 0=Pt g_0∧f 2=Pt g3∧f 3=Pt g8∧(rS 3 RP.int).rel b5 [J] a0∧ab b5 w_ (box g_0 136 #[v0_0,I ag] :: box g8 26 #[J,S0] :: box g3 26 #[S0,S0] :: R)
 refine av kk ?_ ?_
 refine ak ?_
 obtain ⟨hA,fo⟩:=ff fun n f w_=>∃ c4:Int,∃ a0:List Int,∃ b5,∃ J,bx mm n (c4,a0)=some hz∧Le ec b5∧f 0=Pt g_0∧f 2=Pt g3∧f 3=Pt g8∧f 5=I c4∧(rS 3 RP.int).rel b5 [J] a0∧ab b5 w_ (box g_0 136 #[v0_0,I ag] :: box g8 26 #[J,S0] :: box g3 26 #[S0,S0] :: R)
 have Z:=Z.get 1 U
 obtain ⟨hB,ks,Z,fs⟩:=ab.freeze Z
 have fs:(rS 3 RP.int).rel hB [af] a3:=fs
 refine a8 hA (n:=fu) ?_ ?_
 exact ij fo ⟨0,a3,hB,af,cn,ks,b0,a6,a5,U,fs,Z⟩
 intro hg f w_ hI
 obtain ⟨c4,a0,b5,J,cn,ha,b0,a6,a5,ee,a1,Z⟩:=ik fo hI
 rcases hg with _ | hg
 exact (cl cn).elim
 obtain ⟨o2,bd,cn⟩:=cq cn
 rw [mm] at bd
 refine ao (sq (mF ee U (bD U U U (nn (al (b:=(c4 == 0)) U (fun gd=>?_) (fun gd=>?_))))))
 have bd:=(az gd).symm.trans bd
 refine aq (ak (ao (sq (aI U (nn ?_)))))
 have hh:List.length a0≤9223372036854775807:=bB (ai a1)
 obtain ⟨hC,c6,bd⟩:=bind_some bd
 obtain ⟨ky,hi⟩:=ca fun f w_=>∃ b1:Int,hC=.nx b1∧f 0=Pt g_0∧f 2=Pt g3∧f 3=Pt g8∧f 5=I b1∧ab b5 w_ (box g_0 136 #[v0_0,I ag] :: box g8 26 #[J,S0] :: box g3 26 #[S0,S0] :: R)
 refine av ky ?_ ?_
 refine ak ?_
 obtain ⟨hD,g0⟩:=ff fun n f w_=>∃ cp:Nat,∃ b2:List Int,∃ b1:Int,n=b2.length∧List.drop cp a0=b2∧cp+b2.length=a0.length∧aw oO b2 cp b1=some hC∧f 0=Pt g_0∧f 2=Pt g3∧f 3=Pt g8∧f 5=I b1∧f 6=I cp∧ab b5 w_ (box g_0 136 #[v0_0,I ag] :: box g8 26 #[J,S0] :: box g3 26 #[S0,S0] :: R)
 refine a8 hD (n:=a0.length) ?_ ?_
 exact ij g0 ⟨0,a0,c4,U,U,Nat.zero_add _,c6,b0,a6,a5,ee,U,Z⟩
 intro o3 f w_ hI
 obtain ⟨cp,b2,b1,rfl,hj,ek,c6,b0,a6,a5,ee,hS,Z⟩:=ik g0 hI
 refine ao (sq (mF hS U (fA 0 bN a5 U (bw 1 Z isAgg23 U U U (aW U underlying23 U (ai a1) (bh U U U (nn (al (b:=decide ((cp:Int)<(a0.length:Int))) U (fun g1=>?_) (fun g1=>?_)))))))))
 have ht:=of_decide_eq_true g1
 rcases b2 with _ | ⟨hV,e2⟩
 exact absurd ht (by simp at ek; omega)
 obtain ⟨o4,hk,c6⟩:=aJ c6
 rw [oO] at hk
 have hv:=aY hj
 refine aq (ao (ak (ae (mF ee U (fA 0 bN a5 U (bw 1 Z isAgg23 U U U (mF hS U (bP (r:=RP.int) U underlying23 sizeOf3 U a1 U hv (fun o5 o6 k0 e3 hx=>?_)))))))))
 obtain rfl:_=[_]:=e3
 refine bt U isAgg3 U (At.cell (dn.at hx Z.sub) (j:=0) U) (bf U U U (bf U U U (aI U (nn (ae (mF hS U (bf U U U (aI U (nn ?_)))))))))
 obtain rfl:=so hk
 show ∃ m,m<_∧hD m _ _
 refine ⟨e2.length,by simp,?_⟩
 exact ij g0 ⟨cp+1,e2,i64 ((i64 (b1+hV))+1),U,aL hj,by simp at ek; omega,c6,b0,a6,a5,U,((eI (aO (n:=a0.length) (by simp at ek; omega) hh))),Z⟩
 rcases b2 with _ | ⟨_,_⟩
 obtain rfl:=aT c6
 refine a9 (rj hi ⟨b1,U,b0,a6,a5,ee,Z⟩)
 exact absurd (of_decide_eq_false g1) (by simp at ek; omega)
 intro f w_ hR
 obtain ⟨b1,rfl,b0,a6,a5,ee,Z⟩:=rk hi hR
 refine sq (mF ee U (c9 U U U (nn ?_)))
 obtain ⟨⟨hl,ej⟩,ch,bd⟩:=bind_some bd
 obtain ⟨lo,g2⟩:=ca fun f w_=>∃ b3,f 0=Pt g_0∧f 2=Pt g3∧f 3=Pt g8∧f 5=I hl∧(rS 3 RP.int).rel b5 [b3] ej∧ab b5 w_ (box g_0 136 #[v0_0,I ag] :: box g8 26 #[b3,S0] :: box g3 26 #[S0,S0] :: R)
 refine av lo ?_ ?_
 refine al (b:=decide (b1 > 12)) U (fun g4=>?_) (fun g4=>?_)
 have ch:=(az g4).symm.trans ch
 refine ao ?_
 obtain ⟨o7,hW,ch⟩:=bind_some ch
 refine ae (fA 0 bN a5 U (bw 1 Z isAgg23 U U U (fA 0 bN a5 U (bw 1 Z isAgg23 U U U (aW U underlying23 U (ai a1) (db U U U (Cg (a:=0) (b:=i64 ((a0.length:Int) - 1)) U eb U a1 U U hW (fun hn ho=>fA 0 bN a5 U (ei (v:=hn) (cs2:=#[hn,S0]) 1 U sizeOf23 U U (aH (ai ho)) Z U U U (fun o8 Z=>nn (ae (aI U (nn ?_)))))))))))))
 obtain ⟨rfl,rfl⟩:=xV ch
 have Z:=Z.aU [2,1,2] U
 exact rj g2 ⟨hn,b0,a6,a5,U,ho,Z⟩
 have ch:=(ay g4).symm.trans ch
 refine aq ?_
 obtain ⟨rfl,rfl⟩:=xV ch
 exact rj g2 ⟨J,b0,a6,a5,ee,a1,Z⟩
 intro f w_ hR
 obtain ⟨b3,b0,a6,a5,ee,e4,Z⟩:=rk g2 hR
 obtain rfl:=so bd
 show ∃ m,m<_∧hA m _ _
 refine ⟨hg,Nat.lt_succ_self _,?_⟩
 exact ij fo ⟨hl,ej,b5,b3,cn,ha,b0,a6,a5,ee,e4,Z⟩
 have bd:=(ay gd).symm.trans bd
 refine a9 ?_
 obtain rfl:=so bd
 obtain rfl:=so cn
 exact rj hf ⟨c4,a0,b5,J,U,ha,b0,a6,a5,a1,Z⟩
 intro f w_ hR
 obtain ⟨c4,a0,b5,J,rfl,ha,b0,a6,a5,a1,Z⟩:=rk hf hR
 refine ao (ao ?_)
 obtain ⟨hE,h0,hF⟩:=bind_some hF
 refine ae (mF b0 U (cS U (xM U U U U U) (jb (I 2) (I 3) (I 1) (I 4) (I 0) U U U U U) Z (fun l0 o9 Z=>?_)))
 have Z:=ko [2,3,1,4,0] 5 Z U U (by decide)
 have Z:=Z.get 1 U
 obtain ⟨h1,l1,l2,l3,l4⟩:=Z.lS [_]
 have h2:(rS 3 RP.int).rel h1 [(Sl l0 5 5)] ([2,3,1,4,0]):=cg 0 l3 U
 refine ar U call75 (cu U U) (dQ (r_:=({ b:=r_.b,p:=ag }:Rd)) (list:=[2,3,1,4,0]) l2 (RP.mono _ h0_0 (Le.trans (Le.trans fa ha) l1)) h2 h0) ?_
 rintro _ p0 ⟨rfl,Z⟩
 have Z:=l4 Z (cb c0)
 refine aI U (nn ?_)
 obtain ⟨hG,c1,hF⟩:=bind_some hF
 obtain ⟨l5,hp⟩:=ca fun f w_=>∃ b4:Int,∃ a2:Int,∃ an:List Rule,∃ c5,∃ o,hG=.nx (b4,a2,an)∧Le b5 c5∧f 2=Pt g3∧f 3=Pt g8∧ab c5 w_ (box g_0 136 #[v0_0,I a2] :: oS 79 (cF 3 23) o an :: box g8 26 #[J,o] :: box g3 26 #[S0,S0] :: R)
 refine av l5 ?_ ?_
 refine ak ?_
 obtain ⟨hJ,g5⟩:=ff fun n f w_=>∃ b4:Int,∃ a2:Int,∃ an:List Rule,∃ c5,∃ o,bx (mv fu r_ a0) n (b4,a2,an)=some hG∧Le b5 c5∧f 0=Pt g_0∧f 2=Pt g3∧f 3=Pt g8∧f 7=I b4∧ab c5 w_ (box g_0 136 #[v0_0,I a2] :: oS 79 (cF 3 23) o an :: box g8 26 #[J,o] :: box g3 26 #[S0,S0] :: R)
 have Z:=ab.bE (R:=(cF 3 23)) (e:=79) Z
 have Z:=Z.aU [4,4,2,3] U
 have Z:=ab.drop 4 Z U
 refine a8 hJ (n:=fu) ?_ ?_
 exact ij g5 ⟨hE.1,hE.2,[],b5,S0,c1,(Le.refl _),b0,a6,a5,U,Z⟩
 intro hq f w_ hI
 obtain ⟨b4,a2,an,c5,o,c1,c8,b0,a6,a5,l7,Z⟩:=ik g5 hI
 rcases hq with _ | hq
 exact (cl c1).elim
 obtain ⟨p1,bs,c1⟩:=cq c1
 rw [mv] at bs
 refine ao (sq (mF l7 U (c9 U U U (nn (al (b:=decide (b4 > 0)) U (fun g6=>?_) (fun g6=>?_))))))
 have bs:=(az g6).symm.trans bs
 refine aq (ao (ak ?_))
 obtain ⟨a4,h3,bs⟩:=bind_some bs
 obtain ⟨l8,h4,bs⟩:=bind_some bs
 have Z:=Z.aU [3,3,3] U
 refine bT 6 [aZ (Pq g8 1),aZ (o),aZ (Pt g_0),aZ (.agg #[J,o]),xW fun oq=>xW fun o0=>xW fun o1=>aZ (.agg #[I a4.1.kind,oq,o0,I a4.1.bound,o1]),gE] [oS 79 (cF 3 23) o an,box g8 26 #[J,o],box g3 26 #[S0,S0]] [.base (box g_0 136 #[v0_0,I a2]) (some 4),.made 4 62 (fun v_=>oF 3 RP.int (dm v_ 1) a4.1.vars) (some 5),.made 4 62 (fun v_=>oF 3 RP.int (dm v_ 2) a4.1.coefs) (some 5),.made 4 62 (fun v_=>own (OR.bq 23 (OR.bq 3 (OR.bu RP.int))) [(dm v_ 4)] a4.1.rows) (some 5),.made 4 62 (fun v_=>box g_0 136 #[v0_0,I a4.2]) none,.made 5 63 (fun v_=>oS 79 (cF 3 23) v_ ([a4.1])) none] (R) [([],[]),([],[]),([],[]),([],[]),([0],[1,2,3,4]),([1,2,3],[5])] (S:=[(none,[],some 4),(some 4,[62],some 5),(some 4,[62],some 5),(some 4,[62],some 5),(some 4,[62],none),(some 5,[63],none)]) aP (by kernel_rfl) U (by kernel_rfl) (ad (ah _) (ad (ah _) (ad (ah _) (ad (ah _) (ad (fh fun _=>fh fun _=>fh fun _=>ah _) (ad (bO) bV)))))) Z ?_ (fun f w_ dd c2 ds h5 Z=>?_)
 refine aa (fun f w_ _ _ s _ _ Z=>fA 1 fB ((s 3 U).trans a5) U (nO U U Z)) (aa (fun f w_ _ _ _ _ p Z=>bw 1 Z isAgg24 (p 0 58 U U) U U (nO U U Z)) (aa (fun f w_ _ _ s _ _ Z=>mF ((s 0 U).trans b0) U (nO U U Z)) (aa (fun f w_ _ _ s _ _ Z=>a7 (cs:=[J,o]) U isAgg26 sizeOf26 ((s 3 U).trans a5) (At.bK (de.at (ab.aM 1 Z U)) 0 2) U (nO U U Z)) (aa ?_ ?_))))
 intro f w_ dd e5 c2 ds en Z
 have Z:ab dd w_ (oS 79 (cF 3 23) o an :: box g8 26 #[J,o] :: box g3 26 #[S0,S0] :: box g_0 136 #[v0_0,I a2] :: e5):=Z
 have Z:=Z.get 3 U
 obtain ⟨h6,hK,l9,mg,m0⟩:=Z.lS [_]
 have h7:(rS 79 (cY 3 23)).rel h6 [o] an:=cg 0 mg U
 refine ar U call128 (cu (en 2 60 U U) (en 3 61 U U)) (Af (r_:=({ b:=r_.b,p:=a2 }:Rd)) (m:=({ sizes:=a0,rules:=an }:Model)) l9 (RP.mono _ h0_0 (Le.trans (Le.trans (Le.trans (Le.trans fa ha) c8) ds) hK)) (RP.mono _ a1 (Le.trans (Le.trans c8 ds) hK)) h7 h3) ?_
 rintro _ p2 ⟨m1,m2,n0,rfl,Z⟩
 have Z:=m0 Z (co bk (co bk (cc (rO (OR.fT (OR.fT bk)) _ _) (cb c0))))
 have Z:=Z.aU [3,3,3,3,6,6,6] U
 exact ax ⟨U,_,_,U,Le.refl _,fun _ _=>⟨_,_,_,U⟩,Z⟩
 refine aa ?_ ?_
 intro f w_ dd e5 c2 ds en Z
 have Z:ab dd w_ (oS 79 (cF 3 23) o an :: box g8 26 #[J,o] :: box g3 26 #[S0,S0] :: own (OR.bq 3 (OR.bu RP.int)) [(dm (f 62) 1)] a4.1.vars :: own (OR.bq 3 (OR.bu RP.int)) [(dm (f 62) 2)] a4.1.coefs :: own (OR.bq 23 (OR.bq 3 (OR.bu RP.int))) [(dm (f 62) 4)] a4.1.rows :: e5):=Z
 obtain ⟨et,eu,e0,hr⟩:=(en 4 62 U U)
 have hren:ab dd w_ (oS 79 (cF 3 23) o an :: box g8 26 #[J,o] :: box g3 26 #[S0,S0] :: own (OR.bq 3 (OR.bu RP.int)) [(dm (f 62) 1)] a4.1.vars :: own (OR.bq 3 (OR.bu RP.int)) [(dm (f 62) 2)] a4.1.coefs :: own (OR.bq 23 (OR.bq 3 (OR.bu RP.int))) [(dm (f 62) 4)] a4.1.rows :: e5):=Z
 rw [hr] at hren
 have Z:ab dd w_ (oS 79 (cF 3 23) o an :: box g8 26 #[J,o] :: box g3 26 #[S0,S0] :: oF 3 RP.int et a4.1.vars :: oF 3 RP.int eu a4.1.coefs :: own (OR.bq 23 (OR.bq 3 (OR.bu RP.int))) [e0] a4.1.rows :: e5):=hren
 refine cS U (bG hr) (wj (I a4.1.kind) (et) (eu) (I a4.1.bound) (e0) ) Z (fun p3 p4 Z=>?_)
 have Z:=Z.aU [6,6,6] U
 have Z:=qj (r:=a4.1) Z
 have Z:=ab.bS (R:=(cF 3 23)) [([I a4.1.kind,et,eu,I a4.1.bound,e0],a4.1)] [a4.1] 1 Z U U U (by decide)
 have Z:=Z.aU [3,3,3] U
 exact ax ⟨U,_,_,U,Le.refl _,fun _ _=>trivial,Z⟩
 exact aQ
 have Z:ab dd w_ (oS 79 (cF 3 23) o an :: box g8 26 #[J,o] :: box g3 26 #[S0,S0] :: box g_0 136 #[v0_0,I a4.2] :: oS 79 (cF 3 23) (f 63) ([a4.1]) :: R):=Z
 have Z:=Z.aU [4,1] U
 refine cj (v:=o) (u:=(f 63)) U Ey (h5 1 59 U U) U Z h4 (fun hs p5 Z=>fA 1 fB ((c2 3 U).trans a5) U (ei (v:=hs) (cs2:=#[J,hs]) 1 U sizeOf24 U U (aH (ab.len 0 Z U)) Z U U U (fun p6 Z=>nn (ae (mF ((c2 7 U).trans l7) U (db U U U (aI U (nn ?_))))))))
 obtain rfl:=so bs
 have Z:=Z.aU [2,1,2,3] U
 show ∃ m,m<_∧hJ m _ _
 refine ⟨hq,Nat.lt_succ_self _,?_⟩
 exact ij g5 ⟨i64 (b4 - 1),a4.2,l8,dd,hs,c1,(Le.trans c8 ds),((c2 0 U).trans b0),((c2 2 U).trans a6),((c2 3 U).trans a5),U,Z⟩
 have bs:=(ay g6).symm.trans bs
 refine a9 ?_
 obtain rfl:=so bs
 obtain rfl:=so c1
 exact rj hp ⟨b4,a2,an,c5,o,U,c8,a6,a5,Z⟩
 intro f w_ hR
 obtain ⟨b4,a2,an,c5,o,rfl,c8,a6,a5,Z⟩:=rk hp hR
 refine sq (a7 (cs:=[J,o]) U isAgg26 sizeOf26 a5 (At.bK (de.at (ab.aM 2 Z U)) 0 2) U (bg (vs:=#[J,o]) (cs2:=#[J,o]) 3 U sizeOf26 a6 U U (aj (aH (ai (RP.mono _ a1 c8))) (aj (aH (ab.len 1 Z U)) aK)) Z U (by show 0+2≤2; decide) U (fun q0 Z=>nn (aA (aN (v1:=.agg #[J,o]) results74 (bC isAgg26 sizeOf26 a6 (ab.aM 0 Z U) U) ?_)))))
 obtain rfl:=so hF
 have Z:=Z.aU [1,2] U
 have Z:=ab.drop 2 Z U
 have Z:=ab.drop 2 Z U
 exact ⟨c5,(Le.trans (Le.trans fa ha) c8),J,o,U,(RP.mono _ a1 c8),Z⟩
theorem rL {fu:Nat} {code:List UInt8} {v0:Value} {H:FH} {w:World} {R:List Ass} (Z:ab H w R) (h0:(rS 5 RP.u8).rel H [v0] code) {r:Unit} (hF:ie fu code=some r):C prog 45 #[v0] w fun v w'=>∃ o:Model,(fD o)∧∃ H':FH,Le H H'∧∃ (u1:Value) (u2:Value),v=.agg #[u1,u2]∧(rS 3 RP.int).rel H' [u1] o.sizes∧(rS 79 (cY 3 23)).rel H' [u2] o.rules∧ab H' w' (R):=by
 unfold ie at hF
 refine aE func45 U ntmps45 U (sq (dS (cs:=#[S0,S0]) U zeroValue26 U Z (fun g3 w4 Z=>nq ?_)))
 obtain ⟨x5,bs,hF⟩:=bind_some hF
 refine ae (mV v0 U (ar U call72 (b9 U) (yU (code:=code) Z h0 bs) ?_))
 rintro _ w7 ⟨H7,l7,ag,b5,rfl,an,Z⟩
 refine aV (Pt ag) U (nq ?_)
 obtain ⟨x8,b0,hF⟩:=bind_some hF
 obtain ⟨a4,hF⟩:=s5 hF
 refine ae (mV (Pt ag) U (mV (Pt ag) U (ar U call74 (b9 U) (yj (r_:=x5) Z an b0) ?_)))
 rintro _ b8 ⟨ch,a5,b1,a2,rfl,a1,Z⟩
 obtain ⟨b2,a3,Z,a0⟩:=ab.freeze Z
 have a0:(rS 79 (cY 3 23)).rel b2 [a2] x8.1.rules:=a0
 refine ar U call73 (cu U U) (xR (r_:=({ b:=x5.b,p:=x8.2 }:Rd)) (m:=x8.1) Z (RP.mono _ an (Le.trans a5 a3)) (RP.mono _ a1 a3) a0 a4) ?_
 rintro _ cn ⟨a6,bd,b3,b4,j,I,rfl,J,af,Z⟩
 have hF:=hF a6 bd
 refine bg (vs:=#[j,I]) (cs2:=#[j,I]) 1 U sizeOf26 U U U (aj (aH (ai J)) (aj (aH (ai af)) aK)) Z U (by show 0+2≤2; decide) U (fun cp Z=>nn (aA (aN (v1:=.agg #[j,I]) results45 (bC isAgg26 sizeOf26 U (ab.aM 0 Z U) U) ?_)))
 have hG:=dB hF
 have Z:=ab.drop 0 Z U
 have Z:=ab.drop 0 Z U
 exact ⟨a6.1,hG,b3,(Le.trans (Le.trans (Le.trans l7 a5) a3) b4),j,I,U,J,af,Z⟩
theorem qY {fu:Nat} {code:List UInt8} {v0:Value} {H:FH} {w:World} {R:List Ass} (Z:ab H w R) (h0:(rS 5 RP.u8).rel H [v0] code) {r:Unit} (hF:gK fu code=some r):C prog 12 #[v0] w fun v w'=>∃ o:Model,(fD o)∧∃ H':FH,Le H H'∧∃ (u1:Value) (u2:Value),v=.agg #[u1,u2]∧(rS 3 RP.int).rel H' [u1] o.sizes∧(rS 79 (cY 3 23)).rel H' [u2] o.rules∧ab H' w' (R):=by
 unfold gK at hF
 refine aE func12 U ntmps12 U (sq (dS (cs:=#[S0,S0]) U zeroValue26 U Z (fun g3 w4 Z=>nq ?_)))
 obtain ⟨ag,hF⟩:=s5 hF
 refine ae (mV v0 U (ar U call45 (b9 U) (rL (code:=code) Z h0 ag) ?_))
 rintro _ w8 ⟨x5,an,H8,l8,j,I,rfl,J,af,Z⟩
 have hF:=hF x5 an
 refine bg (vs:=#[j,I]) (cs2:=#[j,I]) 0 U sizeOf26 U U U (aj (aH (ai J)) (aj (aH (ai af)) aK)) Z U (by show 0+2≤2; decide) U (fun w9 Z=>nn (aA (aN (v1:=.agg #[j,I]) results12 (bC isAgg26 sizeOf26 U (ab.aM 0 Z U) U) ?_)))
 have hG:=dB hF
 have Z:=ab.drop 0 Z U
 exact ⟨x5,hG,H8,l8,j,I,U,J,af,Z⟩
theorem dY {n_:Int} {low:Int} {high:Int} {H:FH} {w:World} (Z:ab H w []) {r:Bool} (hF:cX n_ low high=some r):C prog 92 #[I n_,I low,I high] w fun v w'=>v=Bo r∧ab H w' []:=by
 unfold cX at hF
 refine aE func92 U ntmps92 U (sq (aB U (nq ?_)))
 obtain ⟨R1,j⟩:=ca fun f w_=>f 6=Bo ((decide (low≤n_)) && (decide (n_≤high)))∧ab H w_ ([])
 refine av R1 ?_ ?_
 refine ae (mI U (mI U (kE U U U (mB U (aD (d:=10) (b:=decide (low≤n_)) U (fun o=>?_) (fun o=>?_))))))
 refine mI U (mI U (kE U U U (aC (v:=Bo ((decide (low≤n_)) && (decide (n_≤high)))) U U (gw o U) (aB U (nn (rj j ⟨U,Z⟩))))))
 refine ps U (ps U (ps U (aC (v:=Bo ((decide (low≤n_)) && (decide (n_≤high)))) U U (jc o) (aB U (nn (rj j ⟨U,Z⟩))))))
 intro f w_ hR
 obtain ⟨J,Z⟩:=rk j hR
 refine aA (aN (v1:=Bo ((decide (low≤n_)) && (decide (n_≤high)))) results92 J ?_)
 obtain rfl:=so hF
 exact ⟨U,Z⟩
theorem ml {s:List Rule} {f_:(Rule→Option Bool)} {v0:Value} {v1:Value} {H:FH} {w:World} (Z:ab H w []) (h0:(rS 79 (cY 3 23)).rel H [v0] s) (h1:lQ prog (cY 3 23) true Value.bool f_ v1 H) {r:Int} (hF:eK s f_=some r):C prog 136 #[v0,v1] w fun v w'=>v=I r∧ab H w' []:=by
 unfold eK at hF
 obtain ⟨b2,a5,rfl,a2,cn⟩:=h1
 refine aE func136 U ntmps136 U (sq (aI U (nq (sq (mV v0 U (aW U underlying24 U (ai h0) (mI U (nn ?_))))))))
 have b3:List.length s≤9223372036854775807:=bB (ai h0)
 obtain ⟨j2,R,hF⟩:=bind_some hF
 obtain ⟨R2,cp⟩:=ca fun f w_=>j2=.nx ()∧ab H w_ ([])
 refine av R2 ?_ ?_
 refine ak ?_
 obtain ⟨I2,b4⟩:=ff fun n f w_=>∃ J:Nat,∃ j:List Rule,n=j.length∧List.drop J s=j∧J+j.length=s.length∧aw (dV f_) j J ()=some j2∧f 0=v0∧f 1=.func (.func b2) #[] a5∧f 7=I (s.length:Int)∧f 8=I J∧ab H w_ ([])
 refine a8 I2 (n:=s.length) ?_ ?_
 exact ij b4 ⟨0,s,U,U,Nat.zero_add _,R,U,U,U,U,Z⟩
 intro n2 f w_ hI
 obtain ⟨J,j,rfl,c1,a6,R,c2,c3,c4,b5,Z⟩:=ik b4 hI
 refine sq (bh U b5 c4 (nq (al (b:=decide ((J:Int)<(s.length:Int))) U (fun b8=>?_) (fun b8=>?_))))
 have c5:=of_decide_eq_true b8
 rcases j with _ | ⟨a1,a3⟩
 exact absurd c5 (by simp at a6; omega)
 obtain ⟨o2,o,R⟩:=aJ R
 rw [dV] at o
 have c6:=aY c1
 refine aq (ao (ak (sq (mF b5 U (aI U (nq ?_))))))
 obtain ⟨x8,c8,o⟩:=bind_some o
 refine ae (mF c3 U (mF c2 U (mI U (bP (r:=(cY 3 23)) U underlying24 sizeOf79 U h0 U c6 (fun ds ec c7 af ch=>?_)))))
 obtain ⟨ag,an,a0,rfl,bd,bs,b0⟩:=iL.1 af
 refine a7 (cs:=[I a1.kind,ag,an,I a1.bound,a0]) U isAgg79 sizeOf79 U (At.sub (dn.at ch Z.sub) 0 5) U ?_
 obtain ⟨dj,b1,dd,ee,dg⟩:=Z.borrow
 refine lD (args:=#[.agg #[I a1.kind,ag,an,I a1.bound,a0]]) U a2 U (b9 U) (cn _ _ b1 dd [I a1.kind,ag,an,I a1.bound,a0] _ _ _ (iL.2 ⟨_,_,_,U,(RP.mono _ bd b1),(RP.mono _ bs b1),(RP.mono _ b0 b1)⟩) c8 (lG U)) ?_
 rintro _ ej ⟨rfl,Z⟩
 have Z:=dg Z c0
 refine nn (al (b:=x8) U (fun a4=>?_) (fun a4=>?_))
 have o:=(az a4).symm.trans o
 refine sq (mI U (aI U (nn (aA (aN (v1:=I J) results136 U ?_)))))
 obtain rfl:=so o
 obtain rfl:=so R
 obtain rfl:=so hF
 exact ⟨U,Z⟩
 have o:=(ay a4).symm.trans o
 refine aq (ae (bf U b5 U (mI U (nn ?_))))
 obtain rfl:=so o
 show ∃ m,m<_∧I2 m _ _
 refine ⟨a3.length,by simp,?_⟩
 exact ij b4 ⟨J+1,a3,U,aL c1,by simp at a6; omega,R,c2,c3,c4,((eI (aO (n:=s.length) (by simp at a6; omega) b3))),Z⟩
 rcases j with _ | ⟨_,_⟩
 obtain rfl:=aT R
 refine a9 (rj cp ⟨U,Z⟩)
 exact absurd (of_decide_eq_false b8) (by simp at a6; omega)
 intro f w_ hR
 obtain ⟨rfl,Z⟩:=rk cp hR
 refine sq (aI U (nn (aA (aN (v1:=I (-1)) results136 U ?_))))
 obtain rfl:=so hF
 exact ⟨U,Z⟩
theorem ic {s:List Rule} {f_:(Rule→Option Bool)} {v0:Value} {v1:Value} {H:FH} {w:World} (Z:ab H w []) (h0:(rS 79 (cY 3 23)).rel H [v0] s) (h1:lQ prog (cY 3 23) true Value.bool f_ v1 H) {r:Bool} (hF:cm s f_=some r):C prog 93 #[v0,v1] w fun v w'=>v=Bo r∧ab H w' []:=by
 unfold cm at hF
 obtain ⟨I,o,rfl,j,J⟩:=h1
 refine aE func93 U ntmps93 U (sq (aB U (nq ?_)))
 obtain ⟨x6,R,hF⟩:=bind_some hF
 refine ae (mV v0 U (mV (.func (.func I) #[] o) U ?_))
 obtain ⟨an,l9,af,a0,ag⟩:=Z.borrow
 refine ar U call136 (cu U U) (ml (s:=s) (f_:=f_) af (RP.mono _ h0 l9) (lQ.le ⟨_,_,U,j,J⟩ l9) R) ?_
 rintro _ a1 ⟨rfl,Z⟩
 have Z:=ag Z c0
 refine hY U U U (aB U (nn (aA (aN (v1:=Bo (decide (x6 ≥ 0))) results93 U ?_))))
 obtain rfl:=so hF
 exact ⟨U,Z⟩
theorem rN {s:List Int} {v_:Int} {v0:Value} {H:FH} {w:World} (Z:ab H w []) (h0:(rS 3 RP.int).rel H [v0] s) {r:Int} (hF:iu s v_=some r):C prog 141 #[v0,I v_] w fun v w'=>v=I r∧ab H w' []:=by
 unfold iu at hF
 refine aE func141 U ntmps141 U (sq (aI U (nq (sq (mV v0 U (aW U underlying23 U (ai h0) (mI U (nn ?_))))))))
 have a2:List.length s≤9223372036854775807:=bB (ai h0)
 obtain ⟨j2,R,hF⟩:=bind_some hF
 obtain ⟨R2,bd⟩:=ca fun f w_=>j2=.nx ()∧ab H w_ ([])
 refine av R2 ?_ ?_
 refine ak ?_
 obtain ⟨I2,a3⟩:=ff fun n f w_=>∃ J:Nat,∃ o:List Int,n=o.length∧List.drop J s=o∧J+o.length=s.length∧aw (eE v_) o J ()=some j2∧f 0=v0∧f 1=I v_∧f 7=I (s.length:Int)∧f 8=I J∧ab H w_ ([])
 refine a8 I2 (n:=s.length) ?_ ?_
 exact ij a3 ⟨0,s,U,U,Nat.zero_add _,R,U,U,U,U,Z⟩
 intro n2 f w_ hI
 obtain ⟨J,o,rfl,bs,a1,R,b0,b1,b2,a4,Z⟩:=ik a3 hI
 refine sq (bh U a4 b2 (nq (al (b:=decide ((J:Int)<(s.length:Int))) U (fun a5=>?_) (fun a5=>?_))))
 have b3:=of_decide_eq_true a5
 rcases o with _ | ⟨b5,an⟩
 exact absurd b3 (by simp at a1; omega)
 obtain ⟨o2,af,R⟩:=aJ R
 rw [eE] at af
 have b4:=aY bs
 refine aq (ao (ak (sq (mF a4 U (aI U (ns (mF b1 U (mF b0 U (mI U (bP (r:=RP.int) U underlying23 sizeOf3 U h0 U b4 (fun g8 o9 b8 ag a6=>?_)))))))))))
 obtain rfl:_=[_]:=ag
 refine bt U isAgg3 U (At.cell (dn.at a6 Z.sub) (j:=0) U) (bD U U U (nn (al (b:=(v_ == b5)) U (fun a0=>?_) (fun a0=>?_))))
 have af:=(az a0).symm.trans af
 refine sq (mI U (aI U (nn (aA (aN (v1:=I J) results141 U ?_)))))
 obtain rfl:=so af
 obtain rfl:=so R
 obtain rfl:=so hF
 exact ⟨U,Z⟩
 have af:=(ay a0).symm.trans af
 refine aq (ae (bf U a4 U (mI U (nn ?_))))
 obtain rfl:=so af
 show ∃ m,m<_∧I2 m _ _
 refine ⟨an.length,by simp,?_⟩
 exact ij a3 ⟨J+1,an,U,aL bs,by simp at a1; omega,R,b0,b1,b2,((eI (aO (n:=s.length) (by simp at a1; omega) a2))),Z⟩
 rcases o with _ | ⟨_,_⟩
 obtain rfl:=aT R
 refine a9 (rj bd ⟨U,Z⟩)
 exact absurd (of_decide_eq_false a5) (by simp at a1; omega)
 intro f w_ hR
 obtain ⟨rfl,Z⟩:=rk bd hR
 refine sq (aI U (nn (aA (aN (v1:=I (-1)) results141 U ?_))))
 obtain rfl:=so hF
 exact ⟨U,Z⟩
theorem iW {s:List Int} {v_:Int} {v0:Value} {H:FH} {w:World} (Z:ab H w []) (h0:(rS 3 RP.int).rel H [v0] s) {r:Bool} (hF:cV s v_=some r):C prog 97 #[v0,I v_] w fun v w'=>v=Bo r∧ab H w' []:=by
 unfold cV at hF
 refine aE func97 U ntmps97 U (sq (aB U (nq ?_)))
 obtain ⟨x6,j,hF⟩:=bind_some hF
 refine ae (mV v0 U (mI U ?_))
 obtain ⟨R,l9,o,af,J⟩:=Z.borrow
 refine ar U call141 (cu U U) (rN (s:=s) (v_:=v_) o (RP.mono _ h0 l9) j) ?_
 rintro _ ag ⟨rfl,Z⟩
 have Z:=J Z c0
 refine hY U U U (aB U (nn (aA (aN (v1:=Bo (decide (x6 ≥ 0))) results97 U ?_))))
 obtain rfl:=so hF
 exact ⟨U,Z⟩
theorem oG {s:List Int} {f_:(Int→Option Bool)} {v0:Value} {v1:Value} {H:FH} {w:World} (Z:ab H w []) (h0:(rS 3 RP.int).rel H [v0] s) (h1:lQ prog RP.int false Value.bool f_ v1 H) {r:Int} (hF:gV s f_=some r):C prog 157 #[v0,v1] w fun v w'=>v=I r∧ab H w' []:=by
 unfold gV at hF
 obtain ⟨a4,a2,rfl,an,b1⟩:=h1
 refine aE func157 U ntmps157 U (sq (aI U (nq (sq (mV v0 U (aW U underlying23 U (ai h0) (mI U (nn ?_))))))))
 have a5:List.length s≤9223372036854775807:=bB (ai h0)
 obtain ⟨j2,af,hF⟩:=bind_some hF
 obtain ⟨R2,b2⟩:=ca fun f w_=>j2=.nx ()∧ab H w_ ([])
 refine av R2 ?_ ?_
 refine ak ?_
 obtain ⟨I2,a6⟩:=ff fun n f w_=>∃ R:Nat,∃ o:List Int,n=o.length∧List.drop R s=o∧R+o.length=s.length∧aw (fC f_) o R ()=some j2∧f 0=v0∧f 1=.func (.func a4) #[] a2∧f 7=I (s.length:Int)∧f 8=I R∧ab H w_ ([])
 refine a8 I2 (n:=s.length) ?_ ?_
 exact ij a6 ⟨0,s,U,U,Nat.zero_add _,af,U,U,U,U,Z⟩
 intro n2 f w_ hI
 obtain ⟨R,o,rfl,b3,a3,af,b4,b5,b8,bd,Z⟩:=ik a6 hI
 refine sq (bh U bd b8 (nq (al (b:=decide ((R:Int)<(s.length:Int))) U (fun bs=>?_) (fun bs=>?_))))
 have ch:=of_decide_eq_true bs
 rcases o with _ | ⟨cn,a0⟩
 exact absurd ch (by simp at a3; omega)
 obtain ⟨o2,J,af⟩:=aJ af
 rw [fC] at J
 have cp:=aY b3
 refine aq (ao (ak (sq (mF bd U (aI U (nq ?_))))))
 obtain ⟨x8,c2,J⟩:=bind_some J
 refine ae (mF b5 U (mF b4 U (mI U (bP (r:=RP.int) U underlying23 sizeOf3 U h0 U cp (fun c7 c8 c1 ag b0=>?_)))))
 obtain rfl:_=[_]:=ag
 refine bt U isAgg3 U (At.cell (dn.at b0 Z.sub) (j:=0) U) ?_
 obtain ⟨c6,c3,c4,dd,c5⟩:=Z.borrow
 refine lD (args:=#[I cn]) U an U (b9 U) (b1 _ _ c3 c4 [I cn] _ _ _ U c2 (lG U)) ?_
 rintro _ dg ⟨rfl,Z⟩
 have Z:=c5 Z c0
 refine nn (al (b:=x8) U (fun a1=>?_) (fun a1=>?_))
 have J:=(az a1).symm.trans J
 refine sq (mI U (aI U (nn (aA (aN (v1:=I R) results157 U ?_)))))
 obtain rfl:=so J
 obtain rfl:=so af
 obtain rfl:=so hF
 exact ⟨U,Z⟩
 have J:=(ay a1).symm.trans J
 refine aq (ae (bf U bd U (mI U (nn ?_))))
 obtain rfl:=so J
 show ∃ m,m<_∧I2 m _ _
 refine ⟨a0.length,by simp,?_⟩
 exact ij a6 ⟨R+1,a0,U,aL b3,by simp at a3; omega,af,b4,b5,b8,((eI (aO (n:=s.length) (by simp at a3; omega) a5))),Z⟩
 rcases o with _ | ⟨_,_⟩
 obtain rfl:=aT af
 refine a9 (rj b2 ⟨U,Z⟩)
 exact absurd (of_decide_eq_false bs) (by simp at a3; omega)
 intro f w_ hR
 obtain ⟨rfl,Z⟩:=rk b2 hR
 refine sq (aI U (nn (aA (aN (v1:=I (-1)) results157 U ?_))))
 obtain rfl:=so hF
 exact ⟨U,Z⟩
theorem jR {s:List Int} {f_:(Int→Option Bool)} {v0:Value} {v1:Value} {H:FH} {w:World} (Z:ab H w []) (h0:(rS 3 RP.int).rel H [v0] s) (h1:lQ prog RP.int false Value.bool f_ v1 H) {r:Bool} (hF:cE s f_=some r):C prog 113 #[v0,v1] w fun v w'=>v=Bo r∧ab H w' []:=by
 unfold cE at hF
 obtain ⟨I,o,rfl,j,J⟩:=h1
 refine aE func113 U ntmps113 U (sq (aB U (nq ?_)))
 obtain ⟨x6,R,hF⟩:=bind_some hF
 refine ae (mV v0 U (mV (.func (.func I) #[] o) U ?_))
 obtain ⟨an,l9,af,a0,ag⟩:=Z.borrow
 refine ar U call157 (cu U U) (oG (s:=s) (f_:=f_) af (RP.mono _ h0 l9) (lQ.le ⟨_,_,U,j,J⟩ l9) R) ?_
 rintro _ a1 ⟨rfl,Z⟩
 have Z:=ag Z c0
 refine hY U U U (aB U (nn (aA (aN (v1:=Bo (decide (x6 ≥ 0))) results113 U ?_))))
 obtain rfl:=so hF
 exact ⟨U,Z⟩
theorem tE {n_:Int} {H:FH} {w:World} (Z:ab H w []) {r:Bool} (hF:gY n_=some r):C prog 137 #[I n_] w fun v w'=>v=Bo r∧ab H w' []:=by
 unfold gY at hF
 refine aE func137 U ntmps137 U (sq (aB U (nq ?_)))
 obtain ⟨b8,j,hF⟩:=bind_some hF
 obtain ⟨R9,J⟩:=ca fun f w_=>f 2=Bo b8∧ab H w_ ([])
 refine av R9 ?_ ?_
 refine ae (mI U (bD U U U (mB U (aD (d:=5) (b:=(n_ == 0)) U (fun o=>?_) (fun o=>?_)))))
 rw [az o] at j
 refine ps U (ps U (ps U (dU j U (aB U (nn (rj J ⟨U,Z⟩))))))
 rw [ay o] at j
 obtain ⟨x6,R,j⟩:=bind_some j
 refine mI U ?_
 obtain ⟨a0,a1,af,a2,ag⟩:=Z.borrow
 refine ar U call92 (k9 U U U) (dY (n_:=n_) (low:=(-9)) (high:=9) af R) ?_
 rintro _ a3 ⟨rfl,Z⟩
 have Z:=ag Z c0
 refine bL U U (dU j U (aB U (nn (rj J ⟨U,Z⟩))))
 intro f w_ hR
 obtain ⟨an,Z⟩:=rk J hR
 refine aA (aN (v1:=Bo b8) results137 an ?_)
 obtain rfl:=so hF
 exact ⟨U,Z⟩
theorem oA {s:List (List Int)} {f_:((List Int)→Option Bool)} {v0:Value} {v1:Value} {H:FH} {w:World} (Z:ab H w []) (h0:(rS 23 (rS 3 RP.int)).rel H [v0] s) (h1:lQ prog (rS 3 RP.int) false Value.bool f_ v1 H) {r:Int} (hF:gy s f_=some r):C prog 169 #[v0,v1] w fun v w'=>v=I r∧ab H w' []:=by
 unfold gy at hF
 obtain ⟨a4,a2,rfl,an,b1⟩:=h1
 refine aE func169 U ntmps169 U (sq (aI U (nq (sq (mV v0 U (aW U underlying77 U (ai h0) (mI U (nn ?_))))))))
 have a5:List.length s≤9223372036854775807:=bB (ai h0)
 obtain ⟨j2,af,hF⟩:=bind_some hF
 obtain ⟨R2,b2⟩:=ca fun f w_=>j2=.nx ()∧ab H w_ ([])
 refine av R2 ?_ ?_
 refine ak ?_
 obtain ⟨I2,a6⟩:=ff fun n f w_=>∃ R:Nat,∃ o:List (List Int),n=o.length∧List.drop R s=o∧R+o.length=s.length∧aw (fg f_) o R ()=some j2∧f 0=v0∧f 1=.func (.func a4) #[] a2∧f 7=I (s.length:Int)∧f 8=I R∧ab H w_ ([])
 refine a8 I2 (n:=s.length) ?_ ?_
 exact ij a6 ⟨0,s,U,U,Nat.zero_add _,af,U,U,U,U,Z⟩
 intro n2 f w_ hI
 obtain ⟨R,o,rfl,b3,a3,af,b4,b5,b8,bd,Z⟩:=ik a6 hI
 refine sq (bh U bd b8 (nq (al (b:=decide ((R:Int)<(s.length:Int))) U (fun bs=>?_) (fun bs=>?_))))
 have ch:=of_decide_eq_true bs
 rcases o with _ | ⟨c8,a0⟩
 exact absurd ch (by simp at a3; omega)
 obtain ⟨o2,J,af⟩:=aJ af
 rw [fg] at J
 have cn:=aY b3
 refine aq (ao (ak (sq (mF bd U (aI U (nq ?_))))))
 obtain ⟨x8,c4,J⟩:=bind_some J
 refine ae (mF b5 U (mF b4 U (mI U (bP (r:=(rS 3 RP.int)) U underlying77 sizeOf23 U h0 U cn (fun dd dg c3 ag b0=>?_)))))
 obtain ⟨cp,rfl,c1⟩:=kP ag
 refine bt U isAgg23 U (At.cell (dn.at b0 Z.sub) (j:=0) U) ?_
 obtain ⟨c7,c2,c5,dj,c6⟩:=Z.borrow
 refine lD (args:=#[cp]) U an U (b9 U) (b1 _ _ c2 c5 [cp] _ _ _ (RP.mono _ c1 c2) c4 (lG U)) ?_
 rintro _ ds ⟨rfl,Z⟩
 have Z:=c6 Z c0
 refine nn (al (b:=x8) U (fun a1=>?_) (fun a1=>?_))
 have J:=(az a1).symm.trans J
 refine sq (mI U (aI U (nn (aA (aN (v1:=I R) results169 U ?_)))))
 obtain rfl:=so J
 obtain rfl:=so af
 obtain rfl:=so hF
 exact ⟨U,Z⟩
 have J:=(ay a1).symm.trans J
 refine aq (ae (bf U bd U (mI U (nn ?_))))
 obtain rfl:=so J
 show ∃ m,m<_∧I2 m _ _
 refine ⟨a0.length,by simp,?_⟩
 exact ij a6 ⟨R+1,a0,U,aL b3,by simp at a3; omega,af,b4,b5,b8,((eI (aO (n:=s.length) (by simp at a3; omega) a5))),Z⟩
 rcases o with _ | ⟨_,_⟩
 obtain rfl:=aT af
 refine a9 (rj b2 ⟨U,Z⟩)
 exact absurd (of_decide_eq_false bs) (by simp at a3; omega)
 intro f w_ hR
 obtain ⟨rfl,Z⟩:=rk b2 hR
 refine sq (aI U (nn (aA (aN (v1:=I (-1)) results169 U ?_))))
 obtain rfl:=so hF
 exact ⟨U,Z⟩
theorem jB {s:List (List Int)} {f_:((List Int)→Option Bool)} {v0:Value} {v1:Value} {H:FH} {w:World} (Z:ab H w []) (h0:(rS 23 (rS 3 RP.int)).rel H [v0] s) (h1:lQ prog (rS 3 RP.int) false Value.bool f_ v1 H) {r:Bool} (hF:cT s f_=some r):C prog 138 #[v0,v1] w fun v w'=>v=Bo r∧ab H w' []:=by
 unfold cT at hF
 obtain ⟨I,o,rfl,j,J⟩:=h1
 refine aE func138 U ntmps138 U (sq (aB U (nq ?_)))
 obtain ⟨x6,R,hF⟩:=bind_some hF
 refine ae (mV v0 U (mV (.func (.func I) #[] o) U ?_))
 obtain ⟨an,l9,af,a0,ag⟩:=Z.borrow
 refine ar U call169 (cu U U) (oA (s:=s) (f_:=f_) af (RP.mono _ h0 l9) (lQ.le ⟨_,_,U,j,J⟩ l9) R) ?_
 rintro _ a1 ⟨rfl,Z⟩
 have Z:=ag Z c0
 refine hY U U U (aB U (nn (aA (aN (v1:=Bo (decide (x6 ≥ 0))) results138 U ?_))))
 obtain rfl:=so hF
 exact ⟨U,Z⟩
theorem su {n_:Int} {H:FH} {w:World} (Z:ab H w []) {r:Bool} (hF:gJ n_=some r):C prog 140 #[I n_] w fun v w'=>v=Bo r∧ab H w' []:=by
 unfold gJ at hF
 refine aE func140 U ntmps140 U (sq (aB U (nq ?_)))
 obtain ⟨x6,j,hF⟩:=bind_some hF
 refine ae (mI U ?_)
 obtain ⟨R,l9,o,af,J⟩:=Z.borrow
 refine ar U call92 (k9 U U U) (dY (n_:=n_) (low:=0) (high:=3) o j) ?_
 rintro _ ag ⟨rfl,Z⟩
 have Z:=J Z c0
 refine bL U U (aB U (nn (aA (aN (v1:=Bo (!x6)) results140 U ?_))))
 obtain rfl:=so hF
 exact ⟨U,Z⟩
theorem tL {c1:Rule} {row:List Int} {v0:Value} {g_c1:Nat} {v1_1:Value} {v1_2:Value} {v1_4:Value} {H:FH} {w:World} (Z:ab H w []) (h0:(rS 3 RP.int).rel H [v0] row) (hat_g_c1:dn H g_c1 0 [I c1.kind,v1_1,v1_2,I c1.bound,v1_4]) (h1_1:(rS 3 RP.int).rel H [v1_1] c1.vars) (h1_2:(rS 3 RP.int).rel H [v1_2] c1.coefs) (h1_4:(rS 23 (rS 3 RP.int)).rel H [v1_4] c1.rows) {r:Bool} (hF:gX c1 row=some r):C prog 139 #[v0,Pt g_c1] w fun v w'=>v=Bo r∧ab H w' []:=by
 unfold gX at hF
 refine aE func139 U ntmps139 U (sq (aB U (nq ?_)))
 obtain ⟨b8,o,hF⟩:=bind_some hF
 obtain ⟨R9,R⟩:=ca fun f w_=>f 3=Bo b8∧ab H w_ ([])
 refine av R9 ?_ ?_
 refine ae (mV v0 U (aW U underlying23 U (ai h0) (fA 1 cM U U (bt U isAgg23 U (At.ll (dn.at hat_g_c1 Z.sub) (j:=1) U) (aW U underlying23 U (ai h1_1) (gS U U U (mB U (aD (d:=10) (b:=((row.length:Int) != (c1.vars.length:Int))) U (fun J=>?_) (fun J=>?_)))))))))
 rw [az J] at o
 refine ps U (ps U (dU o U (aB U (nn (rj R ⟨U,Z⟩)))))
 rw [ay J] at o
 obtain ⟨x6,an,o⟩:=bind_some o
 refine mV v0 U ?_
 obtain ⟨af,a0,a1,a4,a2⟩:=Z.borrow
 have ag:lQ prog RP.int false Value.bool gJ (.func (.func 140) #[] #[]) af:=by
   refine ⟨_,_,U,call140,fun H_ w_ hE_ hs_ cs_ x_ y_ args_ hr_ hy_ ha_=>?_⟩
   obtain rfl:cs_=[_]:=hr_
   obtain rfl:=kZ (b:=#[I x_]) ha_
   exact su (n_:=x_) hs_  hy_
 refine ar U call113 (cu U U) (jR (s:=row) (f_:=gJ) a1 (RP.mono _ h0 a0) ag an) ?_
 rintro _ a5 ⟨rfl,Z⟩
 have Z:=a2 Z c0
 refine dU o U (aB U (nn (rj R ⟨U,Z⟩)))
 intro f w_ hR
 obtain ⟨a3,Z⟩:=rk R hR
 refine aA (aN (v1:=Bo b8) results139 a3 ?_)
 obtain rfl:=so hF
 exact ⟨U,Z⟩
theorem v5 {r_:Rule} {cells:Int} {v0_1:Value} {v0_2:Value} {v0_4:Value} {H:FH} {w:World} (Z:ab H w []) (h0_1:(rS 3 RP.int).rel H [v0_1] r_.vars) (h0_2:(rS 3 RP.int).rel H [v0_2] r_.coefs) (h0_4:(rS 23 (rS 3 RP.int)).rel H [v0_4] r_.rows) {r:Bool} (hF:lO r_ cells=some r):C prog 95 #[.agg #[I r_.kind,v0_1,v0_2,I r_.bound,v0_4],I cells] w fun v w'=>v=Bo r∧ab H w' []:=by
 unfold lO at hF
 refine aE func95 U ntmps95 U (sq (cr (v:=.agg #[I r_.kind,v0_1,v0_2,I r_.bound,v0_4]) (cs:=#[I r_.kind,v0_1,v0_2,I r_.bound,v0_4]) U U U Z (fun g3 w4 Z=>aB U (nq (sq (fA 1 cM U U (bw 0 Z isAgg23 U U U (aW U underlying23 U (ai h0_1) (mI U (nn ?_))))))))))
 have eu:List.length r_.vars≤9223372036854775807:=bB (ai h0_1)
 obtain ⟨j6,a5,hF⟩:=bind_some hF
 obtain ⟨R6,fo⟩:=ca fun f w_=>j6=.nx ()∧f 2=Pt g3∧ab H w_ ([box g3 79 #[I r_.kind,v0_1,v0_2,I r_.bound,v0_4]])
 refine av R6 ?_ ?_
 refine ak ?_
 obtain ⟨I6,e0⟩:=ff fun n f w_=>∃ a4:Nat,∃ an:List Int,n=an.length∧List.drop a4 r_.vars=an∧a4+an.length=r_.vars.length∧aw (kQ r_ cells) an a4 ()=some j6∧f 1=I cells∧f 2=Pt g3∧f 8=v0_1∧f 9=I (r_.vars.length:Int)∧f 10=I a4∧ab H w_ ([box g3 79 #[I r_.kind,v0_1,v0_2,I r_.bound,v0_4]])
 refine a8 I6 (n:=r_.vars.length) ?_ ?_
 exact ij e0 ⟨0,r_.vars,U,U,Nat.zero_add _,a5,U,U,U,U,U,Z⟩
 intro n6 f w_ hI
 obtain ⟨a4,an,rfl,fs,en,a5,ch,o,cn,cp,a0,Z⟩:=ik e0 hI
 refine sq (bh U a0 cp (nq (al (b:=decide ((a4:Int)<(r_.vars.length:Int))) U (fun e1=>?_) (fun e1=>?_))))
 have fu:=of_decide_eq_true e1
 rcases an with _ | ⟨gd,c2⟩
 exact absurd fu (by simp at en; omega)
 obtain ⟨o6,a1,a5⟩:=aJ a5
 rw [kQ] at a1
 have g0:=aY fs
 refine aq (ao (ak (sq (mF a0 U (bP (r:=RP.int) U underlying23 sizeOf3 cn h0_1 a0 g0 (fun hS hV hn a6 e2=>?_))))))
 obtain rfl:_=[_]:=a6
 refine bt U isAgg3 U (At.cell (dn.at e2 Z.sub) (j:=0) U) (aI U (aI U (nq ?_)))
 obtain ⟨ho,g1,a1⟩:=bind_some a1
 obtain ⟨g2,af,a1⟩:=bind_some a1
 obtain ⟨hp,c3⟩:=ca fun f w_=>f 1=I cells∧f 2=Pt g3∧f 8=v0_1∧f 9=I (r_.vars.length:Int)∧f 10=I a4∧f 27=Bo g2∧ab H w_ ([box g3 79 #[I r_.kind,v0_1,v0_2,I r_.bound,v0_4]])
 refine av hp ?_ ?_
 refine ae (mI U (mF ch U (db U U U ?_)))
 obtain ⟨hJ,hW,hq,h0,hr⟩:=Z.borrow
 refine ar U call92 (k9 U U U) (dY (n_:=gd) (low:=0) (high:=i64 (cells - 1)) hq g1) ?_
 rintro _ h1 ⟨rfl,Z⟩
 have Z:=hr Z c0
 refine bL U U (mB U (aD (d:=20) (b:=(!ho)) U (fun c4=>?_) (fun c4=>?_)))
 rw [az c4] at af
 refine ps U (ps U (ps U (ps U (ps U (ps U (dU af U (nn (rj c3 ⟨ch,o,cn,cp,a0,U,Z⟩))))))))
 rw [ay c4] at af
 obtain ⟨hs,g4,af⟩:=bind_some af
 obtain ⟨h2,g5,af⟩:=bind_some af
 refine fA 1 cM o U (bw 0 Z isAgg23 U U U (mI U (Cg (a:=0) (b:=(a4:Int)) U eb U h0_1 U U g4 (fun h3 g6=>mI U ?_))))
 obtain ⟨hK,ht,hv,h4,hx⟩:=Z.borrow
 refine ar U call97 (cu U U) (iW (s:=hs) (v_:=gd) hv (RP.mono _ g6 ht) g5) ?_
 rintro _ h5 ⟨rfl,Z⟩
 have Z:=hx Z c0
 refine dU af U (nn (rj c3 ⟨ch,o,cn,cp,a0,U,Z⟩))
 intro f w_ hR
 obtain ⟨ch,o,cn,cp,a0,g7,Z⟩:=rk c3 hR
 refine al (b:=g2) g7 (fun c5=>?_) (fun c5=>?_)
 have a1:=(az c5).symm.trans a1
 refine sq (aB U (nn (aA (aN (v1:=Bo false) results95 U ?_))))
 obtain rfl:=so a1
 obtain rfl:=so a5
 obtain rfl:=so hF
 exact ⟨U,(ab.aG 0 Z)⟩
 have a1:=(ay c5).symm.trans a1
 refine aq (ae (bf U a0 U (mI U (nn ?_))))
 obtain rfl:=so a1
 show ∃ m,m<_∧I6 m _ _
 refine ⟨c2.length,by simp,?_⟩
 exact ij e0 ⟨a4+1,c2,U,aL fs,by simp at en; omega,a5,ch,o,cn,cp,((eI (aO (n:=r_.vars.length) (by simp at en; omega) eu))),Z⟩
 rcases an with _ | ⟨_,_⟩
 obtain rfl:=aT a5
 refine a9 (rj fo ⟨U,o,Z⟩)
 exact absurd (of_decide_eq_false e1) (by simp at en; omega)
 intro f w_ hR
 obtain ⟨rfl,o,Z⟩:=rk fo hR
 refine ao (ao ?_)
 obtain ⟨hy,J⟩:=ca fun f w_=>f 2=Pt g3∧f 59=Bo ((((r_.vars.length:Int) == 0) || ((r_.kind != 1) && ((decide ((r_.coefs.length:Int) > 0)) || (r_.bound != 0)))) || ((r_.kind != 3) && (decide ((r_.rows.length:Int) > 0))))∧ab H w_ ([box g3 79 #[I r_.kind,v0_1,v0_2,I r_.bound,v0_4]])
 refine av hy ?_ ?_
 refine ae (fA 1 cM o U (bw 0 Z isAgg23 U U U (aW U underlying23 U (ai h0_1) (bD U U U (mB U (aD (d:=33) (b:=((r_.vars.length:Int) == 0)) U (fun a3=>?_) (fun a3=>?_)))))))
 refine ps U (ps U (ps U (ps U (ps U (ps U (ps U (ps U (ps U (ps U (ps U (ps U (ps U (ps U (aC (v:=Bo (((r_.vars.length:Int) == 0) || ((r_.kind != 1) && ((decide ((r_.coefs.length:Int) > 0)) || (r_.bound != 0))))) U U (fK a3) (mB U (aD (d:=49) (b:=(((r_.vars.length:Int) == 0) || ((r_.kind != 1) && ((decide ((r_.coefs.length:Int) > 0)) || (r_.bound != 0))))) U (fun c6=>?_) (fun c6=>?_)))))))))))))))))
 refine ps U (ps U (ps U (ps U (ps U (ps U (ps U (ps U (ps U (aC (v:=Bo ((((r_.vars.length:Int) == 0) || ((r_.kind != 1) && ((decide ((r_.coefs.length:Int) > 0)) || (r_.bound != 0)))) || ((r_.kind != 3) && (decide ((r_.rows.length:Int) > 0))))) U U (fK c6) (nn (rj J ⟨o,U,Z⟩)))))))))))
 exact gj (Bv a3) c6
 refine fA 0 gB o U (bw 0 Z isAgg3 U U U (gS U U U (mB U (aD (d:=37) (b:=(r_.kind != 1)) U (fun b1=>?_) (fun b1=>?_)))))
 refine fA 2 hO o U (bw 0 Z isAgg23 U U U (aW U underlying23 U (ai h0_2) (c9 U U U (mB U (aD (d:=42) (b:=decide ((r_.coefs.length:Int) > 0)) U (fun c7=>?_) (fun c7=>?_))))))
 refine ps U (ps U (ps U (aC (v:=Bo ((decide ((r_.coefs.length:Int) > 0)) || (r_.bound != 0))) U U (fK c7) (aC (v:=Bo ((r_.kind != 1) && ((decide ((r_.coefs.length:Int) > 0)) || (r_.bound != 0)))) U U (gw b1 U) (aC (v:=Bo (((r_.vars.length:Int) == 0) || ((r_.kind != 1) && ((decide ((r_.coefs.length:Int) > 0)) || (r_.bound != 0))))) U U (fb a3 U) (mB U (aD (d:=49) (b:=(((r_.vars.length:Int) == 0) || ((r_.kind != 1) && ((decide ((r_.coefs.length:Int) > 0)) || (r_.bound != 0))))) U (fun b2=>?_) (fun b2=>?_))))))))
 refine ps U (ps U (ps U (ps U (ps U (ps U (ps U (ps U (ps U (aC (v:=Bo ((((r_.vars.length:Int) == 0) || ((r_.kind != 1) && ((decide ((r_.coefs.length:Int) > 0)) || (r_.bound != 0)))) || ((r_.kind != 3) && (decide ((r_.rows.length:Int) > 0))))) U U (fK b2) (nn (rj J ⟨o,U,Z⟩)))))))))))
 refine fA 0 gB o U (bw 0 Z isAgg3 U U U (gS U U U (mB U (aD (d:=53) (b:=(r_.kind != 3)) U (fun c8=>?_) (fun c8=>?_)))))
 refine fA 4 ez o U (bw 0 Z isAgg77 U U U (aW U underlying77 U (ai h0_4) (c9 U U U (aC (v:=Bo ((r_.kind != 3) && (decide ((r_.rows.length:Int) > 0)))) U U (gw c8 U) (aC (v:=Bo ((((r_.vars.length:Int) == 0) || ((r_.kind != 1) && ((decide ((r_.coefs.length:Int) > 0)) || (r_.bound != 0)))) || ((r_.kind != 3) && (decide ((r_.rows.length:Int) > 0))))) U U (fb b2 U) (nn (rj J ⟨o,U,Z⟩)))))))
 refine ps U (ps U (ps U (ps U (aC (v:=Bo ((r_.kind != 3) && (decide ((r_.rows.length:Int) > 0)))) U U (jc c8) (aC (v:=Bo ((((r_.vars.length:Int) == 0) || ((r_.kind != 1) && ((decide ((r_.coefs.length:Int) > 0)) || (r_.bound != 0)))) || ((r_.kind != 3) && (decide ((r_.rows.length:Int) > 0))))) U U (fb b2 U) (nn (rj J ⟨o,U,Z⟩)))))))
 refine fA 3 km o U (bw 0 Z isAgg3 U U U (gS U U U (aC (v:=Bo ((decide ((r_.coefs.length:Int) > 0)) || (r_.bound != 0))) U U (fb c7 U) (aC (v:=Bo ((r_.kind != 1) && ((decide ((r_.coefs.length:Int) > 0)) || (r_.bound != 0)))) U U (gw b1 U) (aC (v:=Bo (((r_.vars.length:Int) == 0) || ((r_.kind != 1) && ((decide ((r_.coefs.length:Int) > 0)) || (r_.bound != 0))))) U U (fb a3 U) (mB U (aD (d:=49) (b:=(((r_.vars.length:Int) == 0) || ((r_.kind != 1) && ((decide ((r_.coefs.length:Int) > 0)) || (r_.bound != 0))))) U (fun b3=>?_) (fun b3=>?_))))))))
 refine ps U (ps U (ps U (ps U (ps U (ps U (ps U (ps U (ps U (aC (v:=Bo ((((r_.vars.length:Int) == 0) || ((r_.kind != 1) && ((decide ((r_.coefs.length:Int) > 0)) || (r_.bound != 0)))) || ((r_.kind != 3) && (decide ((r_.rows.length:Int) > 0))))) U U (fK b3) (nn (rj J ⟨o,U,Z⟩)))))))))))
 refine fA 0 gB o U (bw 0 Z isAgg3 U U U (gS U U U (mB U (aD (d:=53) (b:=(r_.kind != 3)) U (fun dd=>?_) (fun dd=>?_)))))
 refine fA 4 ez o U (bw 0 Z isAgg77 U U U (aW U underlying77 U (ai h0_4) (c9 U U U (aC (v:=Bo ((r_.kind != 3) && (decide ((r_.rows.length:Int) > 0)))) U U (gw dd U) (aC (v:=Bo ((((r_.vars.length:Int) == 0) || ((r_.kind != 1) && ((decide ((r_.coefs.length:Int) > 0)) || (r_.bound != 0)))) || ((r_.kind != 3) && (decide ((r_.rows.length:Int) > 0))))) U U (fb b3 U) (nn (rj J ⟨o,U,Z⟩)))))))
 refine ps U (ps U (ps U (ps U (aC (v:=Bo ((r_.kind != 3) && (decide ((r_.rows.length:Int) > 0)))) U U (jc dd) (aC (v:=Bo ((((r_.vars.length:Int) == 0) || ((r_.kind != 1) && ((decide ((r_.coefs.length:Int) > 0)) || (r_.bound != 0)))) || ((r_.kind != 3) && (decide ((r_.rows.length:Int) > 0))))) U U (fb b3 U) (nn (rj J ⟨o,U,Z⟩)))))))
 refine ps U (ps U (ps U (ps U (ps U (ps U (ps U (ps U (ps U (aC (v:=Bo ((r_.kind != 1) && ((decide ((r_.coefs.length:Int) > 0)) || (r_.bound != 0)))) U U (jc b1) (aC (v:=Bo (((r_.vars.length:Int) == 0) || ((r_.kind != 1) && ((decide ((r_.coefs.length:Int) > 0)) || (r_.bound != 0))))) U U (fb a3 U) (mB U (aD (d:=49) (b:=(((r_.vars.length:Int) == 0) || ((r_.kind != 1) && ((decide ((r_.coefs.length:Int) > 0)) || (r_.bound != 0))))) U (fun b4=>?_) (fun b4=>?_)))))))))))))
 refine ps U (ps U (ps U (ps U (ps U (ps U (ps U (ps U (ps U (aC (v:=Bo ((((r_.vars.length:Int) == 0) || ((r_.kind != 1) && ((decide ((r_.coefs.length:Int) > 0)) || (r_.bound != 0)))) || ((r_.kind != 3) && (decide ((r_.rows.length:Int) > 0))))) U U (fK b4) (nn (rj J ⟨o,U,Z⟩)))))))))))
 refine fA 0 gB o U (bw 0 Z isAgg3 U U U (gS U U U (mB U (aD (d:=53) (b:=(r_.kind != 3)) U (fun dg=>?_) (fun dg=>?_)))))
 refine fA 4 ez o U (bw 0 Z isAgg77 U U U (aW U underlying77 U (ai h0_4) (c9 U U U (aC (v:=Bo ((r_.kind != 3) && (decide ((r_.rows.length:Int) > 0)))) U U (gw dg U) (aC (v:=Bo ((((r_.vars.length:Int) == 0) || ((r_.kind != 1) && ((decide ((r_.coefs.length:Int) > 0)) || (r_.bound != 0)))) || ((r_.kind != 3) && (decide ((r_.rows.length:Int) > 0))))) U U (fb b4 U) (nn (rj J ⟨o,U,Z⟩)))))))
 refine ps U (ps U (ps U (ps U (aC (v:=Bo ((r_.kind != 3) && (decide ((r_.rows.length:Int) > 0)))) U U (jc dg) (aC (v:=Bo ((((r_.vars.length:Int) == 0) || ((r_.kind != 1) && ((decide ((r_.coefs.length:Int) > 0)) || (r_.bound != 0)))) || ((r_.kind != 3) && (decide ((r_.rows.length:Int) > 0))))) U U (fb b4 U) (nn (rj J ⟨o,U,Z⟩)))))))
 intro f w_ hR
 obtain ⟨o,g8,Z⟩:=rk J hR
 refine al (b:=((((r_.vars.length:Int) == 0) || ((r_.kind != 1) && ((decide ((r_.coefs.length:Int) > 0)) || (r_.bound != 0)))) || ((r_.kind != 3) && (decide ((r_.rows.length:Int) > 0))))) g8 (fun dj=>?_) (fun dj=>?_)
 have hF:=(az dj).symm.trans hF
 refine sq (aB U (nn (aA (aN (v1:=Bo false) results95 U ?_))))
 obtain rfl:=so hF
 exact ⟨U,(ab.aG 0 Z)⟩
 have hF:=(ay dj).symm.trans hF
 refine aq (ao (sq (fA 0 gB o U (bw 0 Z isAgg3 U U U (nn (ak (sq (bD U U U (aB U (nn (al (b:=(r_.kind == 1)) U (fun ds=>?_) (fun ds=>?_))))))))))))
 have hF:=(az ds).symm.trans hF
 refine ao ?_
 obtain ⟨g9,a2,hF⟩:=bind_some hF
 obtain ⟨ha,ag,hF⟩:=bind_some hF
 obtain ⟨hz,b5⟩:=ca fun f w_=>f 4=Bo ha∧ab H w_ ([])
 refine av hz ?_ ?_
 refine ae (fA 2 hO o U (bw 0 Z isAgg23 U U U (aW U underlying23 U (ai h0_2) (fA 1 cM o U (bw 0 Z isAgg23 U U U (aW U underlying23 U (ai h0_1) (bD U U U (mB U (aD (d:=71) (b:=((r_.coefs.length:Int) == (r_.vars.length:Int))) U (fun ec=>?_) (fun ec=>?_))))))))))
 rw [az ec] at a2
 obtain ⟨h6,hb,a2⟩:=bind_some a2
 refine fA 3 km o U (bw 0 Z isAgg3 U U U ?_)
 obtain ⟨hN,h7,hA,h8,hB⟩:=Z.borrow
 refine ar U call92 (k9 U U U) (dY (n_:=r_.bound) (low:=(-1000)) (high:=1000) hA hb) ?_
 rintro _ h9 ⟨rfl,Z⟩
 have Z:=hB Z c0
 refine dU a2 U (mB U (aD (d:=76) (b:=g9) U (fun ee=>?_) (fun ee=>?_)))
 rw [az ee] at ag
 obtain ⟨ih,hc,ag⟩:=bind_some ag
 refine fA 2 hO o U (bw 0 Z isAgg23 U U U ?_)
 obtain ⟨hf,hC,hD,jn,hE⟩:=Z.borrow
 have hg:lQ prog RP.int false Value.bool gY (.func (.func 137) #[] #[]) hf:=by
   refine ⟨_,_,U,call137,fun H_ w_ hE_ hs_ cs_ x_ y_ args_ hr_ hy_ ha_=>?_⟩
   obtain rfl:cs_=[_]:=hr_
   obtain rfl:=kZ (b:=#[I x_]) ha_
   exact tE (n_:=x_) hs_  hy_
 refine ar U call113 (cu U U) (jR (s:=r_.coefs) (f_:=gY) hD (RP.mono _ h0_2 hC) hg hc) ?_
 rintro _ j1 ⟨rfl,Z⟩
 have Z:=hE Z c0
 refine bL U U (dU ag U (aB U (nn (rj b5 ⟨U,(ab.aG 0 Z)⟩))))
 rw [ay ee] at ag
 refine ps U (ps U (ps U (ps U (dU ag U (aB U (nn (rj b5 ⟨U,(ab.aG 0 Z)⟩)))))))
 rw [ay ec] at a2
 refine ps U (ps U (ps U (dU a2 U (mB U (aD (d:=76) (b:=g9) U (fun ej=>?_) (fun ej=>?_))))))
 exact gj ej (so a2).symm
 rw [ay ej] at ag
 refine ps U (ps U (ps U (ps U (dU ag U (aB U (nn (rj b5 ⟨U,(ab.aG 0 Z)⟩)))))))
 intro f w_ hR
 obtain ⟨e3,Z⟩:=rk b5 hR
 refine aA (aN (v1:=Bo ha) results95 e3 ?_)
 obtain rfl:=so hF
 exact ⟨U,Z⟩
 have hF:=(ay ds).symm.trans hF
 refine sq (bD U U U (aB U (nn (al (b:=(r_.kind == 3)) U (fun ek=>?_) (fun ek=>?_)))))
 have hF:=(az ek).symm.trans hF
 refine ao ?_
 obtain ⟨et,R,hF⟩:=bind_some hF
 obtain ⟨hh,bd⟩:=ca fun f w_=>f 4=Bo et∧ab H w_ ([])
 refine av hh ?_ ?_
 refine ae (fA 4 ez o U (bw 0 Z isAgg77 U U U (aW U underlying77 U (ai h0_4) (kE U U U (mB U (aD (d:=88) (b:=decide ((r_.rows.length:Int)≤8)) U (fun bs=>?_) (fun bs=>?_)))))))
 rw [az bs] at R
 obtain ⟨hP,e4,R⟩:=bind_some R
 refine fA 4 ez o U (bw 0 Z isAgg77 U U U (yt U (b9 o) ?_))
 obtain ⟨e5,b8,hi,hj,hk⟩:=Z.borrow
 have fa:lQ prog (rS 3 RP.int) false Value.bool (gX r_) (.func (.func 139) #[] #[Pt g3]) e5:=by
   refine ⟨_,_,U,call139,fun H_ w_ hE_ hs_ cs_ x_ y_ args_ hr_ hy_ ha_=>?_⟩
   obtain ⟨hG,rfl,hl⟩:=kP hr_
   obtain rfl:=kZ (b:=#[hG,Pt g3]) ha_
   exact tL (c1:=r_) (row:=x_) hs_ hl (dn.le (dn.of (xj 0 hj U)) hE_) (RP.mono _ (RP.mono _ h0_1 b8) hE_) (RP.mono _ (RP.mono _ h0_2 b8) hE_) (RP.mono _ (RP.mono _ h0_4 b8) hE_) hy_
 refine ar U call138 (cu U U) (jB (s:=r_.rows) (f_:=(gX r_)) hi (RP.mono _ h0_4 b8) fa e4) ?_
 rintro _ hQ ⟨rfl,Z⟩
 have Z:=hk Z c0
 refine bL U U (dU R U (aB U (nn (rj bd ⟨U,(ab.aG 0 Z)⟩))))
 rw [ay bs] at R
 refine ps U (ps U (ps U (ps U (ps U (dU R U (aB U (nn (rj bd ⟨U,(ab.aG 0 Z)⟩))))))))
 intro f w_ hR
 obtain ⟨e3,Z⟩:=rk bd hR
 refine aA (aN (v1:=Bo et) results95 e3 ?_)
 obtain rfl:=so hF
 exact ⟨U,Z⟩
 have hF:=(ay ek).symm.trans hF
 refine sq (bD U U U (aB U (nn (al (b:=(r_.kind == 4)) U (fun b0=>?_) (fun b0=>?_)))))
 have hF:=(az b0).symm.trans hF
 refine sq (fA 1 cM o U (bw 0 Z isAgg23 U U U (aW U underlying23 U (ai h0_1) (bD U U U (aB U (nn (aA (aN (v1:=Bo ((r_.vars.length:Int) == 2)) results95 U ?_))))))))
 obtain rfl:=so hF
 exact ⟨U,(ab.aG 0 Z)⟩
 have hF:=(ay b0).symm.trans hF
 refine aq (sq (fA 0 gB o U (bw 0 Z isAgg3 U U U (bD U U U (aB U (nn (aA (aN (v1:=Bo (r_.kind == 2)) results95 U ?_))))))))
 obtain rfl:=so hF
 exact ⟨U,(ab.aG 0 Z)⟩
theorem sH {c1:Model} {r_:Rule} {v0_1:Value} {v0_2:Value} {v0_4:Value} {g_c1:Nat} {v1_0:Value} {v1_1:Value} {H:FH} {w:World} (Z:ab H w []) (h0_1:(rS 3 RP.int).rel H [v0_1] r_.vars) (h0_2:(rS 3 RP.int).rel H [v0_2] r_.coefs) (h0_4:(rS 23 (rS 3 RP.int)).rel H [v0_4] r_.rows) (hat_g_c1:dn H g_c1 0 [v1_0,v1_1]) (h1_0:(rS 3 RP.int).rel H [v1_0] c1.sizes) (h1_1:(rS 79 (cY 3 23)).rel H [v1_1] c1.rules) {r:Bool} (hF:gv c1 r_=some r):C prog 94 #[.agg #[I r_.kind,v0_1,v0_2,I r_.bound,v0_4],Pt g_c1] w fun v w'=>v=Bo r∧ab H w' []:=by
 unfold gv at hF
 refine aE func94 U ntmps94 U (sq (cr (v:=.agg #[I r_.kind,v0_1,v0_2,I r_.bound,v0_4]) (cs:=#[I r_.kind,v0_1,v0_2,I r_.bound,v0_4]) U U U Z (fun g3 w4 Z=>aB U (nq ?_))))
 obtain ⟨R,J,hF⟩:=bind_some hF
 refine ae (a7 (cs:=[I r_.kind,v0_1,v0_2,I r_.bound,v0_4]) U isAgg79 sizeOf79 U (At.bK (de.at (ab.aM 0 Z U)) 0 5) U (fA 0 bN U U (bt U isAgg23 U (At.ll (dn.at hat_g_c1 Z.sub) (j:=0) U) (aW U underlying23 U (ai h1_0) ?_))))
 obtain ⟨an,o,af,a0,ag⟩:=Z.borrow
 refine ar U call95 (cu U U) (v5 (r_:=r_) (cells:=(c1.sizes.length:Int)) af (RP.mono _ h0_1 o) (RP.mono _ h0_2 o) (RP.mono _ h0_4 o) J) ?_
 rintro _ a1 ⟨rfl,Z⟩
 have Z:=ag Z c0
 refine bL U U (aB U (nn (aA (aN (v1:=Bo (!R)) results94 U ?_))))
 obtain rfl:=so hF
 exact ⟨U,(ab.aG 0 Z)⟩
theorem kY {m:Model} {v0_0:Value} {v0_1:Value} {H:FH} {w:World} (Z:ab H w []) (h0_0:(rS 3 RP.int).rel H [v0_0] m.sizes) (h0_1:(rS 79 (cY 3 23)).rel H [v0_1] m.rules) {r:Bool} (hF:gQ m=some r):C prog 46 #[.agg #[v0_0,v0_1]] w fun v w'=>v=Bo r∧ab H w' []:=by
 unfold gQ at hF
 refine aE func46 U ntmps46 U (sq (cr (v:=.agg #[v0_0,v0_1]) (cs:=#[v0_0,v0_1]) U U U Z (fun g3 w4 Z=>aB U (nq (ao ?_)))))
 obtain ⟨a4,c8,hF⟩:=bind_some hF
 obtain ⟨e1,a5⟩:=ca fun f w_=>f 1=Pt g3∧f 16=Bo ((!a4) || (decide ((m.rules.length:Int) > 8)))∧ab H w_ ([box g3 26 #[v0_0,v0_1]])
 refine av e1 ?_ ?_
 refine ae (fA 0 bN U U (bw 0 Z isAgg23 U U U (aW U underlying23 U (ai h0_0) ?_)))
 obtain ⟨g6,g8,e2,g9,e3⟩:=Z.borrow
 refine ar U call92 (k9 U U U) (dY (n_:=(m.sizes.length:Int)) (low:=1) (high:=5) e2 c8) ?_
 rintro _ ha ⟨rfl,Z⟩
 have Z:=e3 Z c0
 refine bL U U (mB U (aD (d:=11) (b:=(!a4)) U (fun a6=>?_) (fun a6=>?_)))
 refine ps U (ps U (ps U (ps U (aC (v:=Bo ((!a4) || (decide ((m.rules.length:Int) > 8)))) U U (fK a6) (nn (rj a5 ⟨U,U,Z⟩))))))
 refine fA 1 fB U U (bw 0 Z isAgg24 U U U (aW U underlying24 U (ai h0_1) (c9 U U U (aC (v:=Bo ((!a4) || (decide ((m.rules.length:Int) > 8)))) U U (fb a6 U) (nn (rj a5 ⟨U,U,Z⟩))))))
 intro f w_ hR
 obtain ⟨a0,dd,Z⟩:=rk a5 hR
 refine al (b:=((!a4) || (decide ((m.rules.length:Int) > 8)))) dd (fun bd=>?_) (fun bd=>?_)
 have hF:=(az bd).symm.trans hF
 refine sq (aB U (nn (aA (aN (v1:=Bo false) results46 U ?_))))
 obtain rfl:=so hF
 exact ⟨U,(ab.aG 0 Z)⟩
 have hF:=(ay bd).symm.trans hF
 refine aq (sq (aI U (nq (sq (fA 0 bN a0 U (bw 0 Z isAgg23 U U U (aW U underlying23 U (ai h0_0) (mI U (nn ?_)))))))))
 have b5:List.length m.sizes≤9223372036854775807:=bB (ai h0_0)
 obtain ⟨dg,af,hF⟩:=bind_some hF
 obtain ⟨e4,ch⟩:=ca fun f w_=>∃ o:Int,dg=.nx o∧f 1=Pt g3∧f 3=I o∧ab H w_ ([box g3 26 #[v0_0,v0_1]])
 refine av e4 ?_ ?_
 refine ak ?_
 obtain ⟨dj,bs⟩:=ff fun n f w_=>∃ ag:Nat,∃ J:List Int,∃ o:Int,n=J.length∧List.drop ag m.sizes=J∧ag+J.length=m.sizes.length∧aw gI J ag o=some dg∧f 1=Pt g3∧f 3=I o∧f 18=v0_0∧f 19=I (m.sizes.length:Int)∧f 20=I ag∧ab H w_ ([box g3 26 #[v0_0,v0_1]])
 refine a8 dj (n:=m.sizes.length) ?_ ?_
 exact ij bs ⟨0,m.sizes,0,U,U,Nat.zero_add _,af,a0,U,U,U,U,Z⟩
 intro hb f w_ hI
 obtain ⟨ag,J,o,rfl,cn,a2,af,a0,b8,cp,c2,b0,Z⟩:=ik bs hI
 refine sq (bh U b0 c2 (nq (al (b:=decide ((ag:Int)<(m.sizes.length:Int))) U (fun b1=>?_) (fun b1=>?_))))
 have c4:=of_decide_eq_true b1
 rcases J with _ | ⟨c3,a3⟩
 exact absurd c4 (by simp at a2; omega)
 obtain ⟨hc,R,af⟩:=aJ af
 rw [gI] at R
 have c5:=aY cn
 refine aq (ao (ak (sq (bP (r:=RP.int) U underlying23 sizeOf3 cp h0_0 b0 c5 (fun hf hg e0 a1 c6=>?_)))))
 obtain rfl:_=[_]:=a1
 refine bt U isAgg3 U (At.cell (dn.at c6 Z.sub) (j:=0) U) (aI U (nq (ao ?_)))
 obtain ⟨e5,ds,R⟩:=bind_some R
 refine ae (mI U ?_)
 obtain ⟨g7,hh,fa,hi,fo⟩:=Z.borrow
 refine ar U call92 (k9 U U U) (dY (n_:=c3) (low:=0) (high:=3) fa ds) ?_
 rintro _ hj ⟨rfl,Z⟩
 have Z:=fo Z c0
 refine bL U U (nn (al (b:=(!e5)) U (fun b2=>?_) (fun b2=>?_)))
 have R:=(az b2).symm.trans R
 refine sq (aB U (nn (aA (aN (v1:=Bo false) results46 U ?_))))
 obtain rfl:=so R
 obtain rfl:=so af
 obtain rfl:=so hF
 exact ⟨U,(ab.aG 0 Z)⟩
 have R:=(ay b2).symm.trans R
 refine aq (ae (mF b8 U (mI U (bf U U U (bf U U U (aI U (nn (ae (bf U b0 U (mI U (nn ?_)))))))))))
 obtain rfl:=so R
 show ∃ m,m<_∧dj m _ _
 refine ⟨a3.length,by simp,?_⟩
 exact ij bs ⟨ag+1,a3,i64 (o+(i64 (c3+1))),U,aL cn,by simp at a2; omega,af,a0,U,cp,c2,((eI (aO (n:=m.sizes.length) (by simp at a2; omega) b5))),Z⟩
 rcases J with _ | ⟨_,_⟩
 obtain rfl:=aT af
 refine a9 (rj ch ⟨o,U,a0,b8,Z⟩)
 exact absurd (of_decide_eq_false b1) (by simp at a2; omega)
 intro f w_ hR
 obtain ⟨o,rfl,a0,b8,Z⟩:=rk ch hR
 refine ao ?_
 obtain ⟨ec,an,hF⟩:=bind_some hF
 obtain ⟨fs,b3⟩:=ca fun f w_=>f 2=Bo ec∧ab H w_ ([])
 refine av fs ?_ ?_
 refine ae (mF b8 U (kE U U U (mB U (aD (d:=34) (b:=decide (o≤12)) U (fun b4=>?_) (fun b4=>?_)))))
 rw [az b4] at an
 obtain ⟨hk,ee,an⟩:=bind_some an
 refine fA 1 fB a0 U (bw 0 Z isAgg24 U U U (yt U (b9 a0) ?_))
 obtain ⟨ej,c7,fu,gd,g0⟩:=Z.borrow
 have ek:lQ prog (cY 3 23) true Value.bool (gv m) (.func (.func 94) #[] #[Pt g3]) ej:=by
   refine ⟨_,_,U,call94,fun H_ w_ hE_ hs_ cs_ x_ y_ args_ hr_ hy_ ha_=>?_⟩
   obtain ⟨g1,g2,g4,rfl,en,et,eu⟩:=iL.1 hr_
   obtain rfl:=kZ (b:=#[.agg #[I x_.kind,g1,g2,I x_.bound,g4],Pt g3]) ha_
   exact sH (c1:=m) (r_:=x_) hs_ en et eu (dn.le (dn.of (xj 0 gd U)) hE_) (RP.mono _ (RP.mono _ h0_0 c7) hE_) (RP.mono _ (RP.mono _ h0_1 c7) hE_) hy_
 refine ar U call93 (cu U U) (ic (s:=m.rules) (f_:=(gv m)) fu (RP.mono _ h0_1 c7) ek ee) ?_
 rintro _ hl ⟨rfl,Z⟩
 have Z:=g0 Z c0
 refine bL U U (dU an U (aB U (nn (rj b3 ⟨U,(ab.aG 0 Z)⟩))))
 rw [ay b4] at an
 refine ps U (ps U (ps U (ps U (ps U (dU an U (aB U (nn (rj b3 ⟨U,(ab.aG 0 Z)⟩))))))))
 intro f w_ hR
 obtain ⟨g5,Z⟩:=rk b3 hR
 refine aA (aN (v1:=Bo ec) results46 g5 ?_)
 obtain rfl:=so hF
 exact ⟨U,Z⟩
theorem iZ {m:Model} {cell:Int} {value:Int} {v0_0:Value} {v0_1:Value} {H:FH} {w:World} (Z:ab H w []) (h0_0:(rS 3 RP.int).rel H [v0_0] m.sizes) (h0_1:(rS 79 (cY 3 23)).rel H [v0_1] m.rules) {r:Int} (hF:dz m cell value=some r):C prog 63 #[.agg #[v0_0,v0_1],I cell,I value] w fun v w'=>v=I r∧ab H w' []:=by
 unfold dz at hF
 refine aE func63 U ntmps63 U (sq (cr (v:=.agg #[v0_0,v0_1]) (cs:=#[v0_0,v0_1]) U U U Z (fun g3 w4 Z=>aI U (ns (mI U (bf U U U (aI U (nq (ao ?_)))))))))
 obtain ⟨x5,c1,hF⟩:=bind_some hF
 refine ae (fA 0 bN U U (bw 0 Z isAgg23 U U U (mI U (Cg (a:=0) (b:=cell) U eb U h0_0 U U c1 (fun v8 b2=>aW U underlying23 U (ai b2) (mI U (nn ?_)))))))
 have a4:List.length x5≤9223372036854775807:=bB (ai b2)
 obtain ⟨b8,af,hF⟩:=bind_some hF
 obtain ⟨c2,a6⟩:=ca fun f w_=>∃ o:Int,b8=.nx o∧f 7=I o∧ab H w_ ([])
 refine av c2 ?_ ?_
 refine ak ?_
 obtain ⟨ch,a1⟩:=ff fun n f w_=>∃ R:Nat,∃ J:List Int,∃ o:Int,n=J.length∧List.drop R x5=J∧R+J.length=x5.length∧aw gn J R o=some b8∧f 7=I o∧f 15=v8∧f 16=I (x5.length:Int)∧f 17=I R∧ab H w_ ([])
 refine a8 ch (n:=x5.length) ?_ ?_
 exact ij a1 ⟨0,x5,i64 (1+value),U,U,Nat.zero_add _,af,U,U,U,U,(ab.aG 0 Z)⟩
 intro c3 f w_ hI
 obtain ⟨R,J,o,rfl,bd,an,af,a5,bs,b0,a2,Z⟩:=ik a1 hI
 refine sq (bh U a2 b0 (nq (al (b:=decide ((R:Int)<(x5.length:Int))) U (fun a3=>?_) (fun a3=>?_))))
 have b3:=of_decide_eq_true a3
 rcases J with _ | ⟨cn,a0⟩
 exact absurd b3 (by simp at an; omega)
 obtain ⟨c4,b1,af⟩:=aJ af
 rw [gn] at b1
 have b4:=aY bd
 refine aq (ao (ak (sq (bP (r:=RP.int) U underlying23 sizeOf3 bs b2 a2 b4 (fun c5 c6 cp ag b5=>?_)))))
 obtain rfl:_=[_]:=ag
 refine bt U isAgg3 U (At.cell (dn.at b5 Z.sub) (j:=0) U) (aI U (nn (ae (mF a5 U (mI U (bf U U U (bf U U U (aI U (nn (ae (bf U a2 U (mI U (nn ?_)))))))))))))
 obtain rfl:=so b1
 show ∃ m,m<_∧ch m _ _
 refine ⟨a0.length,by simp,?_⟩
 exact ij a1 ⟨R+1,a0,i64 (o+(i64 (cn+1))),U,aL bd,by simp at an; omega,af,U,bs,b0,((eI (aO (n:=x5.length) (by simp at an; omega) a4))),Z⟩
 rcases J with _ | ⟨_,_⟩
 obtain rfl:=aT af
 refine a9 (rj a6 ⟨o,U,a5,Z⟩)
 exact absurd (of_decide_eq_false a3) (by simp at an; omega)
 intro f w_ hR
 obtain ⟨o,rfl,a5,Z⟩:=rk a6 hR
 refine sq (mF a5 U (aI U (nn (aA (aN (v1:=I o) results63 U ?_)))))
 obtain rfl:=so hF
 exact ⟨U,Z⟩
theorem nV {m:Model} {cell:Int} {v0_0:Value} {v0_1:Value} {H:FH} {w:World} (Z:ab H w []) (h0_0:(rS 3 RP.int).rel H [v0_0] m.sizes) (h0_1:(rS 79 (cY 3 23)).rel H [v0_1] m.rules) {r:List Int} (hF:gl m cell=some r):C prog 47 #[.agg #[v0_0,v0_1],I cell] w fun v w'=>∃ (u1:Value),v=u1∧ab H w' [oF 3 RP.int u1 r]:=by
 unfold gl at hF
 refine aE func47 U ntmps47 U (sq (cr (v:=.agg #[v0_0,v0_1]) (cs:=#[v0_0,v0_1]) U U U Z (fun g3 w4 Z=>aV S0 U (ns (aV S0 U (nq (ao ?_)))))))
 obtain ⟨x5,c7,hF⟩:=bind_some hF
 refine ae (fA 0 bN U U (bw 0 Z isAgg23 U U U (mI U (bP (r:=RP.int) U underlying23 sizeOf3 U h0_0 U c7 (fun ee ej c6 a1 b4=>?_)))))
 obtain rfl:_=[_]:=a1
 refine bt U isAgg3 U (At.cell (dn.at b4 Z.sub) (j:=0) U) (bf U U U (mI U (nn ?_)))
 obtain ⟨bs,a4,hF⟩:=bind_some hF
 obtain ⟨b8,an,hF⟩:=bind_some hF
 obtain ⟨c8,b1⟩:=ca fun f w_=>∃ J:List Int,∃ o,b8=.nx J∧f 5=o∧ab H w_ ([oF 3 RP.int o J])
 refine av c8 ?_ ?_
 refine ak ?_
 obtain ⟨ch,a5⟩:=ff fun n f w_=>∃ ag:Nat,∃ af:Nat,∃ J:List Int,∃ o,af=n∧0≤ag∧ag+af=0+bs∧cI (ji m cell) af ag J=some b8∧f 1=I cell∧f 2=Pt g3∧f 5=o∧f 12=I (i64 (x5+1))∧f 13=I ag∧ab H w_ ([oF 3 RP.int o J,box g3 26 #[v0_0,v0_1]])
 have Z:=ab.bE (R:=(OR.bu RP.int)) (e:=3) Z
 refine a8 ch (n:=bs) ?_ ?_
 exact ij a5 ⟨0,bs,[],S0,U,Nat.le_refl _,U,an,U,U,U,U,U,Z⟩
 intro ek f w_ hI
 obtain ⟨ag,af,J,o,rfl,cn,b2,an,cp,c1,b0,b3,a6,Z⟩:=ik a5 hI
 refine sq (bh U a6 b3 (nq (al (b:=decide ((ag:Int)<(i64 (x5+1)))) U (fun bd=>?_) (fun bd=>?_))))
 have b5:=of_decide_eq_true bd
 rcases af with _ | a2
 exact absurd b5 (lA b2 a4)
 obtain ⟨en,a0,an⟩:=eA an
 rw [ji] at a0
 refine aq (ao (ak (sq (mF a6 U (aI U (nn ?_))))))
 obtain ⟨a3,c2,a0⟩:=bind_some a0
 obtain ⟨dd,c3,a0⟩:=bind_some a0
 refine ae (mF b0 U (a7 (cs:=[v0_0,v0_1]) U isAgg26 sizeOf26 c1 (At.bK (de.at (ab.aM 1 Z U)) 0 2) U (mF cp U (mI U ?_))))
 obtain ⟨ec,c4,dg,et,dj⟩:=Z.borrow
 refine ar U call63 (k9 U U U) (iZ (m:=m) (cell:=cell) (value:=(ag:Int)) dg (RP.mono _ h0_0 c4) (RP.mono _ h0_1 c4) c2) ?_
 rintro _ eu ⟨rfl,Z⟩
 have Z:=dj Z c0
 refine cS U (bG U) (dp (I a3) U) Z (fun ds e0 Z=>?_)
 have Z:=ab.dr (r:=RP.int) (cs:=[I a3]) (x:=a3) Z U
 have Z:=ab.bS (R:=(OR.bu RP.int)) [([I a3],a3)] [a3] 1 Z U U U (by decide)
 have Z:=Z.get 1 U
 refine cj (v:=o) (u:=(Sl ds 1 1)) U eb U U Z c3 (fun c5 e1 Z=>aV c5 U (nn (ae (bf U a6 U (mI U (nn ?_))))))
 obtain rfl:=so a0
 show ∃ m,m<_∧ch m _ _
 refine ⟨a2,Nat.lt_succ_self _,?_⟩
 exact ij a5 ⟨ag+1,a2,dd,c5,U,by omega,by omega,an,cp,c1,U,b3,((eI (aO (n:=0+bs) (by omega) (jg a4)))),Z⟩
 rcases af with _ | _
 obtain rfl:=eo an
 refine a9 (rj b1 ⟨J,o,U,b0,(ab.aG 1 Z)⟩)
 exact absurd (jZ cn b2 a4) (of_decide_eq_false bd)
 intro f w_ hR
 obtain ⟨J,o,rfl,b0,Z⟩:=rk b1 hR
 refine sq (mF b0 U (aV o U (nn (aA (aN (v1:=o) results47 U ?_)))))
 obtain rfl:=so hF
 exact ⟨o,U,Z⟩
theorem eX {s:List Int} {v0:Value} {H:FH} {w:World} (Z:ab H w []) (h0:(rS 3 RP.int).rel H [v0] s) {r:List Int} (hF:cJ s=some r):C prog 62 #[v0] w fun v w'=>∃ (u1:Value),v=u1∧ab H w' [oF 3 RP.int u1 r]:=by
 unfold cJ at hF
 refine aE func62 U ntmps62 U (sq (aV S0 U (nq (sq (mV v0 U ?_)))))
 obtain ⟨a1,ag,o,_,_⟩:=(ai h0)
 refine xC (a:=a1) U underlying23 (Eq.trans U o) U ?_
 rw [← o]
 refine nn ?_
 rcases Bool.eq_false_or_eq_true (ta v0) with j | j
 refine al (b:=true) (Eq.trans U (congrArg Value.bool j)) (fun _=>?_) (fun h=>nomatch h)
 obtain rfl:=zS h0 j
 refine sq (aV S0 U (nn (aA (aN (v1:=S0) results62 U ?_))))
 simp [app] at hF
 subst hF
 have Z:=ab.bE (R:=(OR.bu RP.int)) (e:=3) Z
 exact ⟨S0,U,Z⟩
 refine al (b:=false) (Eq.trans U (congrArg Value.bool j)) (fun h=>nomatch h) (fun _=>?_)
 refine aq (ao ?_)
 obtain ⟨x7,J,hF⟩:=bind_some hF
 refine ae (cS U cC (jd  ) Z (fun af an Z=>?_))
 have Z:=ab.bS (R:=(OR.bu RP.int)) [] [] 0 Z U U U (by decide)
 refine mV v0 U (qZ (v:=(Sl af 0 0)) (u:=v0) U eb U U Z h0 J (fun I a0 Z=>aV I U (nn (aA (aN (v1:=I) results62 U ?_)))))
 obtain rfl:=so hF
 exact ⟨I,U,Z⟩
theorem nG {l:Int} {H:FH} {w:World} (Z:ab H w []) {r:Bool} (hF:gP l=some r):C prog 96 #[I l] w fun v w'=>v=Bo r∧ab H w' []:=by
 unfold gP at hF
 refine aE func96 U ntmps96 U (sq (aB U (nq ?_)))
 obtain ⟨b8,j,hF⟩:=bind_some hF
 obtain ⟨R9,J⟩:=ca fun f w_=>f 2=Bo b8∧ab H w_ ([])
 refine av R9 ?_ ?_
 refine ae (mI U (gS U U U (mB U (aD (d:=5) (b:=(l != 0)) U (fun o=>?_) (fun o=>?_)))))
 rw [az o] at j
 obtain ⟨x6,R,j⟩:=bind_some j
 refine mI U ?_
 obtain ⟨a0,a1,af,a2,ag⟩:=Z.borrow
 refine ar U call92 (k9 U U U) (dY (n_:=l) (low:=(-12)) (high:=12) af R) ?_
 rintro _ a3 ⟨rfl,Z⟩
 have Z:=ag Z c0
 refine dU j U (aB U (nn (rj J ⟨U,Z⟩)))
 rw [ay o] at j
 refine ps U (ps U (dU j U (aB U (nn (rj J ⟨U,Z⟩)))))
 intro f w_ hR
 obtain ⟨an,Z⟩:=rk J hR
 refine aA (aN (v1:=Bo b8) results96 an ?_)
 obtain rfl:=so hF
 exact ⟨U,Z⟩
theorem kJ {fu:Nat} {data:List Int} {a:Int} {b:Int} {cmp:(Int→Int→Option Int)} {v0:Value} {v3:Value} {H:FH} {w:World} (Z:ab H w [oF 3 RP.int v0 data]) (h3:xG prog RP.int RP.int false (Value.int .i64) cmp v3 H) {r:List Int} (hF:bQ fu data a b cmp=some r):C prog 170 #[v0,I a,I b,v3] w fun v w'=>v=.tuple #[]∧ab H w' [oF 3 RP.int v0 r]:=by
 unfold bQ at hF
 obtain ⟨bs,a3,rfl,dd,g4⟩:=h3
 refine aE func170 U ntmps170 U (sq (mI U (bf U U U (aI U (nn ?_)))))
 obtain ⟨j6,c5,hF⟩:=bind_some hF
 obtain ⟨R6,g5⟩:=ca fun f w_=>∃ ag:List Int,∃ b0:Int,∃ H4,j6=.nx (ag,b0)∧Le H H4∧ab H4 w_ ([oF 3 RP.int v0 ag])
 refine av R6 ?_ ?_
 refine ak ?_
 obtain ⟨I6,fa⟩:=ff fun n f w_=>∃ ag:List Int,∃ b0:Int,∃ H4,bx (br fu a b cmp) n (ag,b0)=some j6∧Le H H4∧f 0=v0∧f 1=I a∧f 2=I b∧f 3=.func (.func bs) #[] a3∧f 8=I b0∧ab H4 w_ ([oF 3 RP.int v0 ag])
 refine a8 I6 (n:=fu) ?_ ?_
 exact ij fa ⟨data,i64 (a+1),H,c5,(Le.refl _),U,U,U,U,U,Z⟩
 intro n6 f w_ hI
 obtain ⟨ag,b0,H4,c5,l5,a6,b3,cn,cp,b4,Z⟩:=ik fa hI
 rcases n6 with _ | n6
 exact (cl c5).elim
 obtain ⟨o6,c2,c5⟩:=cq c5
 rw [br] at c2
 refine ao (sq (mF b4 U (mF cn U (bh U U U (nn (al (b:=decide (b0<b)) U (fun fo=>?_) (fun fo=>?_)))))))
 have c2:=(az fo).symm.trans c2
 refine aq (ao (ak (sq (mF b4 U (aI U (nn ?_))))))
 obtain ⟨g6,b5,c2⟩:=bind_some c2
 obtain ⟨hk,e3⟩:=ca fun f w_=>∃ o:List Int,∃ J:Int,∃ c3,g6=.nx (o,J)∧Le H4 c3∧f 0=v0∧f 1=I a∧f 2=I b∧f 3=.func (.func bs) #[] a3∧f 8=I b0∧ab c3 w_ ([oF 3 RP.int v0 o])
 refine av hk ?_ ?_
 refine ak ?_
 obtain ⟨g7,dg⟩:=ff fun n f w_=>∃ o:List Int,∃ J:Int,∃ c3,bx (bc a cmp) n (o,J)=some g6∧Le H4 c3∧f 0=v0∧f 1=I a∧f 2=I b∧f 3=.func (.func bs) #[] a3∧f 8=I b0∧f 9=I J∧ab c3 w_ ([oF 3 RP.int v0 o])
 refine a8 g7 (n:=fu) ?_ ?_
 exact ij dg ⟨ag,b0,H4,b5,(Le.refl _),a6,b3,cn,cp,b4,U,Z⟩
 intro fs f w_ hI
 obtain ⟨o,J,c3,b5,dj,a6,b3,cn,cp,b4,b2,Z⟩:=ik dg hI
 rcases fs with _ | fs
 exact (cl b5).elim
 obtain ⟨hy,an,b5⟩:=cq b5
 rw [bc] at an
 refine ao (ao ?_)
 obtain ⟨eu,a4,an⟩:=bind_some an
 obtain ⟨hl,ds⟩:=ca fun f w_=>∃ e0,Le c3 e0∧f 0=v0∧f 1=I a∧f 2=I b∧f 3=.func (.func bs) #[] a3∧f 8=I b0∧f 9=I J∧f 34=Bo eu∧ab e0 w_ ([oF 3 RP.int v0 o])
 refine av hl ?_ ?_
 rcases Bool.eq_false_or_eq_true (decide (J > a)) with af | af
 rw [az af] at a4
 obtain ⟨e1,ec,a4⟩:=bind_some a4
 obtain ⟨e2,e4,a4⟩:=bind_some a4
 obtain ⟨hz,g8,a4⟩:=bind_some a4
 obtain ⟨g9,ha,c7,_,_⟩:=ab.row 0 Z U ec
 refine cv 14 [I J,I a,Bo (decide (J > a)),Bo (decide (J > a)),Value.func (.func bs) #[] a3,v0,I J,Value.pointer (some ⟨g9,Int.toNat J * 1,none⟩),I e1,v0,I J,I (i64 (J - 1)),Value.pointer (some ⟨g9,Int.toNat (i64 (J - 1)) * 1,none⟩),I e2] [oF 3 RP.int v0 o] [] ([]) [([],[]),([],[]),([],[]),([],[]),([],[]),([],[]),([],[]),([],[]),([],[]),([],[]),([],[]),([],[]),([],[]),([],[])] (S:=[]) aP (by kernel_rfl) U (by kernel_rfl) Z ?_ (fun f w_ ee a0 c1 a5 Z=>?_)
 refine aa (fun f w_ _ _ s _ _ Z=>mF ((s 9 U).trans b2) U (nO U U Z)) (aa (fun f w_ _ _ s _ _ Z=>mF ((s 1 U).trans b3) U (nO U U Z)) (aa (fun f w_ _ _ _ _ p Z=>c9 U (p 0 18 U U) (p 1 19 U U) (nO U U Z)) (aa (fun f w_ _ _ _ _ p Z=>mF (p 2 20 U U) U (nO U U Z)) (aa (fun f w_ _ _ s _ p Z=>iV (v:=.func (.func bs) #[] a3) (bm U (cB (p 3 21 U U) af) U) ((s 3 U).trans cp) (nO U U Z)) (aa (fun f w_ _ _ s _ p Z=>iV (v:=v0) (bm U (cB (p 3 21 U U) af) U) ((s 0 U).trans a6) (nO U U Z)) (aa (fun f w_ _ _ s _ p Z=>iV (v:=I J) (bm U (cB (p 3 21 U U) af) U) ((s 9 U).trans b2) (nO U U Z)) (aa (fun f w_ _ _ _ _ p Z=>bJ (R:=(OR.bu RP.int)) (tb:=0) 0 (bm U (cB (p 3 21 U U) af) U) underlying23 sizeOf3 (p 5 23 U U) c7 (by first | rfl | simp) (p 6 24 U U) ec (nO U U Z)) (aa ?_ ?_))))))))
 intro f w_ ee hn a0 c1 c4 Z
 obtain ⟨hr,hb,gd⟩:=ab.fE 0 Z U c7 ec
 obtain rfl:_=[_]:=hb
 refine bt (v:=I e1) (bm U (cB (c4 3 21 U U) af) U) isAgg3 (c4 7 25 U U) (At.cell gd (j:=0) U) (ax ⟨U,_,_,U,Le.refl _,fun _ _=>rfl,Z⟩)
 refine aa (fun f w_ _ _ s _ p Z=>iV (v:=v0) (bm U (cB (p 3 21 U U) af) U) ((s 0 U).trans a6) (nO U U Z)) (aa (fun f w_ _ _ s _ p Z=>iV (v:=I J) (bm U (cB (p 3 21 U U) af) U) ((s 9 U).trans b2) (nO U U Z)) (aa (fun f w_ _ _ _ _ p Z=>db (bm U (cB (p 3 21 U U) af) U) (p 10 28 U U) U (nO U U Z)) (aa (fun f w_ _ _ _ _ p Z=>bJ (R:=(OR.bu RP.int)) (tb:=0) 0 (bm U (cB (p 3 21 U U) af) U) underlying23 sizeOf3 (p 9 27 U U) c7 (by first | rfl | simp) (p 11 29 U U) e4 (nO U U Z)) (aa ?_ ?_))))
 intro f w_ ee hn a0 c1 c4 Z
 obtain ⟨hs,hc,g0⟩:=ab.fE 0 Z U c7 e4
 obtain rfl:_=[_]:=hc
 refine bt (v:=I e2) (bm U (cB (c4 3 21 U U) af) U) isAgg3 (c4 12 30 U U) (At.cell g0 (j:=0) U) (ax ⟨U,_,_,U,Le.refl _,fun _ _=>rfl,Z⟩)
 exact aQ
 obtain ⟨ht,ho,hp,hA,hq⟩:=Z.borrow
 refine lD (args:=#[I e1,I e2]) (bm U (cB (a5 3 21 U U) af) U) dd (a5 4 22 U U) (cu (a5 8 26 U U) (a5 13 31 U U)) (g4 _ _ (Le.trans (Le.trans (Le.trans l5 dj) c1) ho) hp [I e1] [I e2] _ _ _ _ U U g8 (lG U)) ?_
 rintro _ hB ⟨rfl,Z⟩
 have Z:=hq Z c0
 refine bh (bm U (cB (a5 3 21 U U) af) U) U U (aC (v:=Bo eu) U (cB (a5 3 21 U U) af) (congrArg Value.bool (so a4)) (nn (rj ds ⟨ee,c1,((a0 0 U).trans a6),((a0 1 U).trans b3),((a0 2 U).trans cn),((a0 3 U).trans cp),((a0 8 U).trans b4),((a0 9 U).trans b2),U,Z⟩)))
 rw [ay af] at a4
 refine cv 14 [I J,I a,Bo (decide (J > a)),Bo (decide (J > a)),undef,undef,undef,undef,undef,undef,undef,undef,undef,undef] [oF 3 RP.int v0 o] [] ([]) [([],[]),([],[]),([],[]),([],[]),([],[]),([],[]),([],[]),([],[]),([],[]),([],[]),([],[]),([],[]),([],[]),([],[])] (S:=[]) aP (by kernel_rfl) U (by kernel_rfl) Z ?_ (fun f w_ ee a0 c1 a5 Z=>?_)
 refine aa (fun f w_ _ _ s _ _ Z=>mF ((s 9 U).trans b2) U (nO U U Z)) (aa (fun f w_ _ _ s _ _ Z=>mF ((s 1 U).trans b3) U (nO U U Z)) (aa (fun f w_ _ _ _ _ p Z=>c9 U (p 0 18 U U) (p 1 19 U U) (nO U U Z)) (aa (fun f w_ _ _ _ _ p Z=>mF (p 2 20 U U) U (nO U U Z)) (oP (fun _ _ p=>gN (p 3 21 U U) af U) (fun _=>rfl) (oP (fun _ _ p=>gN (p 3 21 U U) af U) (fun _=>rfl) (oP (fun _ _ p=>gN (p 3 21 U U) af U) (fun _=>rfl) (oP (fun _ _ p=>gN (p 3 21 U U) af U) (fun _=>rfl) (oP (fun _ _ p=>gN (p 3 21 U U) af U) (fun _=>rfl) (oP (fun _ _ p=>gN (p 3 21 U U) af U) (fun _=>rfl) (oP (fun _ _ p=>gN (p 3 21 U U) af U) (fun _=>rfl) (oP (fun _ _ p=>gN (p 3 21 U U) af U) (fun _=>rfl) (oP (fun _ _ p=>gN (p 3 21 U U) af U) (fun _=>rfl) (oP (fun _ _ p=>gN (p 3 21 U U) af U) (fun _=>rfl) (aQ))))))))))))))
 refine ps (rn U (cB (a5 3 21 U U) af) U U) (ps (rn U (cB (a5 3 21 U U) af) U U) (aC (v:=Bo eu) U (cB (a5 3 21 U U) af) (congrArg Value.bool (so a4)) (nn (rj ds ⟨ee,c1,((a0 0 U).trans a6),((a0 1 U).trans b3),((a0 2 U).trans cn),((a0 3 U).trans cp),((a0 8 U).trans b4),((a0 9 U).trans b2),U,Z⟩))))
 intro f w_ hR
 obtain ⟨e0,hf,a6,b3,cn,cp,b4,b2,hg,Z⟩:=rk ds hR
 refine al (b:=eu) hg (fun ej=>?_) (fun ej=>?_)
 have an:=(az ej).symm.trans an
 refine aq (ao (ak ?_))
 obtain ⟨c6,ek,an⟩:=bind_some an
 obtain ⟨en,c8,an⟩:=bind_some an
 obtain ⟨hC,e5,an⟩:=bind_some an
 obtain ⟨g1,hh,b1,_,_⟩:=ab.row 0 Z U ek
 refine cv 16 [v0,I J,v0,I J,I (i64 (J - 1)),v0,I J,I (i64 (J - 1)),Value.pointer (some ⟨g1,Int.toNat (i64 (J - 1)) * 1,none⟩),I c6,v0,I J,Value.pointer (some ⟨g1,Int.toNat J * 1,none⟩),I en,Value.pointer (some ⟨g1,Int.toNat J * 1,none⟩),none] [] [.base (oF 3 RP.int v0 o) (some 15),.madeN 15 [] (fun vs_=>oF 3 RP.int v0 (o.set (Int.toNat J) c6)) none] ([]) [([],[]),([],[]),([],[]),([],[]),([],[]),([],[]),([],[]),([],[]),([0],[0]),([0],[0]),([],[]),([],[]),([0],[0]),([0],[0]),([0],[0]),([0],[1])] (S:=[(none,[],some 15),(some 15,[],none)]) aP (by kernel_rfl) U (by kernel_rfl) Z ?_ (fun f w_ bd a2 b8 et Z=>?_)
 refine aa (fun f w_ _ _ s _ _ Z=>mF ((s 0 U).trans a6) U (nO U U Z)) (aa (fun f w_ _ _ s _ _ Z=>mF ((s 9 U).trans b2) U (nO U U Z)) (aa (fun f w_ _ _ s _ _ Z=>mF ((s 0 U).trans a6) U (nO U U Z)) (aa (fun f w_ _ _ s _ _ Z=>mF ((s 9 U).trans b2) U (nO U U Z)) (aa (fun f w_ _ _ _ _ p Z=>db U (p 3 40 U U) U (nO U U Z)) (aa (fun f w_ _ _ s _ _ Z=>mF ((s 0 U).trans a6) U (nO U U Z)) (aa (fun f w_ _ _ s _ _ Z=>mF ((s 9 U).trans b2) U (nO U U Z)) (aa (fun f w_ _ _ _ _ p Z=>db U (p 6 43 U U) U (nO U U Z)) (aa ?_ ?_))))))))
 intro f w_ bd ch a2 b8 a1 Z
 have Z:ab bd w_ (oF 3 RP.int v0 o :: ch):=Z
 refine bJ (R:=(OR.bu RP.int)) (tb:=0) 0 U underlying23 sizeOf3 (a1 5 42 U U) b1 (by first | rfl | simp) (a1 7 44 U U) ek (ax ⟨U,_,_,U,Le.refl _,fun _ _=>rfl,Z⟩)
 refine aa ?_ ?_
 intro f w_ bd ch a2 b8 a1 Z
 have Z:ab bd w_ (oF 3 RP.int v0 o :: ch):=Z
 obtain ⟨hv,hi,g2⟩:=ab.fE 0 Z U b1 ek
 obtain rfl:_=[_]:=hi
 refine bt U isAgg3 (a1 8 45 U U) (At.cell g2 (j:=0) U) (ax ⟨U,_,_,U,Le.refl _,fun _ _=>rfl,Z⟩)
 refine aa (fun f w_ _ _ s _ _ Z=>mF ((s 0 U).trans a6) U (nO U U Z)) (aa (fun f w_ _ _ s _ _ Z=>mF ((s 9 U).trans b2) U (nO U U Z)) (aa ?_ ?_))
 intro f w_ bd ch a2 b8 a1 Z
 have Z:ab bd w_ (oF 3 RP.int v0 o :: ch):=Z
 refine bJ (R:=(OR.bu RP.int)) (tb:=0) 0 U underlying23 sizeOf3 (a1 10 47 U U) b1 (by first | rfl | simp) (a1 11 48 U U) c8 (ax ⟨U,_,_,U,Le.refl _,fun _ _=>rfl,Z⟩)
 refine aa ?_ ?_
 intro f w_ bd ch a2 b8 a1 Z
 have Z:ab bd w_ (oF 3 RP.int v0 o :: ch):=Z
 obtain ⟨hx,hj,g3⟩:=ab.fE 0 Z U b1 c8
 obtain rfl:_=[_]:=hj
 refine bt U isAgg3 (a1 12 49 U U) (At.cell g3 (j:=0) U) (ax ⟨U,_,_,U,Le.refl _,fun _ _=>rfl,Z⟩)
 refine aa ?_ ?_
 intro f w_ bd ch a2 b8 a1 Z
 have Z:ab bd w_ (oF 3 RP.int v0 o :: ch):=Z
 refine bJ (R:=(OR.bu RP.int)) (tb:=0) 0 U underlying23 sizeOf3 (a1 0 37 U U) b1 (by first | rfl | simp) (a1 1 38 U U) c8 (ax ⟨U,_,_,U,Le.refl _,fun _ _=>rfl,Z⟩)
 refine aa ?_ ?_
 intro f w_ bd ch a2 b8 a1 Z
 have Z:ab bd w_ (oF 3 RP.int v0 o :: ch):=Z
 have Z:=ab.dr (r:=RP.int) (cs:=[I c6]) (x:=c6) Z U
 refine fj (u:=I c6) U sizeOf3 U (a1 14 51 U U) (a1 9 46 U U) b1 Z c8 (fun hD Z=>?_)
 exact ax ⟨U,Bo false,_,U,Le.refl _,(fun _ h=>nomatch h),Z⟩
 exact aQ
 have Z:ab bd w_ ([oF 3 RP.int v0 (o.set (Int.toNat J) c6)]):=Z
 refine bJ (R:=(OR.bu RP.int)) (tb:=0) 0 U underlying23 sizeOf3 (et 2 39 U U) b1 (by first | rfl | simp) (et 4 41 U U) e5 ?_
 have Z:=ab.dr (r:=RP.int) (cs:=[I en]) (x:=en) Z U
 refine fj (u:=I en) U sizeOf3 U U (et 13 50 U U) b1 Z e5 (fun hE Z=>?_)
 refine nn (ae (mF ((a2 9 U).trans b2) U (db U U U (aI U (nn ?_)))))
 obtain rfl:=so an
 show ∃ m,m<_∧g7 m _ _
 refine ⟨fs,Nat.lt_succ_self _,?_⟩
 exact ij dg ⟨((o.set (Int.toNat J) c6).set (Int.toNat (i64 (J - 1))) en),i64 (J - 1),bd,b5,(Le.trans (Le.trans dj hf) b8),((a2 0 U).trans a6),((a2 1 U).trans b3),((a2 2 U).trans cn),((a2 3 U).trans cp),((a2 8 U).trans b4),U,Z⟩
 have an:=(ay ej).symm.trans an
 refine a9 ?_
 obtain rfl:=so an
 obtain rfl:=so b5
 exact rj e3 ⟨o,J,e0,U,(Le.trans dj hf),a6,b3,cn,cp,b4,Z⟩
 intro f w_ hR
 obtain ⟨o,J,c3,rfl,dj,a6,b3,cn,cp,b4,Z⟩:=rk e3 hR
 refine ae (mF b4 U (bf U U U (aI U (nn ?_))))
 obtain rfl:=so c2
 show ∃ m,m<_∧I6 m _ _
 refine ⟨n6,Nat.lt_succ_self _,?_⟩
 exact ij fa ⟨o,i64 (b0+1),c3,c5,(Le.trans l5 dj),a6,b3,cn,cp,U,Z⟩
 have c2:=(ay fo).symm.trans c2
 refine a9 ?_
 obtain rfl:=so c2
 obtain rfl:=so c5
 exact rj g5 ⟨ag,b0,H4,U,l5,Z⟩
 intro f w_ hR
 obtain ⟨ag,b0,H4,rfl,l5,Z⟩:=rk g5 hR
 refine sW results170 ?_
 obtain rfl:=so hF
 exact ⟨U,(ab.down Z l5 (co bk c0))⟩
theorem rq {x_:Int} {H:FH} {w:World} (Z:ab H w []) {r:Int} (hF:bits_Len x_=some r):C prog 143 #[.int .u64 x_] w fun v w'=>v=I r∧ab H w' []:=by
 obtain ⟨h0,h1,rfl⟩:=vX hF
 refine Calls.mono (Go.Proofs.Tryz.bits_Len x_ w h0 h1) ?_
 rintro e w' ⟨rfl,rfl⟩
 exact ⟨_,U,U,Z⟩
theorem wZ {length:Int} {H:FH} {w:World} (Z:ab H w []) {r:Int} (hF:ln length=some r):C prog 204 #[I length] w fun v w'=>v=.int .u64 r∧ab H w' []:=by
 unfold ln at hF
 refine aE func204 U ntmps204 U (sq (aV (.int .u64 0) U (nq ?_)))
 obtain ⟨x6,o,hF⟩:=bind_some hF
 obtain ⟨q8,j,hF⟩:=bind_some hF
 refine ae (mI U (BA (n:=length) U U ⟨_,underlying3⟩ underlying148 ?_))
 obtain ⟨af,ag,J,an,R⟩:=Z.borrow
 refine ar U call143 (b9 U) (rq (x_:=IntKind.u64.wrap length) J o) ?_
 rintro _ a0 ⟨rfl,Z⟩
 have Z:=R Z c0
 refine Fx (m:=1) (n:=x6) U U U (Int.not_lt.1 fun he=>by rw [if_pos he] at j; cases j) (aV (.int .u64 (IntKind.u64.wrap (1 * 2 ^ (min (Int.toNat x6) (IntKind.bits .u64))))) U (nn (aA (aN (v1:=.int .u64 (IntKind.u64.wrap (1 * 2 ^ (min (Int.toNat x6) (IntKind.bits .u64))))) results204 U ?_))))
 obtain rfl:=so hF
 exact ⟨U,Z⟩
theorem mi {fu:Nat} {data:List Int} {a:Int} {b:Int} {limit:Int} {cmp:(Int→Int→Option Int)} {v0:Value} {v4:Value} {H:FH} {w:World} (Z:ab H w [oF 3 RP.int v0 data]) (h4:xG prog RP.int RP.int false (Value.int .i64) cmp v4 H) {r:List Int} (hF:eL fu data a b limit cmp=some r):C prog 142 #[v0,I a,I b,I limit,v4] w fun v w'=>v=.tuple #[]∧ab H w' [oF 3 RP.int v0 r]:=by
 unfold eL at hF
 obtain ⟨af,R,rfl,J,an⟩:=h4
 refine aE func142 U ntmps142 U (sq (aB U (ns (aB U (nn ?_)))))
 obtain ⟨j2,o,hF⟩:=bind_some hF
 obtain ⟨R2,a3⟩:=ca fun f w_=>j2=.nx ()∧ab H w_ ([oF 3 RP.int v0 data])
 refine av R2 ?_ ?_
 refine ak ?_
 obtain ⟨I2,a0⟩:=ff fun n f w_=>bx (cK fu data a b cmp) n ()=some j2∧f 0=v0∧f 1=I a∧f 2=I b∧f 4=.func (.func af) #[] R∧ab H w_ ([oF 3 RP.int v0 data])
 refine a8 I2 (n:=fu) ?_ ?_
 exact ij a0 ⟨o,U,U,U,U,Z⟩
 intro n2 f w_ hI
 obtain ⟨o,a4,a1,a2,a5,Z⟩:=ik a0 hI
 rcases n2 with _ | n2
 exact (cl o).elim
 obtain ⟨o2,j,o⟩:=cq o
 rw [cK] at j
 refine ak (sq (mF a2 U (mF a1 U (db U U U (aI U (nq (sq (mI U (kE U U U (nn (al (b:=decide ((i64 (b - a))≤12)) U (fun ag=>?_) (fun ag=>?_))))))))))))
 have j:=(az ag).symm.trans j
 refine ao ?_
 obtain ⟨x9,a6,j⟩:=bind_some j
 refine ae (mF a4 U (mF a1 U (mF a2 U (mF a5 U ?_))))
 obtain ⟨b1,bd,bs,b2,b0⟩:=Z.lS [_]
 refine ar U call170 (Fl U U U U) (kJ (data:=data) (a:=a) (b:=b) (cmp:=cmp) bs (xG.le ⟨_,_,U,J,an⟩ bd) a6) ?_
 rintro _ b3 ⟨rfl,Z⟩
 have Z:=b0 Z (co bk c0)
 refine nn (aA (sW results142 ?_))
 obtain rfl:=so j
 obtain rfl:=so o
 obtain rfl:=so hF
 exact ⟨U,Z⟩
 have j:=(ay ag).symm.trans j
 refine aq ?_
 cases j
 intro f w_ hR
 obtain ⟨rfl,Z⟩:=rk a3 hR
 refine sW results142 ?_
 obtain rfl:=so hF
 exact ⟨U,Z⟩
theorem pC {fu:Nat} {x:List Int} {cmp:(Int→Int→Option Int)} {v0:Value} {v1:Value} {H:FH} {w:World} (Z:ab H w [oF 3 RP.int v0 x]) (h1:xG prog RP.int RP.int false (Value.int .i64) cmp v1 H) {r:List Int} (hF:fF fu x cmp=some r):C prog 98 #[v0,v1] w fun v w'=>v=.tuple #[]∧ab H w' [oF 3 RP.int v0 r]:=by
 unfold fF at hF
 obtain ⟨I,o,rfl,j,J⟩:=h1
 refine aE func98 U ntmps98 U (sq (mV v0 U (aW U underlying23 U (ab.len 0 Z U) (aI U (nn ?_)))))
 obtain ⟨x6,af,hF⟩:=bind_some hF
 obtain ⟨a5,R,hF⟩:=bind_some hF
 refine ae (mV v0 U (mI U (mI U (BA (n:=(x.length:Int)) U U ⟨_,underlying3⟩ underlying148 ?_))))
 obtain ⟨a3,a6,ag,bd,an⟩:=Z.borrow
 refine ar U call143 (b9 U) (rq (x_:=IntKind.u64.wrap (x.length:Int)) ag af) ?_
 rintro _ bs ⟨rfl,Z⟩
 have Z:=an Z c0
 refine mV (.func (.func I) #[] o) U ?_
 obtain ⟨a4,a0,a1,b0,a2⟩:=Z.lS [_]
 refine ar U call142 (FX U U U U U) (mi (data:=x) (a:=0) (b:=(x.length:Int)) (limit:=x6) (cmp:=cmp) a1 (xG.le ⟨_,_,U,j,J⟩ a0) R) ?_
 rintro _ b1 ⟨rfl,Z⟩
 have Z:=a2 Z (co bk c0)
 refine nn (sW results98 ?_)
 obtain rfl:=so hF
 exact ⟨U,Z⟩
theorem hX {l:Int} {H:FH} {w:World} (Z:ab H w []) {r:Int} (hF:dW l=some r):C prog 100 #[I l] w fun v w'=>v=I r∧ab H w' []:=by
 unfold dW at hF
 refine aE func100 U ntmps100 U (sq (aI U (ns (mI U (mI U (kg U U (AI U U U (aI U (nn (aA (aN (v1:=I (max l (i64 (-l)))) results100 U ?_)))))))))))
 obtain rfl:=so hF
 exact ⟨U,Z⟩
theorem vf {a:Int} {b:Int} {H:FH} {w:World} (Z:ab H w []) {r:Int} (hF:b7 a b=some r):C prog 99 #[I a,I b] w fun v w'=>v=I r∧ab H w' []:=by
 unfold b7 at hF
 refine aE func99 U ntmps99 U (sq (aI U (nq ?_)))
 obtain ⟨x6,o,hF⟩:=bind_some hF
 obtain ⟨J,j,hF⟩:=bind_some hF
 refine ae (mI U ?_)
 obtain ⟨a0,a2,R,a3,af⟩:=Z.borrow
 refine ar U call100 (b9 U) (hX (l:=a) R o) ?_
 rintro _ a4 ⟨rfl,Z⟩
 have Z:=af Z c0
 refine mI U ?_
 obtain ⟨a1,a5,ag,a6,an⟩:=Z.borrow
 refine ar U call100 (b9 U) (hX (l:=b) ag j) ?_
 rintro _ bd ⟨rfl,Z⟩
 have Z:=an Z c0
 refine db U U U (aI U (nn (aA (aN (v1:=I (i64 (x6 - J))) results99 U ?_))))
 obtain rfl:=so hF
 exact ⟨U,Z⟩
theorem pK {s:List Int} {v0:Value} {H:FH} {w:World} {R:List Ass} (Z:ab H w R) (h0:(rS 3 RP.int).rel H [v0] s) {r:List Int} (hF:gu s=some r):C prog 101 #[v0] w fun v w'=>∃ H':FH,Le H H'∧∃ (u1:Value),v=u1∧(rS 3 RP.int).rel H' [u1] r∧ab H' w' (R):=by
 unfold gu at hF
 refine aE func101 U ntmps101 U (sq (aV S0 U (nq (sq (mV v0 U (aW U underlying23 U (ai h0) (bh U U U (nn (al (b:=decide ((s.length:Int)<2)) U (fun b5=>?_) (fun b5=>?_))))))))))
 have hF:=(az b5).symm.trans hF
 refine sq (mV v0 U (aV v0 U (nn (aA (aN (v1:=v0) results101 U ?_)))))
 obtain rfl:=so hF
 exact ⟨H,(Le.refl _),v0,U,h0,Z⟩
 have hF:=(ay b5).symm.trans hF
 refine aq (ao (sq (aI U (nn ?_))))
 obtain ⟨k6,b8,hF⟩:=bind_some hF
 obtain ⟨j5,bd,hF⟩:=bind_some hF
 obtain ⟨R5,c6⟩:=ca fun f w_=>∃ H3,j5=.nx ()∧Le H H3∧f 0=v0∧ab H3 w_ (R)
 refine av R5 ?_ ?_
 refine ak ?_
 obtain ⟨I5,ch⟩:=ff fun n f w_=>∃ J:Nat,∃ ag:Nat,∃ H3,ag=n∧1≤J∧J+ag=1+k6∧cI (eQ s) ag J ()=some j5∧Le H H3∧f 0=v0∧f 3=I J∧ab H3 w_ (R)
 refine a8 I5 (n:=k6) ?_ ?_
 exact ij ch ⟨1,k6,H,U,Nat.le_refl _,U,bd,(Le.refl _),U,U,Z⟩
 intro n5 f w_ hI
 obtain ⟨J,ag,H3,rfl,ee,c7,bd,l4,a0,bs,Z⟩:=ik ch hI
 refine ao (sq (mF bs U (mF a0 U (aW U underlying23 U (ai (RP.mono _ h0 l4)) (bh U U U (nn (al (b:=decide ((J:Int)<(s.length:Int))) U (fun cn=>?_) (fun cn=>?_))))))))
 have c8:=of_decide_eq_true cn
 rcases ag with _ | b1
 exact absurd c8 (lA c7 b8)
 obtain ⟨o5,a1,bd⟩:=eA bd
 rw [eQ] at a1
 refine aq (ao (ak (ao ?_)))
 obtain ⟨x8,ej,a1⟩:=bind_some a1
 obtain ⟨cp,dd,a1⟩:=bind_some a1
 refine bT 9 [aZ (v0),aZ (I J),gC RP.int x8 0,aZ (I x8),aZ (v0),aZ (I J),aZ (I (i64 ((J:Int) - 1))),gC RP.int cp 0,aZ (I cp)] [] [] (R) [([],[]),([],[]),([],[]),([],[]),([],[]),([],[]),([],[]),([],[]),([],[])] (S:=[]) aP (by kernel_rfl) U (by kernel_rfl) (ad (ah _) (ad (ah _) (ad (bU _ _ _) (ad (ah _) (ad (ah _) (ad (ah _) (ad (ah _) (ad (bU _ _ _) (ad (ah _) bV))))))))) Z ?_ (fun f w_ b0 an af b3 Z=>?_)
 refine aa (fun f w_ _ _ s _ _ Z=>mF ((s 0 U).trans a0) U (nO U U Z)) (aa (fun f w_ _ _ s _ _ Z=>mF ((s 3 U).trans bs) U (nO U U Z)) (aa ?_ ?_))
 intro f w_ b0 c1 an af o Z
 refine bP (r:=RP.int) U underlying23 sizeOf3 (o 0 16 U U) (RP.mono _ h0 (Le.trans l4 af)) (o 1 17 U U) ej (fun eu e0 ds a3 c2=>?_)
 obtain rfl:_=[_]:=a3
 exact ax ⟨U,_,_,U,Le.refl _,fun _ _=>⟨_,_,_,U,U,c2⟩,Z⟩
 refine aa ?_ ?_
 intro f w_ b0 c1 an af o Z
 obtain ⟨e1,e2,en,dg,a4,c3⟩:=(o 2 18 U U)
 obtain rfl:_=[_]:=a4
 refine bt U isAgg3 dg (At.cell (dn.at c3 Z.sub) (j:=0) U) (ax ⟨U,_,_,U,Le.refl _,fun _ _=>rfl,Z⟩)
 refine aa (fun f w_ _ _ s _ _ Z=>mF ((s 0 U).trans a0) U (nO U U Z)) (aa (fun f w_ _ _ s _ _ Z=>mF ((s 3 U).trans bs) U (nO U U Z)) (aa (fun f w_ _ _ _ _ p Z=>db U (p 5 21 U U) U (nO U U Z)) (aa ?_ ?_)))
 intro f w_ b0 c1 an af o Z
 refine bP (r:=RP.int) U underlying23 sizeOf3 (o 4 20 U U) (RP.mono _ h0 (Le.trans l4 af)) (o 6 22 U U) dd (fun e3 e4 ec a5 c4=>?_)
 obtain rfl:_=[_]:=a5
 exact ax ⟨U,_,_,U,Le.refl _,fun _ _=>⟨_,_,_,U,U,c4⟩,Z⟩
 refine aa ?_ ?_
 intro f w_ b0 c1 an af o Z
 obtain ⟨e5,fa,et,dj,a6,c5⟩:=(o 7 23 U U)
 obtain rfl:_=[_]:=a6
 refine bt U isAgg3 dj (At.cell (dn.at c5 Z.sub) (j:=0) U) (ax ⟨U,_,_,U,Le.refl _,fun _ _=>rfl,Z⟩)
 exact aQ
 refine bD U (b3 3 19 U U) (b3 8 24 U U) (nn ?_)
 obtain ⟨_,a2,a1⟩:=bind_some a1
 obtain ⟨ek,b4⟩:=ca fun f w_=>f 0=v0∧f 3=I J∧ab b0 w_ (R)
 refine av ek ?_ ?_
 refine al (b:=(x8 == cp)) U (fun b2=>?_) (fun b2=>?_)
 have a2:=(az b2).symm.trans a2
 cases a2
 have a2:=(ay b2).symm.trans a2
 refine aq (rj b4 ⟨((an 0 U).trans a0),((an 3 U).trans bs),Z⟩)
 intro f w_ hR
 obtain ⟨a0,bs,Z⟩:=rk b4 hR
 refine ae (mF bs U (bf U U U (aI U (nn ?_))))
 obtain rfl:=so a1
 show ∃ m,m<_∧I5 m _ _
 refine ⟨b1,Nat.lt_succ_self _,?_⟩
 exact ij ch ⟨J+1,b1,b0,U,by omega,by omega,bd,(Le.trans l4 af),a0,((eI (aO (n:=1+k6) (by omega) (jg b8)))),Z⟩
 rcases ag with _ | _
 obtain rfl:=eo bd
 refine a9 (rj c6 ⟨H3,U,l4,a0,Z⟩)
 exact absurd (jZ ee c7 b8) (of_decide_eq_false cn)
 intro f w_ hR
 obtain ⟨H3,rfl,l4,a0,Z⟩:=rk c6 hR
 refine sq (mF a0 U (aV v0 U (nn (aA (aN (v1:=v0) results101 U ?_)))))
 obtain rfl:=so hF
 exact ⟨H3,l4,v0,U,(RP.mono _ h0 l4),Z⟩
end Go.Proofs.YtbjllamkfmejlaaGreat
