/- 'return T{}, ErrX' in a region that draws: the zero row is written over the zero row of the result; the error is one of the sixteen. -/
import Derived.Test.YtmlpldkgennmkaaDoorG5
import Derived.Test.YtmlpldkgennmkaaDoorG6
namespace Go.Proofs.YtmlpldkgennmkaaDoor
set_option maxRecDepth 100000
open Go.RowKit
theorem below_drew {B : Nat} {w W : World} (k : Below B w W) : Below B w W.drew := ⟨k.os, k.tape, k.output, k.size, k.block⟩
theorem ret_zero {id : Nat} {Q : Exit → Act → World → Prop} {a : Act} {W : World} {o0 o1 o2 o3 : Oper} {A : Nat → Addr} (hE : Errs W A) {n : Nat} (hn : W.heap[n]? = some (.cells zeros32 24 (0, 0))) (k : Nat) (hk : k < 16) (hne : eg k ≠ n)
    (hr : zeroOrders #[o0, o1, o2, o3] = true) (g0 : o0.guard = none) (g1 : o1.guard = none) (g2 : o2.guard = none) (g3 : o3.guard = none) (hd : ∀ d, o0.dst = some d → o1.dst ≠ some d)
    (h0 : o0.op = .build 24 #[]) (x1 : Operand) (h1 : o1.op = .load 31 x1) (e1 : ∀ b : Act, b.eval x1 = .pointer (some ⟨eg k, 0, none⟩)) (x2 y2 : Operand) (h2 : o2.op = .store 24 x2 y2)
    (e2 : (a.put o0.dst (hv zero32')).eval x2 = .pointer (some ⟨n, 0, none⟩)) (e3 : (a.put o0.dst (hv zero32')).eval y2 = hv zero32')
    (f2 : ((a.put o0.dst (hv zero32')).put o1.dst (.iface 144 (.pointer (some (A k))))).eval x2 = .pointer (some ⟨n, 0, none⟩)) (f3 : ((a.put o0.dst (hv zero32')).put o1.dst (.iface 144 (.pointer (some (A k))))).eval y2 = hv zero32')
    (hd2 : o2.dst = none)
    (h : ∀ W', Below W.heap.size W W' → o3.wp Tryd.prog ((a.put o0.dst (hv zero32')).put o1.dst (.iface 144 (.pointer (some (A k))))) W' (fun b u => Q .normal b u) Q) : (Code.region id #[o0, o1, o2, o3] true).wp Tryd.prog Q a W := by
  have q1 : W.drew.cell? ⟨eg k, 0, none⟩ = some (.iface 144 (.pointer (some (A k)))) := hE.glob k hk
  have q2 : (W.drew.setRow n zeros32).cell? ⟨eg k, 0, none⟩ = some (.iface 144 (.pointer (some (A k)))) := by
    rw [World.cell?_of_block (w := W.drew) (a := ⟨eg k, 0, none⟩) (heap_setRow_other W.drew n (eg k) _ hne)]; exact q1
  refine wp_region_zero (w' := W.drew.setRow n zeros32) (by kernel_rfl) hr g0 g1 g2 g3 (hv zero32') (.iface 144 (.pointer (some (A k)))) hd ?_ ?_ ?_ ?_
  · intro b K hK
    refine wp_build 24 #[] h0 (by kernel_rfl) ?_
    simp only [Array.toList_map, List.map_nil]
    rw [show (Tryd.prog.built 24 []).getD #[] = ocells zero32' by kernel_rfl]
    exact hK
  · rintro b u K (rfl | rfl) hK
    · exact wp_load_iface 31 x1 h1 ⟨eg k, 0, none⟩ (e1 b) _ q1 Tryd.underlying31 hK
    · exact wp_load_iface 31 x1 h1 ⟨eg k, 0, none⟩ (e1 b) _ q2 Tryd.underlying31 hK
  · rintro b K (rfl | rfl) hK
    · refine wp_store_row 24 x2 y2 h2 n zeros32 e2 e3 _ _ hn (hszL rfl) (hsoL rfl) (ocells_one zero32') ?_
      rw [hd2]; exact hK
    · refine wp_store_row 24 x2 y2 h2 n zeros32 f2 f3 _ _ hn (hszL rfl) (hsoL rfl) (ocells_one zero32') ?_
      rw [hd2]; exact hK
  · exact h _ ((Below.refl W.heap.size W).drew.trans (below_same (w := W.drew) hn))
end Go.Proofs.YtmlpldkgennmkaaDoor
