/- emit: a builder that is not there, and one that no call made. -/
import Derived.Test.YtbhcaalelfaceaaDoorEmA
namespace Go.Proofs.YtbhcaalelfaceaaDoor
set_option maxRecDepth 100000
open Go.RowKit
/-- no builder, or one that no call made -/
def DeadB (w : World) (v : Value) : Prop :=
  v = .pointer none ∨ ∃ b, v = .pointer (some ⟨b, 0, none⟩) ∧ w.heap[b]? = some (.cells #[.bool false, .int .u64 0, .slice none 0 0] 43 (0, 0))
theorem DeadB.below {w w' : World} {v : Value} (h : DeadB w v) (k : Below w.heap.size w w') : DeadB w' v := by
  rcases h with h | ⟨b, h, hb⟩
  · exact .inl h
  · exact .inr ⟨b, h, (k.block b (Array.getElem?_eq_some_iff.1 hb).1).trans hb⟩
theorem size_dead (w : World) (v : Value) (h : DeadB w v) : Calls Tryd.prog 12 #[v] w fun e w' => e = .returned (.int .u64 0) ∧ w = w' := by
  rcases h with rfl | ⟨b, rfl, hb⟩
  · go_enter Tryd.func12, Tryd.ntmps12
    go_wp2
    go_ret
    exact ⟨rfl, rfl⟩
  · have c1 := cell_at hb 1 _ rfl
    clear hb
    go_enter Tryd.func12, Tryd.ntmps12
    go_wp2
    go_ret
    exact ⟨rfl, rfl⟩
set_option maxHeartbeats 800000 in
theorem add_dead (A : Nat → Addr) (w : World) (v : Value) (h : DeadB w v) (p : List UInt8) (hE : Errs w A) :
    Calls Tryd.prog 10 #[v, hv p] w fun e w' => e = .returned (.tuple #[.slice none 0 0, .iface 124 (.pointer (some (A 0)))]) ∧ Below w.heap.size w w' := by
  have kb := er_al (Below.refl w.heap.size w) (.cells (ocells p) 33)
  have gE : (w.alloc (.cells (ocells p) 33)).cell? ⟨0, 0, none⟩ = some (.iface 124 (.pointer (some (A 0)))) := (hE.below kb).glob 0 (by decide)
  have hd := h.below kb
  clear h hE
  unfold hv
  rcases hd with rfl | ⟨b, rfl, hb⟩
  · go_enter Tryd.func10, Tryd.ntmps10
    go_upto_region 1 with (fail)
    change Code.wp _ _ _ _ (w.alloc (.cells (ocells p) 33))
    generalize w.alloc (.cells (ocells p) 33) = W at kb gE ⊢
    go_wp2_with fail
    go_quiet (fail)
    go_wp2_with fail
    go_ret2
    exact ⟨rfl, below_drewN kb _⟩
  · have c0 := cell_at hb 0 _ rfl
    clear hb
    go_enter Tryd.func10, Tryd.ntmps10
    go_upto_region 1 with (fail)
    change Code.wp _ _ _ _ (w.alloc (.cells (ocells p) 33))
    generalize w.alloc (.cells (ocells p) 33) = W at kb gE c0 ⊢
    go_wp2_with fail
    go_quiet (fail)
    go_wp2_with fail
    go_ret2
    exact ⟨rfl, below_drewN kb _⟩
theorem hashes_dead (w : World) (v : Value) (h : DeadB w v) : Calls Tryd.prog 13 #[v] w fun e w' => ∃ a c, e = .returned (.slice a 0 c) ∧ Below w.heap.size w w' := by
  rcases h with rfl | ⟨b, rfl, hb⟩
  · go_enter Tryd.func13, Tryd.ntmps13
    go_wp2
    go_ret
    exact ⟨_, _, rfl, Below.refl _ _⟩
  · have c2 := cell_at hb 2 _ rfl
    clear hb
    obtain ⟨i0, hi, hz0, hz1, hz2⟩ := info_parts infoH
    have hn0 := World.ownsRow_nil w w.heap.size 33 32
    have RI := Bx.mk (And.intro hi (And.intro hz0 (And.intro hz1 hz2)))
    have R0 := Bx.mk hn0
    have M1 := Bx.mk (show 0 + 0 ≤ maxLen by unfold maxLen; omega); have M2 := Bx.mk (show (0 + 0) * 32 ≤ 140737488355328 by omega)
    clear hi hz0 hz1 hz2 hn0
    go_enter Tryd.func13, Tryd.ntmps13
    go_wp2_with (guard_target =~ wpList _ _ _ (⟨some 9, _, _, _, _, _⟩ :: _) _ _; refine wpList_append_src rfl (.const (.slice none 0 0)) (.tmp 8) 22 rfl w.heap.size 33 i0 (.agg zeros32) 32 32 underHs RI.out.1 RI.out.2.1 RI.out.2.2.1 RI.out.2.2.2 rfl (by decide) (.slice none 0 0) 0 [] rfl R0.out none 0 0 [] rfl (fun _ => ⟨rfl, rfl⟩) rfl (fun _ h => by cases h) (fun _ h => by cases h) M1.out M2.out (Nat.le_refl _) ?_; intro v1 w1 o1 g1 _; obtain ⟨a1, c1, rfl, _, _, _⟩ := own_shape o1; have G1 := Bx.mk g1; clear o1 g1)
    go_ret
    have g1 : Keep (fun _ => False) w w1 := (Keep.of_grown G1.out).mono fun k _ h => by cases h
    exact ⟨⟨a1, c1, rfl⟩, g1.below (Nat.le_refl _) (fun _ h => h.elim)⟩
set_option maxHeartbeats 800000 in
theorem root_dead (w : World) (v : Value) (h : DeadB w v) : Calls Tryd.prog 14 #[v] w fun e w' => e = .returned (hv zero32') ∧ Below w.heap.size w w' := by
  have kb := er_al (Below.refl w.heap.size w) (.cells zeros32 33)
  have xN := heap_alloc_new w (.cells zeros32 33)
  have hd := h.below kb
  have hbz : Tryd.prog.built 33 [] = some zeros32 := by kernel_rfl
  have HSZ := Bx.mk (hszL zero32'_length); have HSO := Bx.mk (hsoL zero32'_length)
  clear h
  rcases hd with rfl | ⟨b, rfl, hb⟩
  · go_enter Tryd.func14, Tryd.ntmps14
    go_upto_region 1 with (fail)
    change Code.wp _ _ _ _ (w.alloc (.cells zeros32 33))
    generalize w.alloc (.cells zeros32 33) = W at kb xN ⊢
    have X := Bx.mk xN; have K := Bx.mk kb; clear xN kb
    go_wp2_with (guard_target =~ wpList _ _ _ (⟨none, _, _, _, _, _⟩ :: _) _ _; refine wpList_store_row rfl 33 (.tmp 2) (.tmp 14) rfl w.heap.size (ocells zero32') rfl rfl _ _ X.out HSZ.out HSO.out (ocells_one _) ?_)
    refine bodyPost_ret (results_cell_row rfl _ _ w.heap.size _ (ocells zero32') _ _ rfl (setRow_heap _ _ _ _ _ _ X.out) underH rfl HSZ.out) rfl ⟨rfl, below_setRow K.out (Nat.le_refl _) _⟩
  · have c0 := cell_at hb 0 _ rfl
    clear hb
    go_enter Tryd.func14, Tryd.ntmps14
    go_upto_region 1 with (fail)
    change Code.wp _ _ _ _ (w.alloc (.cells zeros32 33))
    generalize w.alloc (.cells zeros32 33) = W at kb xN c0 ⊢
    have X := Bx.mk xN; have K := Bx.mk kb; clear xN kb
    go_wp2_with (guard_target =~ wpList _ _ _ (⟨none, _, _, _, _, _⟩ :: _) _ _; refine wpList_store_row rfl 33 (.tmp 2) (.tmp 14) rfl w.heap.size (ocells zero32') rfl rfl _ _ X.out HSZ.out HSO.out (ocells_one _) ?_)
    refine bodyPost_ret (results_cell_row rfl _ _ w.heap.size _ (ocells zero32') _ _ rfl (setRow_heap _ _ _ _ _ _ X.out) underH rfl HSZ.out) rfl ⟨rfl, below_setRow K.out (Nat.le_refl _) _⟩
end Go.Proofs.YtbhcaalelfaceaaDoor
