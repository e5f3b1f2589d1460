/- cartularylaw05.HashLeaves walked. -/
import Derived.Test.YtecdaokgnkhgiaaDoorHf
import Derived.Test.YtecdaokgnkhgiaaDoorBey
namespace Go.Proofs.YtecdaokgnkhgiaaDoor
set_option maxRecDepth 100000
open Go.RowKit
set_option maxHeartbeats 3200000 in
theorem hashLeaves_any (A : Nat → Addr) (w : World) (s : ByteArray) (hs : s.size ≤ maxLen) (hH : Hs A w) :
    Calls Tryd.prog 3 #[.string s] w fun e w' => e = .returned (.bool true) ∧ Below w.heap.size w w' := by
  unfold maxLen at hs
  have HH := Bx.mk hH; clear hH
  have hbe := beyond_any (w.alloc (.cells #[.int .i64 (s.size : Int)] 3)) (.slice (some ⟨w.heap.size, 0, none⟩) 1 1) [s.size] (ints_one _ _ _ rfl) (by simp; omega)
  have kb := er_al (Below.refl w.heap.size w) (.cells #[.int .i64 (s.size : Int)] 3)
  have HBE := Bx.mk hbe; have KB := Bx.mk kb; clear hbe kb
  go_enter Tryd.func3, Tryd.ntmps3
  go_wp2_with fail
  refine HBE.out.mono ?_
  rintro e w1 ⟨rfl, hw1⟩
  rw [hw1] at KB
  rw [show ([s.size].sum : Nat) = s.size by simp]
  clear hw1 HBE
  by_cases hgt : 1048576 < s.size
  · rw [decide_eq_true hgt]
    go_wp2_with fail
    go_ret
    exact ⟨rfl, KB.out⟩
  · rw [decide_eq_false hgt]
    have c1 := leaf_any w1 s (by omega) (HH.out.below KB.out).tab
    have c2 := fun u => rleaf_any u s (by omega)
    have c3 := fun u (k : Below w.heap.size w u) => empty_any u (HH.out.below k).tab
    have c4 := fun u => rempty_any u
    have c5 := fun u (k : Below w.heap.size w u) => lives_any A u (HH.out.below k)
    have q1 := fun u => hv_eq u (sha (0 :: sb s)) (sha (0 :: sb s)) (sha_length _) (sha_length _)
    have q2 := fun u => hv_eq u (sha []) (sha []) (sha_length _) (sha_length _)
    simp only [beq_self_eq_true, hv_agg] at q1 q2
    rw [hv_agg] at c1
    simp only [hv_agg] at c2 c3 c4
    have C1 := Bx.mk c1; have C2 := Bx.mk c2; have C3 := Bx.mk c3; have C4 := Bx.mk c4; have C5 := Bx.mk c5
    clear c1 c2 c3 c4 c5
    go_wp2_with fail
    refine C1.out.mono ?_
    rintro e w2 ⟨rfl, hb⟩
    have B2 := Bx.mk (KB.out.trans (hb.mono KB.out.size)); clear hb
    go_wp2_with fail
    refine (C2.out w2).mono ?_
    rintro e w3 ⟨rfl, hb⟩
    have B3 := Bx.mk (B2.out.trans (hb.mono B2.out.size)); clear hb
    go_wp2_with fail
    refine (C3.out w3 B3.out).mono ?_
    rintro e w4 ⟨rfl, hb⟩
    have B4 := Bx.mk (B3.out.trans (hb.mono B3.out.size)); clear hb
    go_wp2_with fail
    refine (C4.out w4).mono ?_
    rintro e w5 ⟨rfl, hb⟩
    have B5 := Bx.mk (B4.out.trans (hb.mono B4.out.size)); clear hb
    go_wp2_with fail
    refine (C5.out w5 B5.out).mono ?_
    rintro e w6 ⟨rfl, hb⟩
    have B6 := Bx.mk (B5.out.trans (hb.mono B5.out.size)); clear hb
    go_wp2_with fail
    go_ret
    exact ⟨rfl, B6.out⟩
end Go.Proofs.YtecdaokgnkhgiaaDoor
