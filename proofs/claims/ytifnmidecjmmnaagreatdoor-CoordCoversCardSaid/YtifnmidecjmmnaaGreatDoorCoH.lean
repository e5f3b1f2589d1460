/- cartularylaw06.alive. -/
import Derived.Test.YtifnmidecjmmnaaGreatDoorCoG
namespace Go.Proofs.YtifnmidecjmmnaaGreatDoor
open Go.RowKit
theorem cover05 : coverN 0 5 = [(2, 0), (0, 4)] := by
  have l1 : lvl 0 5 = 2 := by decide +kernel
  have l2 : lvl 4 5 = 0 := by decide +kernel
  rw [coverN_cons (by decide), l1, coverN_cons (by decide), l2, coverN_nil (by decide)]
theorem ccells_get : ∀ (l : List (Nat × Nat)) (i : Nat) (h : i < l.length), (ccells l)[i * 2]? = some (.int .u8 (l[i].1 : Int)) ∧ (ccells l)[i * 2 + 1]? = some (.int .u64 (l[i].2 : Int))
  | x :: l, 0, _ => ⟨rfl, rfl⟩
  | x :: l, i + 1, h => by
    have := ccells_get l i (by simpa using h)
    have e : ccells (x :: l) = .int .u8 (x.1 : Int) :: .int .u64 (x.2 : Int) :: ccells l := rfl
    rw [e, show (i + 1) * 2 = i * 2 + 1 + 1 by omega]
    simpa using this
theorem coords_own {w : World} {base : Nat} {v : Value} {l : List (Nat × Nat)} (h : w.ownsRow base 59 2 v l.length (ccells l)) : Coords w v l := by
  rcases h.2 with ⟨rfl, h0⟩ | ⟨g, cap, cur, rfl, hb, hg, h1, h2, h3, h4⟩
  · have : l = [] := List.eq_nil_of_length_eq_zero h0
    subst this
    exact ⟨none, 0, rfl, Nat.le_refl _, by simp [maxLen], fun h => absurd rfl h⟩
  · refine ⟨_, cap, rfl, h1, h2, fun _ => ⟨g, 0, rfl, (Array.getElem?_eq_some_iff.1 hg).1, fun i hi => ?_⟩⟩
    obtain ⟨c1, c2⟩ := ccells_get l i hi
    have hc : ∀ j, j < l.length * 2 → cur[j]? = (ccells l)[j]? := fun j hj => by
      rw [← h4, List.getElem?_take, if_pos hj]; simp
    exact ⟨cell_at hg _ _ (by rw [Nat.zero_add, hc _ (by omega)]; exact c1), cell_at hg _ _ (by rw [Nat.zero_add, hc _ (by omega)]; exact c2)⟩
theorem Coords.below {w w' : World} {v : Value} {l : List (Nat × Nat)} (h : Coords w v l) (k : Below w.heap.size w w') : Coords w' v l := by
  obtain ⟨a, cap, rfl, h1, h2, h3⟩ := h
  refine ⟨a, cap, rfl, h1, h2, fun hl => ?_⟩
  obtain ⟨B, off, rfl, hB, hc⟩ := h3 hl
  exact ⟨B, off, rfl, Nat.lt_of_lt_of_le hB k.size, fun i hi => ⟨(k.cell (p := ⟨B, off + i * 2, none⟩) hB).trans (hc i hi).1, (k.cell (p := ⟨B, off + i * 2 + 1, none⟩) hB).trans (hc i hi).2⟩⟩
set_option maxHeartbeats 3200000 in
set_option maxRecDepth 100000 in
theorem alive_any (w : World) (hT : TabZ w) (hg : 1 < w.heap.size) : Calls Tryz.prog 10 #[] w fun e w' => e = .returned (.bool true) ∧ Below w.heap.size w w' := by
  have c1 := span_any w 3 1
  have c4 := fun w => common_any w 0 0 0 3
  have c5 := fun w => cmp_any w 1 0 0 0 (by decide) (by decide) (by decide) (by decide)
  rw [show spB 3 1 = 8 by decide, show spE 3 1 = 16 by decide, show mayB 3 1 = true by decide] at c1
  rw [show comL 0 0 0 3 = 2 by decide +kernel, show comI 0 0 0 3 = 0 by decide +kernel, show comK 0 0 0 3 = true by decide +kernel] at c4
  rw [show cmpN 1 0 0 0 = -1 by decide] at c5
  have C1 := Bx.mk c1; have C4 := Bx.mk c4; have C5 := Bx.mk c5; have HT := Bx.mk hT; have HG := Bx.mk hg
  clear c1 c4 c5 hT hg
  go_enter Tryz.func10, Tryz.ntmps10
  go_wp2_with fail
  refine C1.out.mono ?_
  rintro e w1 ⟨rfl, hb1⟩
  unfold sv
  have HB1 := Bx.mk hb1; clear hb1 C1
  go_wp2_with fail
  have b2 := HB1.out.alloc HB1.out.size (.cells #[.int .u64 8, .int .u64 16] 24)
  have n2 := heap_alloc_new w1 (.cells #[.int .u64 8, .int .u64 16] 24)
  have c2 := of_any (w1.alloc (.cells #[.int .u64 8, .int .u64 16] 24)) 8 16 (by decide) (by decide) (HT.out.below HG.out b2) (Nat.lt_of_lt_of_le HG.out b2.size)
  rw [show ofL 8 16 = 3 by decide +kernel, show ofI 8 16 = 1 by decide +kernel, show ofK 8 16 = true by decide +kernel] at c2
  refine c2.mono ?_
  rintro e w2 ⟨rfl, hb2⟩
  unfold cv
  have n2' := (hb2.block _ (by simp)).trans n2
  have s2 := hb2.size
  simp only [World.size_alloc] at s2
  have b3 := b2.trans (hb2.mono b2.size)
  generalize w1.heap.size = p1 at n2' s2 ⊢
  have HB2 := Bx.mk b3; have N2 := Bx.mk n2'; have S2 := Bx.mk s2
  clear b2 n2 c2 hb2 n2' s2 b3 HB1
  go_wp2_with fail
  have b2 := HB2.out.alloc HB2.out.size (.cells #[.int .u8 3, .int .u64 1] 59)
  have n2 := heap_alloc_new w2 (.cells #[.int .u8 3, .int .u64 1] 59)
  have n1 := (Below.heap_alloc w2 (.cells #[.int .u8 3, .int .u64 1] 59) p1 S2.out).trans N2.out
  have c2 := cover_any (w2.alloc (.cells #[.int .u8 3, .int .u64 1] 59)) 0 5 (by decide) (by decide) (HT.out.below HG.out b2) (Nat.lt_of_lt_of_le HG.out b2.size)
  rw [cover05] at c2
  refine c2.mono ?_
  rintro e w3 ⟨v, rfl, hc⟩
  have hb3 := hc.below
  have n1' := (hb3.block _ (by have := S2.out; simp; omega)).trans n1
  have n2' := (hb3.block _ (by simp)).trans n2
  have b3 := b2.trans (hb3.mono b2.size)
  have s3 := hb3.size
  simp only [World.size_alloc] at s3
  have s1 := S2.out
  have cr := coords_own hc.own
  generalize w2.heap.size = p2 at n2' s3 s1 ⊢
  have HB3 := Bx.mk b3; have N1 := Bx.mk n1'; have N2 := Bx.mk n2'; have S3 := Bx.mk s3; have S1 := Bx.mk s1; have CR := Bx.mk cr
  clear b2 n1 n2 c2 hb3 n1' n2' s3 s1 b3 HB2 hc cr S2
  go_wp2_with fail
  refine (C4.out _).mono ?_
  rintro e w4 ⟨rfl, hb4⟩
  have n1 := (hb4.block _ (by have := S3.out; have := S1.out; omega)).trans N1.out
  have n2 := (hb4.block _ (by have := S3.out; omega)).trans N2.out
  have b4 := HB3.out.trans (hb4.mono HB3.out.size)
  have cr := CR.out.below hb4
  have s4 := hb4.size
  have HB4 := Bx.mk b4
  have N1 := Bx.mk n1; have N2 := Bx.mk n2; have CR := Bx.mk cr
  have S4 := Bx.mk s4
  clear n1 n2 b4 cr s4 hb4 C4
  unfold cv
  go_upto_region 5 with (fail)
  have b5 := HB4.out.alloc HB4.out.size (.cells #[.int .u8 2, .int .u64 0] 59)
  have n3 := heap_alloc_new w4 (.cells #[.int .u8 2, .int .u64 0] 59)
  have n1 := (Below.heap_alloc w4 (.cells #[.int .u8 2, .int .u64 0] 59) p1 (by have := S4.out; have := S3.out; have := S1.out; omega)).trans N1.out
  have n2 := (Below.heap_alloc w4 (.cells #[.int .u8 2, .int .u64 0] 59) p2 (by have := S4.out; have := S3.out; omega)).trans N2.out
  have cr := CR.out.below (below_new w4 (.cells #[.int .u8 2, .int .u64 0] 59))
  change Code.wp _ _ _ _ (w4.alloc (.cells #[.int .u8 2, .int .u64 0] 59))
  generalize hV : w4.alloc (.cells #[.int .u8 2, .int .u64 0] 59) = V at b5 n1 n2 n3 cr ⊢
  generalize w4.heap.size = p3 at n3 ⊢
  obtain ⟨x1, x2, x3, x4⟩ := two_cells n1
  obtain ⟨y1, y2, y3, y4⟩ := two_cells n2
  obtain ⟨z1, z2, z3, z4⟩ := two_cells n3
  obtain ⟨va, vc, rfl, q1, q2, q3⟩ := id cr
  have l2 : Coords (V.alloc (.cells #[.int .u8 2, .int .u64 0, .int .u8 0, .int .u64 4] 59)) (.slice (some ⟨V.heap.size, 0, none⟩) 2 2) [(2, 0), (0, 4)] :=
    ⟨_, 2, rfl, by decide, by decide, fun _ => ⟨V.heap.size, 0, rfl, by simp, fun i hi => by
      match i, hi with
      | 0, _ => exact ⟨cell_at (heap_alloc_new _ _) _ _ rfl, cell_at (heap_alloc_new _ _) _ _ rfl⟩
      | 1, _ => exact ⟨cell_at (heap_alloc_new _ _) _ _ rfl, cell_at (heap_alloc_new _ _) _ _ rfl⟩
      | n + 2, h => exact absurd h (by simp)⟩⟩
  have cs := same_any _ _ _ _ _ (cr.below (below_new V (.cells #[.int .u8 2, .int .u64 0, .int .u8 0, .int .u64 4] 59))) l2
  rw [decide_eq_true rfl] at cs
  have CS := Bx.mk cs; have HB5 := Bx.mk b5; have N3 := Bx.mk n3
  clear cs b5 n1 n2 n3 cr l2 hV q1 q2 q3 CR HB4 N1 N2 S4 S3 S1 HB3
  go_wp2_with fail
  refine CS.out.mono ?_
  rintro e w5 ⟨rfl, hb5⟩
  have b6 := (HB5.out.alloc HB5.out.size (.cells #[.int .u8 2, .int .u64 0, .int .u8 0, .int .u64 4] 59)).trans (hb5.mono (HB5.out.alloc HB5.out.size (.cells #[.int .u8 2, .int .u64 0, .int .u8 0, .int .u64 4] 59)).size)
  have n3 := (hb5.block p3 (by have := (Array.getElem?_eq_some_iff.1 N3.out).1; simp; omega)).trans ((Below.heap_alloc V _ p3 (Array.getElem?_eq_some_iff.1 N3.out).1).trans N3.out)
  obtain ⟨z1, z2, z3, z4⟩ := two_cells n3
  have HB6 := Bx.mk b6
  clear n3 b6 hb5
  have c5 := C5.out
  unfold cv at c5
  have C5' := Bx.mk c5; clear c5
  go_wp2_with fail
  refine (C5'.out _).mono ?_
  rintro e w6 ⟨rfl, hb6⟩
  have b7 := HB6.out.trans (hb6.mono HB6.out.size)
  have HB7 := Bx.mk b7
  clear b7 hb6
  go_wp2_with fail
  go_ret
  exact ⟨rfl, HB7.out⟩
/-- a struct of two fields in a block of its own -/
def At (w : World) (n : Nat) (T : TypeId) (a b : Value) : Prop := w.heap[n]? = some (.cells #[a, b] T (0, 0))
theorem At.lt {w : World} {n : Nat} {T : TypeId} {a b : Value} (h : At w n T a b) : n < w.heap.size := (Array.getElem?_eq_some_iff.1 h).1
theorem At.below {w w' : World} {n : Nat} {T : TypeId} {a b : Value} (h : At w n T a b) (k : Below w.heap.size w w') : At w' n T a b := (k.block n h.lt).trans h
theorem At.alloc {w : World} {n : Nat} {T : TypeId} {a b : Value} (h : At w n T a b) (o : Obj) : At (w.alloc o) n T a b := h.below (below_new _ _)
theorem At.new (w : World) (T : TypeId) (a b : Value) : At (w.alloc (.cells #[a, b] T)) w.heap.size T a b := heap_alloc_new _ _
theorem At.cells {w : World} {n : Nat} {T : TypeId} {a b : Value} (h : At w n T a b) : w.cell? ⟨n, 0, none⟩ = some a ∧ w.cell? ⟨n, 1, none⟩ = some b ∧ w.frozen? ⟨n, 0, none⟩ = false ∧ w.frozen? ⟨n, 1, none⟩ = false := two_cells h
/-- what every law of the chapter keeps in mind of the world at its beginning -/
structure Seed (W w : World) : Prop where
  below : Below W.heap.size W w
  tab : TabZ w
  lt : 1 < w.heap.size
theorem Seed.next {W w w' : World} (h : Seed W w) (k : Below w.heap.size w w') : Seed W w' :=
  ⟨h.below.trans (k.mono h.below.size), h.tab.below h.lt k, Nat.lt_of_lt_of_le h.lt k.size⟩
theorem Seed.alloc {W w : World} (h : Seed W w) (o : Obj) : Seed W (w.alloc o) := h.next (below_new _ _)
theorem Seed.alive {W w : World} (h : Seed W w) : Calls Tryz.prog 10 #[] w fun e w' => e = .returned (.bool true) ∧ Below w.heap.size w w' := alive_any w h.tab h.lt
end Go.Proofs.YtifnmidecjmmnaaGreatDoor
