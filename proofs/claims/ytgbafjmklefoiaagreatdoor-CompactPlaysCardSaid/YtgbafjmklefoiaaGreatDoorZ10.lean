/- cartulary/coord, walked: may, Span, Of, Parent, Sibling, Children. cartulary/coord, walked: Parent, Sibling, Children. Contracts of the library (laid by the kit's own tool at this dump). cartulary/coord, walked: Of. cartulary/coord, walked: Common. cartulary/coord, walked: Cmp. cartulary/coord, walked: Cover (of a stretch that may be). -/
import Derived.Test.YtgbafjmklefoiaaGreatDoorZ01
import Derived.Test.YtgbafjmklefoiaaGreatDoorZ02
import Derived.Test.YtgbafjmklefoiaaGreatDoorZ03
import Derived.Test.YtgbafjmklefoiaaGreatDoorProg
import Derived.Test.YtgbafjmklefoiaaGreatDoorRows
import Derived.WalkKit
import Derived.WalkLawsBesides
import Derived.BigQuiet
import Derived.BigRegion
import Derived.Laws.Rows
import Derived.Deep.DeepCutAuto
import Derived.Deep.CutBlock
import Derived.Shelf.Strconv.Itoa0
import Derived.Ground.NamesProg
import Derived.Ground.Names7Prog
import Derived.Shelf.Spec.TrailingZeros
import Derived.Deep.LoopGhost
import Derived.Laws.OwnMore
section
namespace Go.Proofs.YtgbafjmklefoiaaGreatDoor
open Go.RowKit
def cv (L I : Nat) : Value := .agg #[.int .u8 (L : Int), .int .u64 (I : Int)]
def sv (B E : Nat) : Value := .agg #[.int .u64 (B : Int), .int .u64 (E : Int)]
theorem two_pow63 : (9223372036854775808 : Int) = ((2 ^ 63 : Nat) : Int) := by decide
theorem may_dec {L I : Nat} (h : L ≤ 63) : decide ((I : Int) < 9223372036854775808 / 2 ^ L) = mayB L I := by
  rw [mayB_shift, decide_eq_true h, Bool.true_and, Bool.eq_iff_iff]
  simp only [decide_eq_true_eq]
  rw [two_pow63, show ((2 : Int) ^ L) = ((2 ^ L : Nat) : Int) by simp, ← Int.natCast_ediv, Int.ofNat_lt]
theorem may_not {L I : Nat} (h : ¬ L ≤ 63) : mayB L I = false := by
  rw [mayB_shift, decide_eq_false h, Bool.false_and]
theorem below_new (w : World) (o : Obj) : Below w.heap.size w (w.alloc o) := (Below.refl _ _).alloc (Nat.le_refl _) _
theorem two_new {w w1 : World} {o1 o2 : Obj} (hb : Below ((w.alloc o1).alloc o2).heap.size ((w.alloc o1).alloc o2) w1) :
    w1.heap[w.heap.size]? = some o1 ∧ w1.heap[w.heap.size + 1]? = some o2 ∧ Below w.heap.size w w1 ∧ w.heap.size + 2 ≤ w1.heap.size := by
  have hs : ((w.alloc o1).alloc o2).heap.size = w.heap.size + 2 := by simp
  refine ⟨(hb.block _ (by omega)).trans ?_, (hb.block _ (by omega)).trans ?_, ?_, by have := hb.size; omega⟩
  · rw [Below.heap_alloc _ _ _ (by simp)]; exact heap_alloc_new _ _
  · have := heap_alloc_new (w.alloc o1) o2
    simpa using this
  · exact ((below_new w o1).alloc (by simp) o2).trans (hb.mono (by omega))
/-- a block of two cells -/
theorem two_cells {w : World} {n : Nat} {a b : Value} {T : TypeId} (h : w.heap[n]? = some (.cells #[a, b] T (0, 0))) :
    w.cell? ⟨n, 0, none⟩ = some a ∧ w.cell? ⟨n, 1, none⟩ = some b ∧ w.frozen? ⟨n, 0, none⟩ = false ∧ w.frozen? ⟨n, 1, none⟩ = false := by
  refine ⟨cell_at h _ _ rfl, cell_at h _ _ rfl, ?_, ?_⟩ <;> simp [World.frozen?, h]
theorem two_setC {w : World} {n : Nat} {a b : Value} {T : TypeId} {fr : Nat × Nat} (h : w.heap[n]? = some (.cells #[a, b] T fr)) (x y : Value) :
    ((w.setCell ⟨n, 0, none⟩ x).setCell ⟨n, 1, none⟩ y).heap[n]? = some (.cells #[x, y] T fr) := by
  have hn := (Array.getElem?_eq_some_iff.1 h).1
  simp [World.setCell, Array.getElem?_modify, h]
theorem res_two {fn : Func} {p u : Tmp} {ty : TypeId} {P : Program} (h : fn.results = #[.cell p ty, .tmp u]) (tmps : Array Value) (w : World) (g : Nat) (t : TypeId) (cs : Array Value) (fr : Nat × Nat) (f : Array Field)
    (hp : tmps.getD p undef = .pointer (some ⟨g, 0, none⟩)) (hg : w.heap[g]? = some (.cells cs t fr))
    (hu : P.underlying ty = some (.struct f)) (hi : (P.info? ty).map (·.size) = some cs.size) :
    (results fn tmps).run P w = .ok (.tuple #[.agg cs, tmps.getD u undef]) w := by
  rw [results_cell_tmp h, hp]
  simp [asAddr, run_loadVar_row w g t ty cs fr (.struct f) hg hu rfl hi, Result.andThen]
theorem sizeC : (Tryz.prog.info? 103).map (·.size) = some 2 := by kernel_rfl
theorem sizeS : (Tryz.prog.info? 54).map (·.size) = some 2 := by kernel_rfl
set_option maxHeartbeats 800000 in
theorem may_any (w : World) (L I : Nat) : Calls Tryz.prog 142 #[cv L I] w fun e w' => e = .returned (.bool (mayB L I)) ∧ Below w.heap.size w w' := by
  unfold cv
  go_enter Tryz.func142, Tryz.ntmps142
  by_cases h : L ≤ 63
  · have hd := may_dec (I := I) h
    go_wp2_with fail
    go_ret
    exact ⟨rfl, below_new _ _⟩
  · rw [may_not h]
    go_wp2_with fail
    go_ret
    exact ⟨rfl, below_new _ _⟩
theorem wrap_nat {n : Nat} {x : Int} (hx : x = (n : Int)) (h : n < 2 ^ 64) : IntKind.u64.wrap x = (n : Int) := by
  subst hx
  simp [IntKind.wrap, IntKind.bits, IntKind.signed]; omega
end Go.Proofs.YtgbafjmklefoiaaGreatDoor
end
section
namespace Go.Proofs.YtgbafjmklefoiaaGreatDoor
open Go.RowKit
theorem two_set' {w : World} {n m : Nat} {a b : Value} {T : TypeId} {fr : Nat × Nat} (h : w.heap[m]? = some (.cells #[a, b] T fr)) (x y x' y' : Value) (hn : m ≠ n) :
    ((((w.setCell ⟨n, 0, none⟩ x).setCell ⟨n, 1, none⟩ y).setCell ⟨m, 0, none⟩ x').setCell ⟨m, 1, none⟩ y').heap[m]? = some (.cells #[x', y'] T fr) :=
  two_setC (((Below.heap_setCell _ _ _ _ hn).trans (Below.heap_setCell _ _ _ _ hn)).trans h) x' y'
theorem three_new {w w1 : World} {o1 o2 o3 : Obj} (hb : Below (((w.alloc o1).alloc o2).alloc o3).heap.size (((w.alloc o1).alloc o2).alloc o3) w1) :
    w1.heap[w.heap.size]? = some o1 ∧ w1.heap[w.heap.size + 1]? = some o2 ∧ w1.heap[w.heap.size + 2]? = some o3 ∧ Below w.heap.size w w1 ∧ w.heap.size + 3 ≤ w1.heap.size := by
  have hs : (((w.alloc o1).alloc o2).alloc o3).heap.size = w.heap.size + 3 := by simp
  have h2 := two_new (w := w) (o1 := o1) (o2 := o2) (w1 := ((w.alloc o1).alloc o2).alloc o3) (below_new _ _)
  refine ⟨(hb.block _ (by omega)).trans h2.1, (hb.block _ (by omega)).trans h2.2.1, (hb.block _ (by omega)).trans ?_, h2.2.2.1.trans (hb.mono (by omega)), by have := hb.size; omega⟩
  have := heap_alloc_new ((w.alloc o1).alloc o2) o3
  simpa using this
set_option maxHeartbeats 800000 in
theorem parent_any (w : World) (L I : Nat) : Calls Tryz.prog 131 #[cv L I] w fun e w' => e = .returned (.tuple #[cv (upL L I) (upI L I), .bool (upK L I)]) ∧ Below w.heap.size w w' := by
  have hm := fun w => may_any w L I
  unfold cv at hm ⊢
  have HM := Bx.mk hm; clear hm
  go_enter Tryz.func131, Tryz.ntmps131
  go_wp2_with fail
  refine (HM.out _).mono ?_
  rintro e w1 ⟨rfl, hb⟩
  obtain ⟨h1, h2, hb1, hs1⟩ := two_new hb
  obtain ⟨a1, a2, a3, a4⟩ := two_cells h1
  obtain ⟨b1, b2, b3, b4⟩ := two_cells h2
  have HB := Bx.mk hb1; have HS := Bx.mk hs1; have H2 := Bx.mk h2
  clear hb h1 h2 hb1 hs1
  by_cases h : mayB L I = true
  · rw [h]
    by_cases h63 : (L : Int) = 63
    · have hk : upK L I = false := by simp [upK]; omega
      go_wp2_with fail
      refine bodyPost_ret (res_two rfl _ _ (w.heap.size + 1) _ _ _ _ rfl (two_setC H2.out _ _) Tryz.underlying103 sizeC) rfl ⟨?_, (HB.out.setCell (Nat.le_succ _) _).setCell (Nat.le_succ _) _⟩
      rw [show upL L I = 0 by unfold upL; rw [if_neg (by rw [hk]; decide)], show upI L I = 0 by unfold upI; rw [if_neg (by rw [hk]; decide)], hk]
      rfl
    · have hk : upK L I = true := by simp [upK, h]; omega
      have hL := ((mayB_iff L I).1 h).1
      go_wp2_with fail
      refine bodyPost_ret (res_two rfl _ _ (w.heap.size + 1) _ _ _ _ rfl (two_set' H2.out _ _ _ _ (Nat.succ_ne_self _)) Tryz.underlying103 sizeC) rfl ⟨?_, (((HB.out.setCell (Nat.le_refl _) _).setCell (Nat.le_refl _) _).setCell (Nat.le_succ _) _).setCell (Nat.le_succ _) _⟩
      rw [show upL L I = L + 1 by unfold upL; rw [if_pos hk], show upI L I = I / 2 by unfold upI; rw [if_pos hk], hk]
      rfl
  · rw [Bool.eq_false_iff.2 h]
    have hk : upK L I = false := by simp [upK, h]
    go_wp2_with fail
    refine bodyPost_ret (res_two rfl _ _ (w.heap.size + 1) _ _ _ _ rfl (two_setC H2.out _ _) Tryz.underlying103 sizeC) rfl ⟨?_, (HB.out.setCell (Nat.le_succ _) _).setCell (Nat.le_succ _) _⟩
    rw [show upL L I = 0 by unfold upL; rw [if_neg (by rw [hk]; decide)], show upI L I = 0 by unfold upI; rw [if_neg (by rw [hk]; decide)], hk]
    rfl
end Go.Proofs.YtgbafjmklefoiaaGreatDoor
end
section
namespace Go.Proofs.YtgbafjmklefoiaaGreatDoor
open Go.Shelf
def lays129_ren : Go.Shelf.Ren := ⟨fun | 129 => 126 | n => n, fun | 53 => 32 | 3 => 3 | 4 => 4 | 46 => 205 | 5 => 5 | 9 => 9 | n => n, fun | n => n⟩
theorem lays129 : Go.Proofs.Lays.n129 Tryz.prog lays129_ren := {
  mixed := by kernel_rfl
  f129 := Tryz.func126.trans (congrArg some (by kernel_rfl))
  t3 := Tryz.underlying3
  a3 := Tryz.isAgg3
  z3 := Tryz.sizeOf3
  v3 := Tryz.zeroValue3
  t4 := Tryz.underlying4
  a4 := Tryz.isAgg4
  z4 := Tryz.sizeOf4
  v4 := Tryz.zeroValue4
  t5 := Tryz.underlying5
  a5 := Tryz.isAgg5
  z5 := Tryz.sizeOf5
  v5 := Tryz.zeroValue5
  t9 := Tryz.underlying9
  a9 := Tryz.isAgg9
  z9 := Tryz.sizeOf9
  v9 := Tryz.zeroValue9
  t46 := Tryz.underlying205
  a46 := Tryz.isAgg205
  z46 := Tryz.sizeOf205
  v46 := Tryz.zeroValue205
  t53 := Tryz.underlying32
  a53 := Tryz.isAgg32
  z53 := Tryz.sizeOf32
  v53 := Tryz.zeroValue32 }
/-- bits.Len64: "Len64 returns the minimum number of bits required to represent x; the result is 0 for x == 0.": IT RETURNS 'Lib.bitLen x'; the world is as it was. ('h0', 'h1': x is a uint64.) (LAID: no walk: one application.) -/
theorem bits_Len64 (x : Int) (w : World) (h0 : 0 ≤ x) (h1 : x ≤ 18446744073709551615) :
    Calls Tryz.prog 126 #[.int .u64 x] w fun e w' => e = .returned (.int .i64 (Lib.bitLen x.toNat)) ∧ w' = w := Any.bits_Len64 lays129 x w h0 h1
def lays729_ren : Go.Shelf.Ren := ⟨fun | 29 => 127 | n => n, fun | 22 => 32 | 3 => 3 | 4 => 4 | 25 => 205 | 54 => 217 | 0 => 0 | 5 => 5 | n => n, fun | 1 => 4 | n => n⟩
theorem lays729 : Go.Proofs.Lays7.n29 Tryz.prog lays729_ren := {
  mixed := by kernel_rfl
  f29 := Tryz.func127.trans (congrArg some (by kernel_rfl))
  t0 := Tryz.underlying0
  a0 := Tryz.isAgg0
  z0 := Tryz.sizeOf0
  v0 := Tryz.zeroValue0
  i0 := by kernel_rfl
  t3 := Tryz.underlying3
  a3 := Tryz.isAgg3
  z3 := Tryz.sizeOf3
  v3 := Tryz.zeroValue3
  i3 := by kernel_rfl
  t4 := Tryz.underlying4
  a4 := Tryz.isAgg4
  z4 := Tryz.sizeOf4
  v4 := Tryz.zeroValue4
  i4 := by kernel_rfl
  t5 := Tryz.underlying5
  a5 := Tryz.isAgg5
  z5 := Tryz.sizeOf5
  v5 := Tryz.zeroValue5
  i5 := by kernel_rfl
  t22 := Tryz.underlying32
  a22 := Tryz.isAgg32
  z22 := Tryz.sizeOf32
  v22 := Tryz.zeroValue32
  i22 := by kernel_rfl
  t25 := Tryz.underlying205
  a25 := Tryz.isAgg205
  z25 := Tryz.sizeOf205
  v25 := Tryz.zeroValue205
  i25 := by kernel_rfl
  t54 := Tryz.underlying217
  a54 := Tryz.isAgg217
  z54 := Tryz.sizeOf217
  g1 := by kernel_rfl }
theorem len_any (x : Nat) (w : World) (h : x < 2 ^ 64) : Calls Tryz.prog 126 #[.int .u64 (x : Int)] w fun e w' => e = .returned (.int .i64 (Lib.bitLen x : Int)) ∧ w' = w :=
  bits_Len64 x w (by omega) (by omega)
def TabZ (w : World) : Prop := TabAt 4 Lib.deBruijn64tab w
theorem tz_any (x : Nat) (w : World) (h : x < 2 ^ 64) (hT : TabZ w) : Calls Tryz.prog 127 #[.int .u64 (x : Int)] w fun e w' => e = .returned (.int .i64 (Lib.ctz 64 x : Int)) ∧ w' = w :=
  Any7.bits_TrailingZeros64 lays729 x h w (fun _ => hT)
end Go.Proofs.YtgbafjmklefoiaaGreatDoor
end
section
namespace Go.Proofs.YtgbafjmklefoiaaGreatDoor
open Go.RowKit
theorem TabZ.below {w w' : World} (h : TabZ w) (hg : 4 < w.heap.size) (k : Below w.heap.size w w') : TabZ w' :=
  fun j hj => (k.cell (p := ⟨4, j, none⟩) hg).trans (h j hj)
theorem sub_nat {B E : Nat} (h : B ≤ E) (hE : E < 2 ^ 64) : IntKind.u64.wrap ((E : Int) - (B : Int)) = ((E - B : Nat) : Int) := wrap_nat (n := E - B) (by omega) (by omega)
theorem div_pow_nat (B k : Nat) : (B : Int) / 2 ^ k = ((B / 2 ^ k : Nat) : Int) := by
  rw [show ((2 : Int) ^ k) = ((2 ^ k : Nat) : Int) by simp, ← Int.natCast_ediv]
end Go.Proofs.YtgbafjmklefoiaaGreatDoor
end
section
namespace Go.Proofs.YtgbafjmklefoiaaGreatDoor
open Go.RowKit
theorem cv_neq (w : World) (L1 I1 L2 I2 : Nat) : (binOp .neq 103 (.agg #[.int .u8 (L1 : Int), .int .u64 (I1 : Int)]) (.agg #[.int .u8 (L2 : Int), .int .u64 (I2 : Int)])).run Tryz.prog w = .ok (.bool (!decide (L1 = L2 ∧ I1 = I2))) w := by
  simp [go_sem]
  by_cases h1 : L1 = L2
  · by_cases h2 : I1 = I2
    · subst h1; subst h2; simp
    · have : ¬ (I1 : Int) = (I2 : Int) := by omega
      simp [h1, h2, this]
  · have : ¬ (L1 : Int) = (L2 : Int) := by omega
    simp [h1, this]
/-- where the search for what two trees have in common stands -/
structure CmInv (La Ia Lb Ib L1 I1 L2 I2 : Nat) : Prop where
  m1 : mayB L1 I1 = true
  m2 : mayB L2 I2 = true
  com : ∀ j, Com j La Ia Lb Ib ↔ Com j L1 I1 L2 I2
  anc : (Anc La Ia L1 I1 ∧ Anc Lb Ib L2 I2) ∨ (Anc Lb Ib L1 I1 ∧ Anc La Ia L2 I2)
theorem CmInv.step {La Ia Lb Ib L1 I1 L2 I2 : Nat} (h : CmInv La Ia Lb Ib L1 I1 L2 I2) (hl : L1 ≤ L2) (hne : ¬ (L1 = L2 ∧ I1 = I2)) : L1 < 63 ∧ CmInv La Ia Lb Ib (L1 + 1) (I1 / 2) L2 I2 := by
  obtain ⟨a1, a2⟩ := (mayB_iff _ _).1 h.m1
  obtain ⟨b1, b2⟩ := (mayB_iff _ _).1 h.m2
  have h63 : L1 ≠ 63 := by
    rintro rfl
    obtain rfl : L2 = 63 := by omega
    simp at a2 b2
    exact hne ⟨rfl, by omega⟩
  exact ⟨by omega, up_may h.m1 h63, h.m2, fun j => (h.com j).trans (com_up hl hne), h.anc.elim (fun h => .inl ⟨h.1.up, h.2⟩) (fun h => .inr ⟨h.1.up, h.2⟩)⟩
theorem CmInv.done {La Ia Lb Ib L I : Nat} (ha : mayB La Ia = true) (hb : mayB Lb Ib = true) (h : CmInv La Ia Lb Ib L I L I) : comL La Ia Lb Ib = L ∧ comI La Ia Lb Ib = I := by
  have hk : comK La Ia Lb Ib = true := by unfold comK; rw [ha, hb]; rfl
  have hf := comF_end ha hb h.com
  unfold comL comI
  rw [if_pos hk, if_pos hk, hf]
  refine ⟨rfl, ?_⟩
  rcases h.anc with h | h
  · exact h.1.2.symm
  · exact h.2.2.symm
theorem CmInv.start {La Ia Lb Ib : Nat} (ha : mayB La Ia = true) (hb : mayB Lb Ib = true) : CmInv La Ia Lb Ib La Ia Lb Ib :=
  ⟨ha, hb, fun _ => Iff.rfl, .inl ⟨Anc.refl _ _, Anc.refl _ _⟩⟩
end Go.Proofs.YtgbafjmklefoiaaGreatDoor
end
section
namespace Go.Proofs.YtgbafjmklefoiaaGreatDoor
open Go.RowKit
end Go.Proofs.YtgbafjmklefoiaaGreatDoor
end
section
namespace Go.Proofs.YtgbafjmklefoiaaGreatDoor
open Go.RowKit
theorem cover_len_lim (n : Nat) : ∀ {b e : Nat}, e - b ≤ n → e ≤ 2 ^ 63 → (Lim b e → (coverN b e).length ≤ lvl b e + 1) ∧ (b < e → (coverN b e).length ≤ 128 - lvl b e) := by
  induction n with
  | zero =>
    intro b e h1 _
    rw [coverN_nil (by omega)]
    exact ⟨fun _ => by simp, fun h => by omega⟩
  | succ n ih =>
    intro b e h1 h3
    by_cases hlt : b < e
    · obtain ⟨a1, a2, a3, a4⟩ := lvl_spec hlt h3
      have hp := Nat.two_pow_pos (lvl b e)
      obtain ⟨i1, i2⟩ := ih (b := b + 2 ^ lvl b e) (e := e) (by omega) h3
      rw [coverN_cons hlt, List.length_cons]
      by_cases hn : b + 2 ^ lvl b e < e
      · obtain ⟨c1, _⟩ := lvl_spec hn h3
        have hl : Lim b e → lvl (b + 2 ^ lvl b e) e < lvl b e ∧ Lim (b + 2 ^ lvl b e) e := fun h => lim_next hlt h3 h hn
        have hf : lvl (b + 2 ^ lvl b e) e ≤ lvl b e → Lim (b + 2 ^ lvl b e) e := fun h => lim_falls hlt h3 hn h
        refine ⟨fun h => ?_, fun _ => ?_⟩
        · obtain ⟨x, y⟩ := hl h
          have := i1 y
          omega
        · by_cases hle : lvl (b + 2 ^ lvl b e) e ≤ lvl b e
          · have := i1 (hf hle)
            omega
          · have := i2 hn
            omega
      · rw [coverN_nil hn]
        simp
        omega
    · rw [coverN_nil hlt]
      exact ⟨fun _ => by simp, fun h => by omega⟩
theorem cover_le {b e : Nat} (h : e ≤ 2 ^ 63) : (coverN b e).length ≤ 128 := by
  by_cases hlt : b < e
  · have := (cover_len_lim _ (Nat.le_refl _) h).2 hlt
    omega
  · rw [coverN_nil hlt]; simp
/-- the cells of a row of trees -/
def ccells (l : List (Nat × Nat)) : List Value := l.flatMap fun x => [.int .u8 (x.1 : Int), .int .u64 (x.2 : Int)]
theorem ccells_append (l l' : List (Nat × Nat)) : ccells (l ++ l') = ccells l ++ ccells l' := by simp [ccells]
theorem infoC : (Tryz.prog.info? 103).map (fun i => (i.zero, i.size, i.bytes)) = some (some (.agg #[.int .u8 0, .int .u64 0]), 2, 16) := by kernel_rfl
theorem info_parts {P : Program} {t : TypeId} {z : Value} {s b : Nat} (h : (P.info? t).map (fun i => (i.zero, i.size, i.bytes)) = some (some z, s, b)) : ∃ i, P.info? t = some i ∧ i.zero = some z ∧ i.size = s ∧ i.bytes = b := by
  cases hi : P.info? t with
  | none => simp [hi] at h
  | some i => simp [hi] at h; exact ⟨i, rfl, h.1, h.2.1, h.2.2⟩
theorem underCs : Tryz.prog.underlying 99 = some (.slice 103) := by kernel_rfl
theorem lvl_log {a E : Nat} (h : a = 0) : lvl a E = Nat.log2 (E - a) := by unfold lvl; rw [if_pos h]
theorem lvl_min {a E : Nat} (h : a ≠ 0) : lvl a E = min (Nat.log2 (E - a)) (Lib.ctz 64 a) := by unfold lvl; rw [if_neg h]
theorem own_keepC {w w' : World} {base : Nat} {e : TypeId} {size : Nat} {v : Value} {n : Nat} {xs : List Value} (h : w.ownsRow base e size v n xs) (k : ∀ j, v.ownBlock = some j → w'.heap[j]? = w.heap[j]?) : w'.ownsRow base e size v n xs := by
  refine ⟨h.1, ?_⟩
  rcases h.2 with hn | ⟨g, cap, cur, rfl, hb, hg, rest⟩
  · exact .inl hn
  · exact .inr ⟨g, cap, cur, rfl, hb, (k g rfl).trans hg, rest⟩
theorem own_monoC {w : World} {base base' : Nat} {e : TypeId} {size : Nat} {v : Value} {n : Nat} {xs : List Value} (h : w.ownsRow base e size v n xs) (hb : base' ≤ base) : w.ownsRow base' e size v n xs := by
  refine ⟨h.1, ?_⟩
  rcases h.2 with hn | ⟨g, cap, cur, rfl, hg, rest⟩
  · exact .inl hn
  · exact .inr ⟨g, cap, cur, rfl, Nat.le_trans hb hg, rest⟩
theorem own_ltC {w : World} {base : Nat} {e : TypeId} {size : Nat} {v : Value} {n : Nat} {xs : List Value} (h : w.ownsRow base e size v n xs) (j : Nat) (hj : v.ownBlock = some j) : base ≤ j ∧ j < w.heap.size := by
  rcases h.2 with ⟨rfl, _⟩ | ⟨g, cap, cur, rfl, hb, hg, rest⟩
  · cases hj
  · obtain rfl : g = j := by simpa [Value.ownBlock] using hj
    exact ⟨hb, (Array.getElem?_eq_some_iff.1 hg).1⟩
theorem own_belowC {w w' : World} {base : Nat} {e : TypeId} {size : Nat} {v : Value} {n : Nat} {xs : List Value} (h : w.ownsRow base e size v n xs) (k : Below w.heap.size w w') : w'.ownsRow base e size v n xs :=
  own_keepC h fun j hj => k.block j (own_ltC h j hj).2
/-- what Cover hands back -/
structure CoverR (W w' : World) (v : Value) (l : List (Nat × Nat)) : Prop where
  own : w'.ownsRow W.heap.size 103 2 v l.length (ccells l)
  below : Below W.heap.size W w'
set_option maxHeartbeats 3200000 in
theorem cover_any (w : World) (B E : Nat) (hBE : B ≤ E) (hE : E ≤ 2 ^ 63) (hT : TabZ w) (hg : 4 < w.heap.size) :
    Calls Tryz.prog 82 #[sv B E] w fun e w' => ∃ v, e = .returned (.tuple #[v, .nilIface]) ∧ CoverR w w' v (coverN B E) := by
  have k0 := below_new w (.cells #[.int .u64 (B : Int), .int .u64 (E : Int)] 54)
  have h0 := heap_alloc_new w (.cells #[.int .u64 (B : Int), .int .u64 (E : Int)] 54)
  obtain ⟨a1, a2, a3, a4⟩ := two_cells h0
  have K0 := Bx.mk k0; have H0 := Bx.mk h0; have HT := Bx.mk hT; have HG := Bx.mk hg
  clear k0 h0 hT hg
  obtain ⟨i0, hi, hz0, hz1, hz2⟩ := info_parts infoC
  have HI := Bx.mk hi; have HZ := Bx.mk hz0
  clear hi hz0
  have hd1 : decide (E < B) = false := decide_eq_false (by omega)
  have hd2 : decide ((9223372036854775808 : Int) < (E : Int)) = false := decide_eq_false (by omega)
  unfold sv
  go_enter Tryz.func82, Tryz.ntmps82
  go_wp2_with fail
  go_loopg [4, 5] (E - B) (fun k v at' wr => ∃ (a : Nat) (cs : List (Nat × Nat)), k = E - a ∧ a ≤ E ∧ at' = .int .u64 (a : Int) ∧ cs ++ coverN a E = coverN B E ∧ wr.ownsRow (w.heap.size + 1) 103 2 v cs.length (ccells cs) ∧ Below (w.heap.size + 1) (w.alloc (.cells #[.int .u64 (B : Int), .int .u64 (E : Int)] 54)) wr)
  case atStart => exact ⟨B, [], rfl, hBE, rfl, rfl, World.ownsRow_nil _ _ _ _, Below.refl _ _⟩
  case round =>
    obtain ⟨a, cs, hk, ha, rfl, hcs, hown, hb⟩ := hrel
    have HK := Bx.mk hk; have HC := Bx.mk hcs; have HO := Bx.mk hown; have HB := Bx.mk hb
    have c1 := (hb.cell (p := ⟨w.heap.size, 0, none⟩) (by simp)).trans a1
    have c2 := (hb.cell (p := ⟨w.heap.size, 1, none⟩) (by simp)).trans a2
    have tz := HT.out.below HG.out (K0.out.trans (hb.mono (by omega)))
    have TZ := Bx.mk tz
    clear hk hcs hown hb tz a1 a2 a3 a4
    by_cases hlt : a < E
    · have e1 : IntKind.u64.wrap ((E : Int) - (a : Int)) = ((E - a : Nat) : Int) := sub_nat (by omega) (by omega)
      have hl := len_any (E - a) wr (by omega)
      have hlog : Nat.log2 (E - a) < 64 := (Nat.log2_lt (by omega)).2 (by omega)
      rw [bitLen_log (by omega) (by omega)] at hl
      have e2 : (((Nat.log2 (E - a) + 1 : Nat) : Int) - 1) = (Nat.log2 (E - a) : Int) := by omega
      have HL := Bx.mk hl; clear hl
      go_wp2_with fail
      refine HL.out.mono ?_
      rintro e w1 ⟨rfl, hw1⟩
      obtain rfl := hw1.symm
      go_upto_if 31 with (fail)
      go_cut [6] (fun v wc => v = .int .i64 (lvl a E : Int) ∧ wc = wr)
      case first =>
        by_cases h0 : a = 0
        · have hlv := lvl_log (E := E) h0
          have h0' : ¬ (0 : Int) < (a : Int) := by omega
          clear h0
          go_wp2_with fail
          go_meet
          case rel => exact ⟨by rw [hlv], rfl⟩
        · have hlv := lvl_min (E := E) h0
          have HLV := Bx.mk hlv; clear hlv
          have h0' : (0 : Int) < (a : Int) := by omega
          have htz := tz_any a wr (by omega) TZ.out
          have HTZ := Bx.mk htz; clear htz h0
          go_wp2_with fail
          refine HTZ.out.mono ?_
          rintro e w1 ⟨rfl, hw1⟩
          obtain rfl := hw1.symm
          go_wp2_with fail
          go_meet
          case rel => exact ⟨by rw [HLV.out]; simp; omega, rfl⟩
      case rest =>
      obtain ⟨rfl, rfl⟩ := hcut
      obtain ⟨l1, l2, l3, _⟩ := lvl_spec hlt hE
      generalize hlv : lvl a E = k at l1 l2 l3 ⊢
      have HLV := Bx.mk hlv; clear hlv
      have hlen : cs.length + 1 ≤ 128 := by
        have h1 := cover_le (b := B) hE
        rw [← HC.out, coverN_cons hlt, List.length_append, List.length_cons] at h1
        omega
      have L2 := Bx.mk l2; clear l2
      have hpk : 2 ^ k ≤ 2 ^ 63 := Nat.pow_le_pow_right (by decide) l1
      have e4 : IntKind.u64.wrap ((2 : Int) ^ k) = (2 : Int) ^ k := (wrap_nat (n := 2 ^ k) (by simp) (by omega)).trans (by simp)
      have e5 : IntKind.u64.wrap ((a : Int) + (2 : Int) ^ k) = (a : Int) + (2 : Int) ^ k := (wrap_nat (n := a + 2 ^ k) (by simp) (by omega)).trans (by simp)
      go_wp2_with ((at_builtin; refine wpList_append_own _ rfl _ _ 99 rfl (w.heap.size + 1) 103 i0 (.agg #[.int .u8 0, .int .u64 0]) 2 16 underCs HI.out HZ.out hz1 hz2 rfl (by decide) _ _ _ rfl (own_belowC HO.out (below_new _ _)) ⟨wc.heap.size, 0, none⟩ 1 1 [.int .u8 (k : Int), .int .u64 ((a : Int) / 2 ^ k)] rfl rfl ?c1 ?c2 ?c3 ?c4 ?c5 ?_))
      case c1 =>
        intro j u hj
        match j, hj with
        | 0, hj => simp at hj; subst hj; simp [Addr.add]
        | 1, hj => simp at hj; subst hj; simp [Addr.add]
      case c2 => intro u hu; simp at hu; rcases hu with rfl | rfl <;> rfl
      case c3 => unfold maxLen; omega
      case c4 => omega
      case c5 => have := HB.out.size; simp at this ⊢; omega
      intro v' w2 hown' hgrow _
      have HO' := Bx.mk hown'; have HG' := Bx.mk hgrow
      clear hown' hgrow
      go_wp2_with fail
      go_roundg (E - (a + 2 ^ k))
      case measure => have := HK.out; have := Nat.two_pow_pos k; omega
      case rel =>
        have hs := HB.out.size
        have hs' : (w.alloc (.cells #[.int .u64 (B : Int), .int .u64 (E : Int)] 54)).heap.size = w.heap.size + 1 := by simp
        rw [hs'] at hs
        refine ⟨a + 2 ^ k, cs ++ [(k, a / 2 ^ k)], rfl, l3, by simp, ?_, ?_, ?_⟩
        · rw [List.append_assoc, ← HC.out, coverN_cons hlt, HLV.out]; rfl
        · rw [ccells_append, List.length_append, show ccells [(k, a / 2 ^ k)] = [.int .u8 (k : Int), .int .u64 ((a : Int) / 2 ^ k)] by rw [div_pow_nat]; rfl]
          exact HO'.out
        · refine (HB.out.alloc hs _).grown HG'.out (by simp; omega) (fun j hj => (own_ltC HO.out j hj).1)
    · obtain rfl : a = E := by omega
      go_wp2_with fail
      have hn : coverN a a = [] := coverN_nil (by omega)
      have hcs := HC.out
      rw [hn, List.append_nil] at hcs
      subst hcs
      go_ret2
      exact ⟨_, rfl, ⟨own_monoC HO.out (Nat.le_succ _), K0.out.trans (HB.out.mono (Nat.le_succ _))⟩⟩
end Go.Proofs.YtgbafjmklefoiaaGreatDoor
end
