/- onetime.read: a message's digits. -/
import Derived.Test.YtohifpomdanmkaaGreatDoorG5
import Derived.Test.YtohifpomdanmkaaGreatDoorG6
namespace Go.Proofs.YtohifpomdanmkaaGreatDoor
set_option maxRecDepth 100000
open Go.RowKit
/-- a digit of four bits -/
def dg (m : List UInt8) (i : Nat) : Nat := (m.getD (i / 2) 0).toNat / 16 ^ (1 - i % 2) % 16
theorem dg_lt (m : List UInt8) (i : Nat) : dg m i < 16 := Nat.mod_lt _ (by decide)
/-- what the first digits lack -/
def dlack (m : List UInt8) : Nat → Nat
  | 0 => 0
  | n + 1 => dlack m n + (15 - dg m n)
theorem dlack_le (m : List UInt8) : ∀ n, dlack m n ≤ 15 * n
  | 0 => Nat.le_refl _
  | n + 1 => by have := dlack_le m n; unfold dlack; omega
/-- all digits -/
def dall (m : List UInt8) (i : Nat) : Nat := if i < 64 then dg m i else dlack m 64 / 16 ^ (66 - i) % 16
def dcells (f : Nat → Nat) : Array Value := ((List.range 67).map fun i => Value.int .i64 (f i : Int)).toArray
theorem dcells_size (f : Nat → Nat) : (dcells f).size = 67 := by simp [dcells]
theorem dcells_get (f : Nat → Nat) (i : Nat) (h : i < 67) : (dcells f)[i]? = some (.int .i64 (f i : Int)) := by simp [dcells, h]
theorem dcells_set (f : Nat → Nat) (i v : Nat) : (dcells f).setIfInBounds i (.int .i64 (v : Int)) = dcells (fun j => if j = i then v else f j) := by
  apply Array.ext
  · simp [dcells]
  · intro j h1 h2
    rw [dcells_size] at h2
    apply Option.some.inj
    rw [← Array.getElem?_eq_getElem, ← Array.getElem?_eq_getElem, dcells_get _ _ h2, Array.getElem?_setIfInBounds]
    by_cases hij : i = j
    · subst hij; simp [dcells_size, h2]
    · rw [if_neg hij, dcells_get _ _ h2, if_neg (Ne.symm hij)]
theorem dcells_congr {f g : Nat → Nat} (h : ∀ i, i < 67 → f i = g i) : dcells f = dcells g := by
  unfold dcells
  congr 1
  apply List.map_congr_left
  intro i hi
  rw [h i (List.mem_range.1 hi)]
/-- the digits behind so many rounds of the second loop -/
def dpart (m : List UInt8) (t : Nat) (j : Nat) : Nat := if j < 64 then dg m j else if 66 - j < t then dlack m 64 / 16 ^ (66 - j) % 16 else 0
theorem dpart_step (m : List UInt8) (t : Nat) (ht : t < 3) (j : Nat) (hj : j < 67) : (if j = 66 - t then dlack m 64 / 16 ^ t % 16 else dpart m t j) = dpart m (t + 1) j := by
  unfold dpart
  by_cases h : j = 66 - t
  · subst h
    rw [if_pos rfl, if_neg (by omega), if_pos (by omega), show 66 - (66 - t) = t by omega]
  · rw [if_neg h]
    by_cases h1 : j < 64
    · rw [if_pos h1, if_pos h1]
    · rw [if_neg h1, if_neg h1]
      by_cases h2 : 66 - j < t
      · rw [if_pos h2, if_pos (by omega)]
      · rw [if_neg h2, if_neg (by omega)]
theorem and15 (x : Nat) (h : x < 9223372036854775808) : bits .and .i64 (x : Int) 15 = ((x % 16 : Nat) : Int) := by
  show IntKind.i64.wrap (((BitVec.ofInt 64 (x : Int)) &&& (BitVec.ofInt 64 15)).toNat : Int) = _
  have e1 : (BitVec.ofInt 64 (x : Int)).toNat = x := by rw [BitVec.toNat_ofInt]; omega
  have e2 : (BitVec.ofInt 64 15).toNat = 2 ^ 4 - 1 := by decide
  rw [BitVec.toNat_and, e1, e2, Nat.and_two_pow_sub_one_eq_mod]
  simp [IntKind.wrap, IntKind.bits, IntKind.signed]
  omega
theorem size55 (f : Nat → Nat) : (Tryz.prog.info? 54).map (·.size) = some (dcells f).size := by rw [dcells_size]; kernel_rfl
theorem dcells_one (f : Nat → Nat) : (dcells f).all (·.oneCell') = true := by
  rw [Array.all_eq_true_iff_forall_mem]
  intro v hv
  simp only [dcells, List.mem_toArray, List.mem_map] at hv
  obtain ⟨i, _, rfl⟩ := hv
  rfl
set_option maxHeartbeats 1600000 in
theorem read_any (w : World) (m : List UInt8) (hm : m.length = 32) :
    Calls Tryz.prog 14 #[hv m] w fun e w' => e = .returned (.agg (dcells (dall m))) ∧ Below w.heap.size w w' := by
  have x0 := ((HashAt.new w m hm).below (er_al (Below.refl _ _) (.cells (dcells fun _ => 0) 54))).below (er_al (Below.refl _ _) (.cells (dcells fun _ => 0) 54))
  have kb : Below w.heap.size w (((w.alloc (.cells (ocells m) 23)).alloc (.cells (dcells fun _ => 0) 54)).alloc (.cells (dcells fun _ => 0) 54)) := er_al (er_al (er_al (Below.refl _ _) _) _) _
  have x2 : (((w.alloc (.cells (ocells m) 23)).alloc (.cells (dcells fun _ => 0) 54)).alloc (.cells (dcells fun _ => 0) 54)).heap[w.heap.size + 1]? = some (.cells (dcells fun _ => 0) 54 (0, 0)) := by
    rw [Below.heap_alloc _ _ _ (by simp)]; simpa using heap_alloc_new (w.alloc (.cells (ocells m) 23)) (.cells (dcells fun _ => 0) 54)
  have x3 : (((w.alloc (.cells (ocells m) 23)).alloc (.cells (dcells fun _ => 0) 54)).alloc (.cells (dcells fun _ => 0) 54)).heap[w.heap.size + 2]? = some (.cells (dcells fun _ => 0) 54 (0, 0)) := by
    simpa using heap_alloc_new ((w.alloc (.cells (ocells m) 23)).alloc (.cells (dcells fun _ => 0) 54)) (.cells (dcells fun _ => 0) 54)
  have ML := Bx.mk hm
  clear hm
  unfold hv
  go_enter Tryz.func14, Tryz.ntmps14
  go_upto_region 2 with (fail)
  change Code.wp _ _ _ _ (((w.alloc (.cells (ocells m) 23)).alloc (.cells (dcells fun _ => 0) 54)).alloc (.cells (dcells fun _ => 0) 54))
  generalize ((w.alloc (.cells (ocells m) 23)).alloc (.cells (dcells fun _ => 0) 54)).alloc (.cells (dcells fun _ => 0) 54) = W at x0 kb x2 x3 ⊢
  obtain ⟨N, hN⟩ : ∃ N, N = w.heap.size := ⟨_, rfl⟩
  rw [← hN] at x0 kb x2 x3 ⊢
  have X0 := Bx.mk x0; have X2 := Bx.mk x2; have X3 := Bx.mk x3; have KB := Bx.mk kb; have HN := Bx.mk hN
  clear x0 x2 x3 kb hN
  go_wp2_with fail
  go_loopw [4, 5, 7] (fun sv _ iv wr => ∃ t : Nat, t ≤ 64 ∧ iv = .int .i64 (t : Int) ∧ sv = .int .i64 (dlack m t : Int) ∧ wr.heap[N + 2]? = some (.cells (dcells fun j => if j < t then dg m j else 0) 54 (0, 0)) ∧ wr.heap[N + 1]? = some (.cells (dcells fun _ => 0) 54 (0, 0)) ∧ HashAt wr N m ∧ Below N w wr) (fun _ _ iv _ => 64 - (intOf iv).toNat)
  case atStart => exact ⟨0, by decide, rfl, rfl, by rw [show (fun j => if j < 0 then dg m j else 0) = (fun _ => 0) from funext fun j => by simp]; exact X3.out, X2.out, X0.out, KB.out⟩
  case round =>
    obtain ⟨t, ht, rfl, rfl, h3, h2, h0, hb⟩ := hrel
    have H3 := Bx.mk h3; have H2 := Bx.mk h2; have H0 := Bx.mk h0; have BB := Bx.mk hb
    have hle := dlack_le m t
    have hdl := dg_lt m t
    have hrt := h3
    clear h3 h2 h0 hb X0 X2 X3 KB
    by_cases hlt : t < 64
    · have hq : (t : Int).tdiv 2 = ((t / 2 : Nat) : Int) := by rw [Int.tdiv_eq_ediv_of_nonneg (by omega)]; omega
      have hqb : t / 2 < 32 := by omega
      have hcell := H0.out.cell (t / 2) ((m.getD (t / 2) 0).toNat : Int) (by
        have : t / 2 < m.length := by rw [ML.out]; omega
        simp [ocells, bcells, bcell, this])
      have hdg : dg m t = (m.getD (t / 2) 0).toNat / 16 ^ (1 - t % 2) % 16 := rfl
      have hbl : (m.getD (t / 2) 0).toNat < 256 := (m.getD (t / 2) 0).toNat_lt
      generalize (m.getD (t / 2) 0).toNat = c at hcell hdg hbl
      have hsnoc : dlack m (t + 1) = dlack m t + (15 - dg m t) := rfl
      generalize t / 2 = q at hq hqb hcell
      generalize hdd : dg m t = d at *
      have HDG := Bx.mk hdg; have HDD := Bx.mk hdd; have HSN := Bx.mk hsnoc
      clear hdg hsnoc hdd
      rcases Nat.mod_two_eq_zero_or_one t with hr | hr
      · have hm : (t : Int).tmod 2 = 0 := by rw [Int.tmod_eq_emod_of_nonneg (by omega)]; omega
        have hdv := HDG.out
        rw [hr] at hdv
        have e : ((c : Int) / 16 % 16) = (d : Int) := by simp at hdv; omega
        have hc3 := er_cellAt hrt t (.int .i64 0) (by rw [dcells_get _ _ (by omega), if_neg (by omega)]; rfl)
        have hf3 := er_frozen hrt t
        have hlt2 := (Array.getElem?_eq_some_iff.1 hrt).1
        clear hdv hr
        go_upto_region 7 with (fail)
        rw [e]
        have h3' : (wr.setCell ⟨N + 2, t, none⟩ (.int .i64 (d : Int))).heap[N + 2]? = some (.cells (dcells fun j => if j < t + 1 then dg m j else 0) 54 (0, 0)) := by
          have : (wr.setCell ⟨N + 2, t, none⟩ (.int .i64 (d : Int))).heap[N + 2]? = some (.cells ((dcells fun j => if j < t then dg m j else 0).setIfInBounds t (.int .i64 (d : Int))) 54 (0, 0)) := by
            simp [World.setCell, Array.getElem?_modify, H3.out]
          rw [this, dcells_set, dcells_congr (g := fun j => if j < t + 1 then dg m j else 0) (fun j _ => ?_)]
          by_cases hj : j = t
          · subst hj; simp [HDD.out]
          · rw [if_neg hj]
            by_cases hj2 : j < t
            · rw [if_pos hj2, if_pos (by omega)]
            · rw [if_neg hj2, if_neg (by omega)]
        have h2' : (wr.setCell ⟨N + 2, t, none⟩ (.int .i64 (d : Int))).heap[N + 1]? = some (.cells (dcells fun _ => 0) 54 (0, 0)) := (Below.heap_setCell _ _ _ _ (show N + 1 ≠ N + 2 by omega)).trans H2.out
        have h0' : HashAt (wr.setCell ⟨N + 2, t, none⟩ (.int .i64 (d : Int))) N m := ⟨(Below.heap_setCell _ _ _ _ (show N ≠ N + 2 by omega)).trans H0.out.1, ML.out⟩
        have hb' : Below N w (wr.setCell ⟨N + 2, t, none⟩ (.int .i64 (d : Int))) := BB.out.setCell (show N ≤ N + 2 by omega) _
        clear hc3 hf3
        generalize wr.setCell ⟨N + 2, t, none⟩ (.int .i64 (d : Int)) = wv at h3' h2' h0' hb' ⊢
        have hc4 := er_cellAt h3' t (.int .i64 (d : Int)) (by rw [dcells_get _ _ (by omega), if_pos (by omega), HDD.out])
        have H3' := Bx.mk h3'; have H2' := Bx.mk h2'; have H0' := Bx.mk h0'; have BB' := Bx.mk hb'
        clear h3' h2' h0' hb' hrt e
        go_wp2_with fail
        go_roundw
        case rel => exact ⟨t + 1, by omega, by go_num, by rw [HSN.out]; congr 1; omega, H3'.out, H2'.out, H0'.out, BB'.out⟩
        case measure => simp [intOf]; omega
      · have hm : (t : Int).tmod 2 = 1 := by rw [Int.tmod_eq_emod_of_nonneg (by omega)]; omega
        have hdv := HDG.out
        rw [hr] at hdv
        have e : ((c : Int) % 16) = (d : Int) := by simp at hdv; omega
        have hc3 := er_cellAt hrt t (.int .i64 0) (by rw [dcells_get _ _ (by omega), if_neg (by omega)]; rfl)
        have hf3 := er_frozen hrt t
        have hlt2 := (Array.getElem?_eq_some_iff.1 hrt).1
        clear hdv hr
        go_upto_region 7 with (fail)
        rw [e]
        have h3' : (wr.setCell ⟨N + 2, t, none⟩ (.int .i64 (d : Int))).heap[N + 2]? = some (.cells (dcells fun j => if j < t + 1 then dg m j else 0) 54 (0, 0)) := by
          have : (wr.setCell ⟨N + 2, t, none⟩ (.int .i64 (d : Int))).heap[N + 2]? = some (.cells ((dcells fun j => if j < t then dg m j else 0).setIfInBounds t (.int .i64 (d : Int))) 54 (0, 0)) := by
            simp [World.setCell, Array.getElem?_modify, H3.out]
          rw [this, dcells_set, dcells_congr (g := fun j => if j < t + 1 then dg m j else 0) (fun j _ => ?_)]
          by_cases hj : j = t
          · subst hj; simp [HDD.out]
          · rw [if_neg hj]
            by_cases hj2 : j < t
            · rw [if_pos hj2, if_pos (by omega)]
            · rw [if_neg hj2, if_neg (by omega)]
        have h2' : (wr.setCell ⟨N + 2, t, none⟩ (.int .i64 (d : Int))).heap[N + 1]? = some (.cells (dcells fun _ => 0) 54 (0, 0)) := (Below.heap_setCell _ _ _ _ (show N + 1 ≠ N + 2 by omega)).trans H2.out
        have h0' : HashAt (wr.setCell ⟨N + 2, t, none⟩ (.int .i64 (d : Int))) N m := ⟨(Below.heap_setCell _ _ _ _ (show N ≠ N + 2 by omega)).trans H0.out.1, ML.out⟩
        have hb' : Below N w (wr.setCell ⟨N + 2, t, none⟩ (.int .i64 (d : Int))) := BB.out.setCell (show N ≤ N + 2 by omega) _
        clear hc3 hf3
        generalize wr.setCell ⟨N + 2, t, none⟩ (.int .i64 (d : Int)) = wv at h3' h2' h0' hb' ⊢
        have hc4 := er_cellAt h3' t (.int .i64 (d : Int)) (by rw [dcells_get _ _ (by omega), if_pos (by omega), HDD.out])
        have H3' := Bx.mk h3'; have H2' := Bx.mk h2'; have H0' := Bx.mk h0'; have BB' := Bx.mk hb'
        clear h3' h2' h0' hb' hrt e
        go_wp2_with fail
        go_roundw
        case rel => exact ⟨t + 1, by omega, by go_num, by rw [HSN.out]; congr 1; omega, H3'.out, H2'.out, H0'.out, BB'.out⟩
        case measure => simp [intOf]; omega
    · obtain rfl : t = 64 := by omega
      have hs := dlack_le m 64
      have HH3 := Bx.mk (show wr.heap[N + 2]? = some (.cells (dcells (dpart m 0)) 54 (0, 0)) by
        rw [H3.out]
        rw [dcells_congr (g := dpart m 0) fun j _ => by
          unfold dpart
          by_cases h : j < 64
          · rw [if_pos h, if_pos h]
          · rw [if_neg h, if_neg h, if_neg (by omega)]])
      generalize hS : dlack m 64 = Sm at *
      have HS := Bx.mk hS
      clear hS hrt hdl hlt ht hle H3
      go_wp2_with fail
      go_loopw [6, 30] (fun _ iv wz => ∃ t : Nat, t ≤ 3 ∧ iv = .int .i64 (t : Int) ∧ wz.heap[N + 2]? = some (.cells (dcells (dpart m t)) 54 (0, 0)) ∧ wz.heap[N + 1]? = some (.cells (dcells fun _ => 0) 54 (0, 0)) ∧ Below N w wz) (fun _ iv _ => 3 - (intOf iv).toNat)
      case atStart => exact ⟨0, by decide, rfl, HH3.out, H2.out, BB.out⟩
      case round =>
        obtain ⟨t, ht, rfl, h3, h2, hb⟩ := hrel
        have H3 := Bx.mk h3; have H2' := Bx.mk h2; have BB' := Bx.mk hb
        have hrt := h3
        clear h3 h2 hb HH3 H2 BB H0
        by_cases hlt : t < 3
        · rcases (show t = 0 ∨ t = 1 ∨ t = 2 by omega) with rfl | rfl | rfl
          · have hc3 := er_cellAt hrt 66 (.int .i64 (dpart m 0 66 : Int)) (by rw [dcells_get _ _ (by decide)])
            have hf3 := er_frozen hrt 66
            have e : bits BinOp.and IntKind.i64 (Sm : Int) 15 = ((Sm / 16 ^ 0 % 16 : Nat) : Int) := by rw [and15 Sm (by omega)]; simp
            clear hrt hlt ht
            go_upto_region 13 with (fail)
            have e' : ((Sm : Int) % 16) = ((Sm / 16 ^ 0 % 16 : Nat) : Int) := by simp
            rw [e']
            have h3' : (wr.setCell ⟨N + 2, 66, none⟩ (.int .i64 ((Sm / 16 ^ 0 % 16 : Nat) : Int))).heap[N + 2]? = some (.cells (dcells (dpart m 1)) 54 (0, 0)) := by
              have : (wr.setCell ⟨N + 2, 66, none⟩ (.int .i64 ((Sm / 16 ^ 0 % 16 : Nat) : Int))).heap[N + 2]? = some (.cells ((dcells (dpart m 0)).setIfInBounds 66 (.int .i64 ((Sm / 16 ^ 0 % 16 : Nat) : Int))) 54 (0, 0)) := by
                simp [World.setCell, Array.getElem?_modify, H3.out]
              rw [this, dcells_set, dcells_congr (g := dpart m 1) (fun j hj => by rw [← HS.out]; exact dpart_step m 0 (by decide) j hj)]
            have h2' : (wr.setCell ⟨N + 2, 66, none⟩ (.int .i64 ((Sm / 16 ^ 0 % 16 : Nat) : Int))).heap[N + 1]? = some (.cells (dcells fun _ => 0) 54 (0, 0)) := (Below.heap_setCell _ _ _ _ (show N + 1 ≠ N + 2 by omega)).trans H2'.out
            have hb' : Below N w (wr.setCell ⟨N + 2, 66, none⟩ (.int .i64 ((Sm / 16 ^ 0 % 16 : Nat) : Int))) := BB'.out.setCell (show N ≤ N + 2 by omega) _
            clear hc3 hf3 e e'
            generalize wr.setCell ⟨N + 2, 66, none⟩ (.int .i64 ((Sm / 16 ^ 0 % 16 : Nat) : Int)) = wv at h3' h2' hb' ⊢
            have Z3 := Bx.mk h3'; have Z2 := Bx.mk h2'; have ZB := Bx.mk hb'
            clear h3' h2' hb'
            go_wp2_with fail
            go_roundw
            case rel => exact ⟨1, by decide, by rfl, Z3.out, Z2.out, ZB.out⟩
            case measure => simp [intOf]
          · have hc3 := er_cellAt hrt 65 (.int .i64 (dpart m 1 65 : Int)) (by rw [dcells_get _ _ (by decide)])
            have hf3 := er_frozen hrt 65
            have e : bits BinOp.and IntKind.i64 ((Sm : Int) / 16) 15 = ((Sm / 16 ^ 1 % 16 : Nat) : Int) := by rw [show (Sm : Int) / 16 = ((Sm / 16 : Nat) : Int) by omega, and15 (Sm / 16) (by omega)]
            clear hrt hlt ht
            go_upto_region 13 with (fail)
            have e' : ((Sm : Int) / 16 % 16) = ((Sm / 16 ^ 1 % 16 : Nat) : Int) := by simp
            rw [e']
            have h3' : (wr.setCell ⟨N + 2, 65, none⟩ (.int .i64 ((Sm / 16 ^ 1 % 16 : Nat) : Int))).heap[N + 2]? = some (.cells (dcells (dpart m 2)) 54 (0, 0)) := by
              have : (wr.setCell ⟨N + 2, 65, none⟩ (.int .i64 ((Sm / 16 ^ 1 % 16 : Nat) : Int))).heap[N + 2]? = some (.cells ((dcells (dpart m 1)).setIfInBounds 65 (.int .i64 ((Sm / 16 ^ 1 % 16 : Nat) : Int))) 54 (0, 0)) := by
                simp [World.setCell, Array.getElem?_modify, H3.out]
              rw [this, dcells_set, dcells_congr (g := dpart m 2) (fun j hj => by rw [← HS.out]; exact dpart_step m 1 (by decide) j hj)]
            have h2' : (wr.setCell ⟨N + 2, 65, none⟩ (.int .i64 ((Sm / 16 ^ 1 % 16 : Nat) : Int))).heap[N + 1]? = some (.cells (dcells fun _ => 0) 54 (0, 0)) := (Below.heap_setCell _ _ _ _ (show N + 1 ≠ N + 2 by omega)).trans H2'.out
            have hb' : Below N w (wr.setCell ⟨N + 2, 65, none⟩ (.int .i64 ((Sm / 16 ^ 1 % 16 : Nat) : Int))) := BB'.out.setCell (show N ≤ N + 2 by omega) _
            clear hc3 hf3 e e'
            generalize wr.setCell ⟨N + 2, 65, none⟩ (.int .i64 ((Sm / 16 ^ 1 % 16 : Nat) : Int)) = wv at h3' h2' hb' ⊢
            have Z3 := Bx.mk h3'; have Z2 := Bx.mk h2'; have ZB := Bx.mk hb'
            clear h3' h2' hb'
            go_wp2_with fail
            go_roundw
            case rel => exact ⟨2, by decide, by rfl, Z3.out, Z2.out, ZB.out⟩
            case measure => simp [intOf]
          · have hc3 := er_cellAt hrt 64 (.int .i64 (dpart m 2 64 : Int)) (by rw [dcells_get _ _ (by decide)])
            have hf3 := er_frozen hrt 64
            have e : bits BinOp.and IntKind.i64 ((Sm : Int) / 256) 15 = ((Sm / 16 ^ 2 % 16 : Nat) : Int) := by rw [show (Sm : Int) / 256 = ((Sm / 256 : Nat) : Int) by omega, and15 (Sm / 256) (by omega)]
            clear hrt hlt ht
            go_upto_region 13 with (fail)
            have e' : ((Sm : Int) / 256 % 16) = ((Sm / 16 ^ 2 % 16 : Nat) : Int) := by simp
            rw [e']
            have h3' : (wr.setCell ⟨N + 2, 64, none⟩ (.int .i64 ((Sm / 16 ^ 2 % 16 : Nat) : Int))).heap[N + 2]? = some (.cells (dcells (dpart m 3)) 54 (0, 0)) := by
              have : (wr.setCell ⟨N + 2, 64, none⟩ (.int .i64 ((Sm / 16 ^ 2 % 16 : Nat) : Int))).heap[N + 2]? = some (.cells ((dcells (dpart m 2)).setIfInBounds 64 (.int .i64 ((Sm / 16 ^ 2 % 16 : Nat) : Int))) 54 (0, 0)) := by
                simp [World.setCell, Array.getElem?_modify, H3.out]
              rw [this, dcells_set, dcells_congr (g := dpart m 3) (fun j hj => by rw [← HS.out]; exact dpart_step m 2 (by decide) j hj)]
            have h2' : (wr.setCell ⟨N + 2, 64, none⟩ (.int .i64 ((Sm / 16 ^ 2 % 16 : Nat) : Int))).heap[N + 1]? = some (.cells (dcells fun _ => 0) 54 (0, 0)) := (Below.heap_setCell _ _ _ _ (show N + 1 ≠ N + 2 by omega)).trans H2'.out
            have hb' : Below N w (wr.setCell ⟨N + 2, 64, none⟩ (.int .i64 ((Sm / 16 ^ 2 % 16 : Nat) : Int))) := BB'.out.setCell (show N ≤ N + 2 by omega) _
            clear hc3 hf3 e e'
            generalize wr.setCell ⟨N + 2, 64, none⟩ (.int .i64 ((Sm / 16 ^ 2 % 16 : Nat) : Int)) = wv at h3' h2' hb' ⊢
            have Z3 := Bx.mk h3'; have Z2 := Bx.mk h2'; have ZB := Bx.mk hb'
            clear h3' h2' hb'
            go_wp2_with fail
            go_roundw
            case rel => exact ⟨3, by decide, by rfl, Z3.out, Z2.out, ZB.out⟩
            case measure => simp [intOf]
        · obtain rfl : t = 3 := by omega
          clear hlt ht hrt
          go_wp2_with (first
            | (guard_target =~ wpList _ _ _ (⟨some 42, _, _, _, _, _⟩ :: _) _ _; refine wpList_load_row rfl 54 (.tmp 3) rfl (N + 2) rfl _ _ _ _ H3.out Tryz.underlying54 rfl (size55 _) ?_)
            | (guard_target =~ wpList _ _ _ (⟨none, _, _, _, _, _⟩ :: _) _ _; refine wpList_store_row rfl 54 (.tmp 2) (.tmp 42) rfl (N + 1) (dcells (dpart m 3)) rfl rfl _ _ H2'.out (size55 _) (by rw [dcells_size, dcells_size]) (dcells_one _) ?_))
          exact bodyPost_ret (results_cell_row rfl _ _ (N + 1) _ (dcells (dpart m 3)) _ _ rfl (setRow_heap _ _ _ _ _ _ H2'.out) Tryz.underlying54 rfl (size55 _)) rfl ⟨by
            rw [dcells_congr (g := dall m) fun j hj => by
              unfold dpart dall
              by_cases h : j < 64
              · rw [if_pos h, if_pos h]
              · rw [if_neg h, if_neg h, if_pos (by omega)]], HN.out ▸ below_setRow BB'.out (Nat.le_succ _) _⟩
end Go.Proofs.YtohifpomdanmkaaGreatDoor
