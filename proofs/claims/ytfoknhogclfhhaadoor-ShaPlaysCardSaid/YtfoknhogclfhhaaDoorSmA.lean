/- cartularylaw01.TextsSize, cartularylaw04.beyond, cartularyref04.Join. -/
import Derived.Test.YtfoknhogclfhhaaDoorTwT
import Derived.Test.YtfoknhogclfhhaaDoorNone
import Derived.Laws.IdiomStrings
import Derived.Lib.AppendStr
namespace Go.Proofs.YtfoknhogclfhhaaDoor
set_option maxRecDepth 100000
open Go.RowKit
/-- bytes as a text -/
theorem str_src (w : World) (a : Option Addr) (n cap : Nat) (l : List UInt8) (h : Src w (.slice a n cap) l) : (convert 30 9 (.slice a n cap)).run Tryd.prog w = .ok (.string ⟨l.toArray⟩) w := by
  obtain ⟨a', c', e, h1, h2, h3, h4⟩ := h
  cases e
  by_cases hl : l = []
  · subst hl
    cases a with
    | none => exact run_convert_bytes_nil w 30 5 underB (by kernel_rfl) 0 cap 9 (by kernel_rfl)
    | some ad => exact run_convert_bytes_back w 30 9 5 ad cap [] underB (by kernel_rfl) (by kernel_rfl) (fun j hj => by simp at hj)
  · obtain ⟨B, off, e, _, hc⟩ := h4 hl
    subst e
    refine run_convert_bytes_back w 30 9 5 ⟨B, off, none⟩ cap l underB (by kernel_rfl) (by kernel_rfl) (fun j hj => ?_)
    have ea : (⟨B, off, none⟩ : Addr).add j = ⟨B, off + j, none⟩ := by unfold Addr.add; split <;> simp_all
    rw [ea]
    exact hc j hj
def tsz (ss : List ByteArray) : Nat := (ss.map fun s => 1 + s.size).sum
theorem tsz_take_succ (ss : List ByteArray) (t : Nat) (h : t < ss.length) : tsz (ss.take (t + 1)) = tsz (ss.take t) + (1 + ss[t].size) := by
  unfold tsz
  rw [List.take_succ_eq_append_getElem h, List.map_append, List.sum_append]
  simp
theorem tsz_take_le (ss : List ByteArray) (t : Nat) : tsz (ss.take t) ≤ tsz ss := by
  unfold tsz
  conv => rhs; rw [← List.take_append_drop t ss]
  rw [List.map_append, List.sum_append]; omega
theorem tsz_length (ss : List ByteArray) : ss.length ≤ tsz ss := by
  unfold tsz
  induction ss with
  | nil => simp
  | cons s ss ih => simp at ih ⊢; omega
theorem cat_tsz (ss : List ByteArray) : (cat ss).length + ss.length = tsz ss := by
  unfold tsz cat
  induction ss with
  | nil => simp
  | cons s ss ih =>
    simp only [List.flatMap_cons, List.length_append, List.length_cons, List.map_cons, List.sum_cons] at ih ⊢
    have : (sb s).length = s.size := by simp [sb]
    omega
set_option maxHeartbeats 800000 in
theorem tsize_any (w : World) (v : Value) (ss : List ByteArray) (hv' : Strs w v ss) (hz : ∀ s ∈ ss, s.size ≤ 140737488351232) :
    Calls Tryd.prog 32 #[v] w fun e w' => ∃ n : Nat, e = .returned (.int .i64 (n : Int)) ∧ n < 281474976710656 ∧ (n ≤ 1048576 → n = tsz ss) ∧ (tsz ss ≤ 1048576 → n = tsz ss) ∧ w = w' := by
  obtain ⟨a0, c0, rfl, hc1, hc2, hcs⟩ := hv'
  have CS := Bx.mk hcs; have HZ := Bx.mk hz
  unfold maxLen at hc2
  clear hcs hz
  go_enter Tryd.func32, Tryd.ntmps32
  go_wp2_with fail
  go_loopw [3, 4] (fun n i wr => ∃ t : Nat, t ≤ ss.length ∧ i = .int .i64 (t : Int) ∧ n = .int .i64 (tsz (ss.take t) : Int) ∧ tsz (ss.take t) < 281474976710656 ∧ wr = w) (fun _ i _ => ss.length - (intOf i).toNat)
  case atStart => exact ⟨0, Nat.zero_le _, rfl, by simp [tsz], by simp [tsz], rfl⟩
  case round =>
    obtain ⟨t, ht, rfl, rfl, hle, rfl⟩ := hrel
    by_cases hlt : t < ss.length
    · obtain ⟨B, off, rfl, hB, hcc⟩ := CS.out (by rintro rfl; simp at hlt)
      have hcell := hcc t hlt
      have h1 := tsz_take_succ ss t hlt
      have h2 := HZ.out ss[t] (List.getElem_mem hlt)
      have h3 := tsz_take_le ss (t + 1)
      have h4 := tsz_take_le ss t
      clear hcc
      generalize hq : ss[t] = x at hcell h1 h2
      generalize hp : tsz (ss.take t) = s at h1 hle h4 ⊢
      generalize hp3 : tsz (ss.take (t + 1)) = s' at h1 h3
      have H1 := Bx.mk h1; have H3 := Bx.mk h3; have H4 := Bx.mk h4; have HP := Bx.mk hp; have HP3 := Bx.mk hp3
      clear h1 h3 h4 hq hp hp3
      have f1 : ¬ (ss.length : Int) ≤ (t : Int) := by omega
      have f2 : (t : Int) < (ss.length : Int) := by omega
      by_cases hs : s ≤ 1048576
      · have f3 : (s : Int) ≤ 1048576 := by omega
        have d1 : IntKind.i64.wrap ((s : Int) + 1) = (s : Int) + 1 := by simp [IntKind.wrap, IntKind.bits, IntKind.signed]; omega
        have d2 : IntKind.i64.wrap ((s : Int) + 1 + (x.size : Int)) = (s' : Int) := by have := H1.out; simp [IntKind.wrap, IntKind.bits, IntKind.signed]; omega
        go_wp2_with fail
        clear d1 d2
        go_roundw
        case rel => exact ⟨t + 1, hlt, by go_num, by rw [HP3.out], by rw [HP3.out]; have := H1.out; omega, trivial⟩
        case measure => simp [intOf]; omega
      · have f3 : ¬ (s : Int) ≤ 1048576 := by omega
        have f4 : decide (s ≤ 1048576) = false := decide_eq_false hs
        go_wp2_with fail
        go_ret
        exact ⟨s, rfl, hle, fun h => absurd h hs, fun h => by have := H4.out; omega, rfl⟩
    · obtain rfl : t = ss.length := by omega
      have hv : tsz (ss.take ss.length) = tsz ss := by rw [List.take_length]
      rw [hv] at hle ⊢
      clear hv
      go_wp2_with fail
      go_ret
      exact ⟨tsz ss, rfl, hle, fun _ => rfl, fun _ => rfl, rfl⟩
theorem beyond04_any (w : World) (v : Value) (ss : List ByteArray) (hv' : Strs w v ss) (hz : ∀ s ∈ ss, s.size ≤ 140737488351232) :
    Calls Tryd.prog 21 #[v] w fun e w' => ∃ b, e = .returned (.bool b) ∧ (b = false → tsz ss ≤ 1048576) ∧ Below w.heap.size w w' := by
  have ct := tsize_any w v ss hv' hz
  have CT := Bx.mk ct
  obtain ⟨a0, c0, rfl, _, _, _⟩ := hv'
  clear ct hz
  go_enter Tryd.func21, Tryd.ntmps21
  go_wp2_with fail
  refine CT.out.mono ?_
  rintro e w' ⟨n, rfl, hn1, hn2, hn3, rfl⟩
  have HN2 := Bx.mk hn2; have HN1 := Bx.mk hn1
  clear hn1 hn2 hn3 CT
  go_wp2_with fail
  have hbe := beyond_any (w.alloc (.cells #[.int .i64 (n : Int)] 3)) (.slice (some ⟨w.heap.size, 0, none⟩) 1 1) [n] (ints_one _ _ _ rfl) (by have := HN1.out; simp; omega)
  refine hbe.mono ?_
  rintro e w2 ⟨rfl, rfl⟩
  clear hbe
  have hb2 := (Below.refl w.heap.size w).alloc (Nat.le_refl _) (.cells #[.int .i64 (n : Int)] 3)
  have HB2 := Bx.mk hb2
  clear hb2
  have hd : decide (1048576 < [n].sum) = decide (1048576 < n) := decide_eq_decide.2 (by simp)
  rw [hd]
  generalize hbb : decide (1048576 < n) = b
  have HBB := Bx.mk hbb
  clear hd hbb
  go_wp2_with fail
  go_ret
  refine ⟨b, rfl, fun h => ?_, HB2.out⟩
  have h1 := HBB.out
  rw [h, decide_eq_false_iff_not] at h1
  have h2 := HN2.out (by omega)
  omega
/-- the bytes put together -/
theorem strCells_b (s : ByteArray) : Lib.strCells s = bcells (sb s) := by
  unfold Lib.strCells bcells sb
  rfl
theorem infoU8 : (Tryd.prog.info? 5).map (fun i => (i.zero, i.size, i.bytes)) = some (some (.int .u8 0), 1, 1) := by kernel_rfl
set_option maxHeartbeats 1600000 in
theorem join_any (w : World) (v : Value) (ss : List ByteArray) (hv' : Strs w v ss) (hm : tsz ss ≤ 4194304) :
    Calls Tryd.prog 23 #[v] w fun e w' => e = .returned (.string ⟨(cat ss).toArray⟩) ∧ Below w.heap.size w w' := by
  have HV := Bx.mk hv'
  obtain ⟨a0, c0, rfl, hc1, hc2, hcs⟩ := hv'
  have CS := Bx.mk hcs
  unfold maxLen at hc2
  have hcl := cat_tsz ss
  obtain ⟨i0, hi, hz0, hz1, hz2⟩ : ∃ i, Tryd.prog.info? 5 = some i ∧ i.zero = some (.int .u8 0) ∧ i.size = 1 ∧ i.bytes = 1 := by
    obtain ⟨i, h1, h2⟩ := Option.map_eq_some_iff.1 infoU8
    simp only [Prod.mk.injEq] at h2
    exact ⟨i, h1, h2.1, h2.2.1, h2.2.2⟩
  have RI := Bx.mk (And.intro hi (And.intro hz0 (And.intro hz1 hz2)))
  obtain ⟨N, hN⟩ : ∃ N, N = (cat ss).length := ⟨_, rfl⟩
  have hNb : N ≤ 4194304 := by omega
  have mk : (Instr.makeSlice 30 (.int .i64 0) (.int .i64 (N : Int))).run Tryd.prog w = .ok (.slice (some ⟨w.heap.size, 0, none⟩) 0 N) (w.alloc (.cells (madeCells #[.int .u8 0] N) 5)) := by
    have := run_make (P := Tryd.prog) w 30 5 i0 (.int .u8 0) underB hi hz0 .i64 .i64 0 (N : Int) (by decide) (by omega) (by rw [hz2]; omega) (by omega)
    rw [this, hz1, Nat.mul_one, Int.toNat_natCast]
    rfl
  have o0 : (w.alloc (.cells (madeCells #[.int .u8 0] N) 5)).ownsRow w.heap.size 5 1 (.slice (some ⟨w.heap.size, 0, none⟩) 0 N) 0 (bcells []) := ⟨rfl, .inr ⟨w.heap.size, N, _, rfl, Nat.le_refl _, heap_alloc_new _ _, Nat.zero_le _, by unfold maxLen; omega, by rw [size_madeCells, Nat.mul_one], by simp [bcells]⟩⟩
  have k0 : Below w.heap.size w (w.alloc (.cells (madeCells #[.int .u8 0] N) 5)) := (Below.refl _ _).alloc (Nat.le_refl _) _
  have MK := Bx.mk mk; have O0 := Bx.mk o0; have K0 := Bx.mk k0; have HN := Bx.mk hN
  clear hcs hi hz0 hz1 hz2 mk o0 k0 hcl hN
  go_enter Tryd.func23, Tryd.ntmps23
  go_wp2_with fail
  go_loopw [3, 4] (fun n i wr => ∃ t : Nat, t ≤ ss.length ∧ i = .int .i64 (t : Int) ∧ n = .int .i64 ((cat (ss.take t)).length : Int) ∧ wr = w) (fun _ i _ => ss.length - (intOf i).toNat)
  case atStart => exact ⟨0, Nat.zero_le _, rfl, rfl, rfl⟩
  case round =>
    obtain ⟨t, ht, rfl, rfl, rfl⟩ := hrel
    rename World => wo
    by_cases hlt : t < ss.length
    · obtain ⟨B, off, rfl, hB, hcc⟩ := CS.out (by rintro rfl; simp at hlt)
      have hcell := hcc t hlt
      have h1 : (cat (ss.take (t + 1))).length = (cat (ss.take t)).length + ss[t].size := by rw [cat_take_succ ss t hlt, List.length_append]; simp [sb]
      have h3 := cat_take_le ss (t + 1)
      rw [← HN.out] at h3
      clear hcc
      generalize hq : ss[t] = x at hcell h1
      generalize (cat (ss.take t)).length = s at h1 ⊢
      generalize hp3 : (cat (ss.take (t + 1))).length = s' at h1 h3
      have HP3 := Bx.mk hp3
      have d1 : IntKind.i64.wrap ((s : Int) + (x.size : Int)) = (s' : Int) := by simp [IntKind.wrap, IntKind.bits, IntKind.signed]; omega
      clear hq hp3 h1
      have f1 : ¬ (ss.length : Int) ≤ (t : Int) := by omega
      have f2 : (t : Int) < (ss.length : Int) := by omega
      go_wp2_with fail
      clear d1
      go_roundw
      case rel => exact ⟨t + 1, hlt, by go_num, by rw [HP3.out], trivial⟩
      case measure => simp [intOf]; omega
    · obtain rfl : t = ss.length := by omega
      have hv : (cat (ss.take ss.length)).length = N := by rw [List.take_length, HN.out]
      rw [hv]
      have mk := MK.out
      clear hv
      go_upto_region 7 with (fail)
      clear mk
      generalize hW : wo.alloc (.cells (madeCells #[.int .u8 0] N) 5) = W
      have o1 := O0.out; have k1 := K0.out
      rw [hW] at o1 k1
      obtain ⟨B, hB⟩ : ∃ B, B = wo.heap.size := ⟨_, rfl⟩
      rw [← hB] at o1 k1 ⊢
      have O1 := Bx.mk o1; have K1 := Bx.mk k1; have HB := Bx.mk hB
      clear hW o1 k1 hB O0 K0 MK
      go_wp2_with fail
      go_loopw [5, 6] (fun bv i wq => ∃ t : Nat, t ≤ ss.length ∧ i = .int .i64 (t : Int) ∧ wq.ownsRow B 5 1 bv (cat (ss.take t)).length (bcells (cat (ss.take t))) ∧ Below B wo wq) (fun _ i _ => ss.length - (intOf i).toNat)
      case atStart => exact ⟨0, Nat.zero_le _, rfl, O1.out, K1.out⟩
      case round =>
        obtain ⟨t, ht, rfl, ho, hb⟩ := hrel
        obtain ⟨a5, c5, rfl, q1, q2, q3⟩ := own_shape ho
        have HO := Bx.mk ho; have HK := Bx.mk hb
        clear ho hb q1 q2 q3 O1 K1
        by_cases hlt : t < ss.length
        · obtain ⟨B1, off, rfl, hB1, hcc⟩ := CS.out (by rintro rfl; simp at hlt)
          have hcell := (HK.out.cell (p := ⟨B1, off + t, none⟩) (by rw [HB.out]; exact hB1)).trans (hcc t hlt)
          have h1 : cat (ss.take (t + 1)) = cat (ss.take t) ++ sb ss[t] := cat_take_succ ss t hlt
          have h3 := cat_take_le ss (t + 1)
          rw [← HN.out] at h3
          clear hcc hB1
          generalize hq : ss[t] = x at hcell h1
          have hxl : (sb x).length = x.size := by simp [sb]
          have hsum : (cat (ss.take t)).length + x.size ≤ N := by rw [h1, List.length_append, hxl] at h3; exact h3
          have H1 := Bx.mk h1; have HXL := Bx.mk hxl; have HSM := Bx.mk hsum
          clear hq h1 h3 hxl hsum
          generalize hcl : (cat (ss.take t)).length = L at HO HSM ⊢
          have HCL := Bx.mk hcl
          clear hcl
          have f1 : ¬ (ss.length : Int) ≤ (t : Int) := by omega
          have f2 : (t : Int) < (ss.length : Int) := by omega
          go_wp2_with (guard_target =~ wpList _ _ _ (⟨some 33, _, _, _, _, _⟩ :: _) _ _; refine Lib.wpList_append_own_string _ rfl (.tmp 28) (.tmp 32) 30 9 rfl B 5 i0 underB (by kernel_rfl) RI.out.1 RI.out.2.1 RI.out.2.2.1 RI.out.2.2.2 (.slice a5 L c5) L (bcells (cat (ss.take t))) rfl HO.out x rfl (by have := HSM.out; unfold maxLen; omega) (by have := HSM.out; omega) (by rw [HB.out]; exact Nat.le_trans (Nat.le_refl _) HK.out.size) ?_; intro v1 w1 hown' hgrow _; have O2 := Bx.mk hown'; have G2 := Bx.mk hgrow; clear hown' hgrow)
          have o3 := O2.out
          rw [strCells_b, show bcells (cat (ss.take t)) ++ bcells (sb x) = bcells (cat (ss.take (t + 1))) by rw [H1.out]; simp [bcells], show L + x.size = (cat (ss.take (t + 1))).length by rw [H1.out, List.length_append, HXL.out, HCL.out]] at o3
          have O3 := Bx.mk o3; have K3 := Bx.mk (HK.out.grown G2.out (by rw [HB.out]; exact HK.out.size) (fun k hk => ownsRow_fresh HO.out k hk))
          clear o3 O2 G2
          go_roundw
          case rel => exact ⟨t + 1, hlt, by go_num, O3.out, K3.out⟩
          case measure => simp [intOf]; omega
        · obtain rfl : t = ss.length := by omega
          have hv : cat (ss.take ss.length) = cat ss := by rw [List.take_length]
          have ho := HO.out
          rw [hv] at ho HO ⊢
          have hsrc := ho
          have q := fun u (h : Src u (.slice a5 (cat ss).length c5) (cat ss)) => str_src u a5 _ c5 (cat ss) h
          have hS : Src wr (.slice a5 (cat ss).length c5) (cat ss) := own_to_src ho
          have q1 := q wr hS
          obtain ⟨C, hC⟩ : ∃ C, C = cat ss := ⟨_, rfl⟩
          rw [← hC] at q1 ⊢
          have KE := Bx.mk HK.out
          have HC := Bx.mk hC
          clear hv ho hsrc q hS hC
          go_wp2_with fail
          go_ret
          exact ⟨by rw [← HC.out]; rfl, by have := KE.out; rw [HB.out] at this; exact this⟩
end Go.Proofs.YtfoknhogclfhhaaDoor
