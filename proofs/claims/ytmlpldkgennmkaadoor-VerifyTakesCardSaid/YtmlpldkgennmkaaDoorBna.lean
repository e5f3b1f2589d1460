/- cartularylaw18.sides: rows of truth values. -/
import Derived.Test.YtmlpldkgennmkaaDoorVa
import Derived.Test.YtmlpldkgennmkaaDoorVs
import Derived.Test.YtmlpldkgennmkaaDoorBnP
namespace Go.Proofs.YtmlpldkgennmkaaDoor
set_option maxRecDepth 100000
open Go.RowKit
def lcells (l : List Bool) : List Value := l.map Value.bool
theorem lcells_push (l : List Bool) (b : Bool) : lcells l ++ [.bool b] = lcells (l ++ [b]) := by simp [lcells]
theorem infoBo : (Tryd.prog.info? 4).map (fun i => (i.zero, i.size, i.bytes)) = some (some (.bool false), 1, 1) := by kernel_rfl
theorem underBo : Tryd.prog.underlying 49 = some (.slice 4) := by kernel_rfl
theorem vcellsBo : Tryd.prog.cellsOf 4 = 1 := by kernel_rfl
theorem row_push {w : World} {base : Nat} {T : TypeId} {k : Nat} {v : Value} {n : Nat} {xs : List Value} (h : w.ownsRow base T k v n xs) (o : Obj) : (w.alloc o).ownsRow base T k v n xs :=
  own_keep h (Keep.alloc (fun _ => False) w o) (fun _ _ h => h)
theorem bo_src (w : World) (v : Value) (n : Nat) (hn : n = w.heap.size) :
    ∀ ad, some (⟨n, 0, none⟩ : Addr) = some ad → ∀ j x, [v][j]? = some x → (w.alloc (.cells #[v] 4)).cell? (ad.add j) = some x := by
  rintro ad had j x hj
  cases had
  subst hn
  match j, hj with
  | 0, hj => simp at hj; subst hj; simp [Addr.add]
/-- a row of one's own, read at a place -/
theorem bools_at {w : World} {base : Nat} {v : Value} {n : Nat} {l : List Bool} (h : w.ownsRow base 4 1 v n (lcells l)) (i : Nat) (hi : i < l.length) :
    ∃ g c, v = .slice (some ⟨g, 0, none⟩) n c ∧ n ≤ c ∧ g < w.heap.size ∧ w.cell? ⟨g, i, none⟩ = some (.bool l[i]) := by
  have hn : n = l.length := by have := h.1; simp [lcells] at this; omega
  subst hn
  rcases id h.2 with ⟨rfl, h0⟩ | ⟨g, cap, cur, rfl, hb, hg, h1, h2, h3, h4⟩
  · omega
  · refine ⟨g, cap, rfl, h1, (Array.getElem?_eq_some_iff.1 hg).1, ?_⟩
    rw [h.cellAt i (by omega)]
    simp [lcells, hi]
theorem hdirs_len (m : Nat) : ∀ i s, s ≤ 2 ^ m → (hdirs i s).length ≤ m := by
  induction m with
  | zero => intro i s h; rw [hdirs_small (by simpa using Nat.lt_succ_of_le h)]; exact Nat.le_refl _
  | succ m ih =>
    intro i s h
    by_cases h2 : s < 2
    · rw [hdirs_small h2]; exact Nat.zero_le _
    · have hb := half_bound (by omega) h
      have hp := half_pos (s := s) (by omega)
      by_cases hl : i < half s
      · rw [hdirs_lt (by omega) hl, List.length_append, List.length_singleton]
        have := ih i (half s) hb
        omega
      · rw [hdirs_ge (by omega) hl, List.length_append, List.length_singleton]
        have := ih (i - half s) (s - half s) (by omega)
        omega
set_option maxHeartbeats 3200000 in
theorem sides_any (w : World) (i s : Nat) (hi : i < s) (hs : s ≤ 9223372036854775808) :
    Calls Tryd.prog 19 #[.int .u64 (i : Int), .int .u64 (s : Int)] w fun e w' => ∃ v, e = .returned v ∧ w'.ownsRow w.heap.size 4 1 v (hdirs i s).length (lcells (hdirs i s)) ∧ Below w.heap.size w w' := by
  have hdl := hdirs_len 63 i s hs
  obtain ⟨i0, hi0, hz0, hz1, hz2⟩ := info_parts infoBo
  have RI := Bx.mk (And.intro hi0 (And.intro hz0 (And.intro hz1 hz2)))
  clear hi0 hz0 hz1 hz2
  obtain ⟨D, hD⟩ : ∃ D, D = hdirs i s := ⟨_, rfl⟩
  rw [← hD] at hdl ⊢
  have DL := Bx.mk hdl; have HD := Bx.mk hD
  clear hdl hD
  go_enter Tryd.func19, Tryd.ntmps19
  go_wp2_with fail
  go_loopw [0, 1, 5, 6] (fun a b dv _ wr => ∃ (p q : Nat) (l : List Bool), p < q ∧ q ≤ 9223372036854775808 ∧ a = .int .u64 (p : Int) ∧ b = .int .u64 (q : Int) ∧ hdirs p q ++ l.reverse = D ∧ wr.ownsRow w.heap.size 4 1 dv l.length (lcells l) ∧ Below w.heap.size w wr) (fun _ b _ _ _ => (intOf b).toNat)
  case atStart => exact ⟨i, s, [], hi, hs, rfl, rfl, by rw [HD.out]; simp, ⟨rfl, .inl ⟨rfl, rfl⟩⟩, Below.refl _ _⟩
  case round =>
    rename World => wo
    obtain ⟨p, q, l, hp, hq, rfl, rfl, hl, ho, hb⟩ := hrel
    obtain ⟨a5, c5, rfl, q1, q2, q3⟩ := own_shape ho
    have HO := Bx.mk ho; have HB := Bx.mk hb; have HL := Bx.mk hl
    have hll : l.length ≤ 63 := by have h1 := DL.out; rw [← hl, List.length_append, List.length_reverse] at h1; omega
    have LL := Bx.mk hll
    clear ho hb hl q1 q2 q3 hll
    by_cases h2 : 2 ≤ q
    · obtain ⟨g1, g2, g3⟩ := half_pos h2
      have h1 := Bx.mk (hdirs_lt (i := p) (s := q) h2)
      have h3 := Bx.mk (hdirs_ge (i := p) (s := q) h2)
      have h2' : (1 : Int) < (q : Int) := by omega
      go_wp2_with fail
      go_loopw [6] (fun k wq => wq = wo ∧ ∃ K : Nat, 1 ≤ K ∧ K < q ∧ k = .int .u64 (K : Int) ∧ ∃ m, K = 2 ^ m) (fun k _ => q - (intOf k).toNat)
      case atStart => exact ⟨rfl, 1, Nat.le_refl _, by omega, rfl, 0, rfl⟩
      case round =>
        obtain ⟨rfl, K, hK1, hK, rfl, hm⟩ := hrel
        have HM := Bx.mk hm; clear hm
        have d1 : IntKind.u64.wrap ((q : Int) - (K : Int)) = (q : Int) - (K : Int) := by simp [IntKind.wrap, IntKind.bits, IntKind.signed]; omega
        by_cases hc : K + K < q
        · have d2 : IntKind.u64.wrap ((K : Int) * 2) = (K : Int) * 2 := by simp [IntKind.wrap, IntKind.bits, IntKind.signed]; omega
          have hc' : (K : Int) < (q : Int) - (K : Int) := by omega
          go_wp2_with fail
          clear d1 d2
          go_roundw
          case rel =>
            obtain ⟨m, hm⟩ := HM.out
            exact ⟨trivial, K * 2, by omega, by omega, by go_num, m + 1, by rw [hm, Nat.pow_succ]⟩
          case measure => simp [intOf]; omega
        · have hc' : ¬ (K : Int) < (q : Int) - (K : Int) := by omega
          have hh : half q = K := by
            obtain ⟨m, hm⟩ := HM.out
            subst hm
            exact half_of ⟨hK, by rw [Nat.pow_succ]; omega⟩
          rw [hh] at g1 g2 g3 h1 h3
          clear HM hh
          by_cases hlt : p < K
          · have hx : (p : Int) < (K : Int) := by omega
            go_upto_region 7 with (guard_target =~ wpList _ _ _ (⟨some 23, _, _, _, _, _⟩ :: _) _ _; refine wpList_append_src rfl (.tmp 18) (.tmp 22) 49 rfl w.heap.size 4 i0 (.bool false) 1 1 underBo RI.out.1 RI.out.2.1 RI.out.2.2.1 RI.out.2.2.2 rfl (by decide) (.slice a5 l.length c5) l.length (lcells l) rfl (row_push HO.out _) (some ⟨wr.heap.size, 0, none⟩) 1 1 [.bool (decide (K ≤ p))] rfl (fun h => by cases h) rfl (bo_src wr _ _ rfl) (by simp [Value.oneCell']) (by have := LL.out; unfold maxLen; omega) (by have := LL.out; omega) (by have := HB.out.size; simp; omega) ?_; intro v1 w1 hown' hgrow _; have O1 := Bx.mk hown'; have G1 := Bx.mk hgrow; clear hown' hgrow)
            have b1 : Below w.heap.size w w1 := (HB.out.alloc HB.out.size _).grown G1.out (Nat.le_trans HB.out.size (by simp)) (fun k hk => ownsRow_fresh HO.out k hk)
            have o1 := O1.out
            rw [lcells_push] at o1
            have B1 := Bx.mk b1; have P1 := Bx.mk o1
            clear b1 o1 O1 G1
            go_wp2_with fail
            go_roundw
            case rel => exact ⟨p, K, l ++ [decide (K ≤ p)], by omega, by omega, by go_num, by go_num, by rw [← HL.out, h1.out (by omega), decide_eq_false (by omega)]; simp, by rw [List.length_append, List.length_singleton]; exact P1.out, B1.out⟩
            case measure => simp [intOf]; omega
          · have hx : ¬ (p : Int) < (K : Int) := by omega
            have d2 : IntKind.u64.wrap ((p : Int) - (K : Int)) = (p : Int) - (K : Int) := by simp [IntKind.wrap, IntKind.bits, IntKind.signed]; omega
            go_upto_region 7 with (guard_target =~ wpList _ _ _ (⟨some 23, _, _, _, _, _⟩ :: _) _ _; refine wpList_append_src rfl (.tmp 18) (.tmp 22) 49 rfl w.heap.size 4 i0 (.bool false) 1 1 underBo RI.out.1 RI.out.2.1 RI.out.2.2.1 RI.out.2.2.2 rfl (by decide) (.slice a5 l.length c5) l.length (lcells l) rfl (row_push HO.out _) (some ⟨wr.heap.size, 0, none⟩) 1 1 [.bool (decide (K ≤ p))] rfl (fun h => by cases h) rfl (bo_src wr _ _ rfl) (by simp [Value.oneCell']) (by have := LL.out; unfold maxLen; omega) (by have := LL.out; omega) (by have := HB.out.size; simp; omega) ?_; intro v1 w1 hown' hgrow _; have O1 := Bx.mk hown'; have G1 := Bx.mk hgrow; clear hown' hgrow)
            have b1 : Below w.heap.size w w1 := (HB.out.alloc HB.out.size _).grown G1.out (Nat.le_trans HB.out.size (by simp)) (fun k hk => ownsRow_fresh HO.out k hk)
            have o1 := O1.out
            rw [lcells_push] at o1
            have B1 := Bx.mk b1; have P1 := Bx.mk o1
            clear b1 o1 O1 G1
            go_wp2_with fail
            clear d1 d2
            go_roundw
            case rel => exact ⟨p - K, q - K, l ++ [decide (K ≤ p)], by omega, by omega, by go_num, by go_num, by rw [← HL.out, h3.out (by omega), decide_eq_true (by omega)]; simp, by rw [List.length_append, List.length_singleton]; exact P1.out, B1.out⟩
            case measure => simp [intOf]; omega
    · have h2' : ¬ (1 : Int) < (q : Int) := by omega
      have hD : D = l.reverse := by rw [← HL.out, hdirs_small (by omega)]; rfl
      obtain ⟨L, hLL⟩ : ∃ L, L = l.length := ⟨_, rfl⟩
      have HLL := Bx.mk hLL; have HDD := Bx.mk hD
      rw [← hLL] at HO LL ⊢
      clear hLL hD
      have d3 : IntKind.i64.wrap ((L : Int) - 1) = (L : Int) - 1 := by have := LL.out; simp [IntKind.wrap, IntKind.bits, IntKind.signed]; omega
      go_wp2_with fail
      clear d3
      go_loopw [7, 8] (fun uv iv wq => ∃ (t : Nat) (z : Int), t ≤ L ∧ z = (L : Int) - 1 - t ∧ iv = .int .i64 z ∧ wq.ownsRow wo.heap.size 4 1 uv t (lcells (l.reverse.take t)) ∧ Below wo.heap.size wo wq) (fun _ iv _ => (intOf iv + 1).toNat)
      case atStart => exact ⟨0, (L : Int) - 1, Nat.zero_le _, by omega, by go_num, ⟨rfl, .inl ⟨rfl, rfl⟩⟩, Below.refl _ _⟩
      case round =>
        obtain ⟨t, z, ht, hz, rfl, hu, hv⟩ := hrel
        obtain ⟨a7, c7, rfl, q1, q2, q3⟩ := own_shape hu
        have HU := Bx.mk hu; have HV := Bx.mk hv
        clear hu q1 q2 q3
        by_cases hlt : t < L
        · obtain ⟨j, hj⟩ : ∃ j : Nat, z = (j : Int) := ⟨L - 1 - t, by omega⟩
          subst hj
          have hjL : j = L - 1 - t := by omega
          have hjl : j < l.length := by rw [← HLL.out]; omega
          obtain ⟨g, c, e, hgc, hgl, hcell⟩ := bools_at (own_keep HO.out (Keep.of_below hv (fun _ => False)) (fun _ _ h => h)) j hjl
          cases e
          have hsn : l.reverse.take (t + 1) = l.reverse.take t ++ [l[j]] := by
            rw [List.take_succ_eq_append_getElem (by rw [List.length_reverse, ← HLL.out]; exact hlt), List.getElem_reverse]
            congr 3
            rw [← HLL.out]; exact hjL.symm
          obtain ⟨x, hx⟩ : ∃ x, x = l[j] := ⟨_, rfl⟩
          rw [← hx] at hcell hsn
          have HS := Bx.mk hsn; have LT := Bx.mk (show t + 1 ≤ 64 by have := LL.out; omega)
          have HJL := Bx.mk hjL; have hjlt : j < L := by omega
          clear hsn hx hv hgc hgl hjl hjL hz
          go_upto_region 14 with (guard_target =~ wpList _ _ _ (⟨some 47, _, _, _, _, _⟩ :: _) _ _; refine wpList_append_src rfl (.tmp 41) (.tmp 46) 49 rfl wo.heap.size 4 i0 (.bool false) 1 1 underBo RI.out.1 RI.out.2.1 RI.out.2.2.1 RI.out.2.2.2 rfl (by decide) (.slice a7 t c7) t (lcells (l.reverse.take t)) rfl (row_push HU.out _) (some ⟨wr.heap.size, 0, none⟩) 1 1 [.bool x] rfl (fun h => by cases h) rfl (bo_src wr _ _ rfl) (by simp [Value.oneCell']) (by have := LT.out; unfold maxLen; omega) (by have := LT.out; omega) (by have := HV.out.size; simp; omega) ?_; intro v1 w1 hown' hgrow _; have O1 := Bx.mk hown'; have G1 := Bx.mk hgrow; clear hown' hgrow)
          have b1 : Below wo.heap.size wo w1 := (HV.out.alloc HV.out.size _).grown G1.out (Nat.le_trans HV.out.size (by simp)) (fun k hk => ownsRow_fresh HU.out k hk)
          have o1 := O1.out
          rw [lcells_push, ← HS.out] at o1
          have B1 := Bx.mk b1; have P1 := Bx.mk o1
          have d4 : IntKind.i64.wrap ((j : Int) - 1) = (j : Int) - 1 := by have := LL.out; simp [IntKind.wrap, IntKind.bits, IntKind.signed]; omega
          clear b1 o1 O1 G1 hcell
          go_wp2_with fail
          clear d4
          go_roundw
          case rel => exact ⟨t + 1, (j : Int) - 1, hlt, by have := HJL.out; omega, by go_num, P1.out, B1.out⟩
          case measure => (simp [intOf]) <;> omega
        · obtain rfl : t = L := by omega
          have htk : l.reverse.take t = D := by rw [HDD.out]; exact List.take_of_length_le (by rw [List.length_reverse, ← HLL.out]; exact Nat.le_refl _)
          have hdt : D.length = t := by rw [HDD.out, List.length_reverse, HLL.out]
          rw [htk] at HU
          have hfin := ownsRow_mono HU.out HB.out.size
          have HDT := Bx.mk hdt
          have HF := Bx.mk hfin; have KB := Bx.mk (HB.out.trans (hv.mono HB.out.size))
          clear hfin hv htk hlt hdt
          go_wp2_with fail
          go_ret
          exact ⟨_, rfl, by rw [HDT.out]; exact HF.out, KB.out⟩
end Go.Proofs.YtmlpldkgennmkaaDoor
