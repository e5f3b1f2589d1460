/- text.Hex, hash.Show. -/
import Derived.Test.YtecdaokgnkhgiaaDoorBld
import Derived.Test.YtecdaokgnkhgiaaDoorBldS
namespace Go.Proofs.YtecdaokgnkhgiaaDoor
set_option maxRecDepth 100000
open Go.RowKit
theorem ald {W w : World} (h : Below W.heap.size W w) (o : Obj) : Below W.heap.size W (w.alloc o).drew := let k := er_al h o; ⟨k.os, k.tape, k.output, k.size, k.block⟩
def hexA : ByteArray := ⟨#[48, 49, 50, 51, 52, 53, 54, 55, 56, 57, 97, 98, 99, 100, 101, 102]⟩
/-- the letters of one byte -/
def hex2 (x : UInt8) : List UInt8 := [hexA.data.getD (x.toNat / 16) 0, hexA.data.getD (x.toNat % 16) 0]
theorem hex2_cells (x : UInt8) (h1 : x.toNat / 16 < hexA.size) (h2 : x.toNat % 16 < hexA.size) : bcells (hex2 x) = [.int .u8 ((hexA[x.toNat / 16]).toNat : Int), .int .u8 ((hexA[x.toNat % 16]).toNat : Int)] := by
  have h1' : x.toNat / 16 < hexA.data.size := h1
  have h2' : x.toNat % 16 < hexA.data.size := h2
  show [Value.int .u8 ((hexA.data.getD (x.toNat / 16) 0).toNat : Int), Value.int .u8 ((hexA.data.getD (x.toNat % 16) 0).toNat : Int)] = _
  rw [Array.getD_eq_getD_getElem?, Array.getD_eq_getD_getElem?, Array.getElem?_eq_getElem h1', Array.getElem?_eq_getElem h2']
  rfl
theorem pair_src (w : World) (u v : Value) (n : Nat) (hn : n = w.heap.size) :
    ∀ ad, some (⟨n, 0, none⟩ : Addr) = some ad → ∀ j x, [u, v][j]? = some x → (w.alloc (.cells #[u, v] 5)).cell? (ad.add j) = some x := by
  rintro ad had j x hj
  cases had
  subst hn
  match j, hj with
  | 0, hj => simp at hj; subst hj; simp [Addr.add]
  | 1, hj => simp at hj; subst hj; simp [Addr.add]
def hexL (l : List UInt8) : List UInt8 := l.flatMap hex2
theorem hexL_snoc (l : List UInt8) (x : UInt8) : hexL (l ++ [x]) = hexL l ++ hex2 x := by simp [hexL]
theorem hexL_length (l : List UInt8) : (hexL l).length = 2 * l.length := by
  induction l with
  | nil => rfl
  | cons x xs ih => simp only [hexL, List.flatMap_cons, List.length_append, List.length_cons] at ih ⊢; simp only [hex2, List.length_cons, List.length_nil]; omega
theorem byteCells_append (l m : List UInt8) : Lib.byteCells (l ++ m) = Lib.byteCells l ++ Lib.byteCells m := by simp [Lib.byteCells]
theorem byteCells_length (l : List UInt8) : (Lib.byteCells l).length = l.length := by simp [Lib.byteCells]
set_option maxHeartbeats 1600000 in
theorem hex_any (w : World) (s : ByteArray) (hs : s.size ≤ 1073741824) : Calls Tryd.prog 46 #[.string s] w fun e w' => e = .returned (.string (bstr (hexL (sb s)))) ∧ Below w.heap.size w w' := by
  have x0 := Lib.fresh_isBuilder 89 5 w
  have b0 : Below w.heap.size w (w.alloc (.cells #[.pointer none, .slice none 0 0] 89)) := er_al (Below.refl _ _) _
  go_enter Tryd.func46, Tryd.ntmps46
  go_upto_region 2 with (fail)
  change Code.wp _ _ _ _ (w.alloc (.cells #[.pointer none, .slice none 0 0] 89))
  generalize w.alloc (.cells #[.pointer none, .slice none 0 0] 89) = W at x0 b0 ⊢
  have X0 := Bx.mk x0; have B0 := Bx.mk b0; clear x0 b0
  generalize hb : w.heap.size = b at X0 B0 ⊢
  go_wp2_with fail
  go_loopw [4] (fun i wr => ∃ t : Nat, t ≤ s.size ∧ i = .int .i64 (t : Int) ∧ Below b w wr ∧ b ≤ wr.heap.size ∧ Lib.IsBuilder 89 5 b b (Lib.byteCells (hexL ((sb s).take t))) wr) (fun i _ => s.size - (intOf i).toNat)
  case atStart => exact ⟨0, Nat.zero_le _, rfl, B0.out, by have := B0.out.size; omega, X0.out⟩
  case round =>
    obtain ⟨t, ht, rfl, hbl, hbs, hB⟩ := hrel
    by_cases hlt : t < s.size
    · have hlen := sb_length s
      have hst : (sb s).take (t + 1) = (sb s).take t ++ [(sb s)[t]'(by omega)] := List.take_succ_eq_append_getElem (by omega)
      have hbb : ((sb s)[t]'(by omega)) = s[t] := rfl
      have hx : s[t].toNat < 256 := s[t].toNat_lt
      have g1 : (0 : Int) ≤ (s[t].toNat : Int) / 16 := by omega
      have g2 : (s[t].toNat : Int) / 16 < 16 := by omega
      have g3 : (0 : Int) ≤ (s[t].toNat : Int) % 16 := by omega
      have g4 : (s[t].toNat : Int) % 16 < 16 := by omega
      have hln : (Lib.byteCells (hexL ((sb s).take t))).length = 2 * t := by rw [byteCells_length, hexL_length, List.length_take, hlen, Nat.min_eq_left (Nat.le_of_lt hlt)]
      have HB := Bx.mk hB; have HBL := Bx.mk hbl; have HBS := Bx.mk hbs; have HST := Bx.mk hst; have HLN := Bx.mk hln
      clear hB hbl hbs hst hbb hln
      go_wp2_with fail
      refine (byte_any b b _ _ wr HB.out (by rw [HLN.out]; omega) HBS.out).mono ?_
      rintro e w1 ⟨rfl, hB1, hbl1⟩
      have HB1 := Bx.mk hB1; have HBL1 := Bx.mk hbl1; clear hB1 hbl1
      go_wp2_with fail
      refine (byte_any b b _ _ w1 HB1.out (by rw [List.length_append, HLN.out, List.length_singleton]; omega) (Nat.le_trans HBS.out HBL1.out.size)).mono ?_
      rintro e w2 ⟨rfl, hB2, hbl2⟩
      have HB2 := Bx.mk hB2; have HBL2 := Bx.mk hbl2; clear hB2 hbl2
      go_wp2_with fail
      go_roundw
      case rel =>
        refine ⟨t + 1, hlt, by go_num, HBL.out.trans (HBL1.out.trans HBL2.out), Nat.le_trans HBS.out (Nat.le_trans HBL1.out.size HBL2.out.size), ?_⟩
        rw [HST.out, hexL_snoc, byteCells_append]
        have e2 : Lib.byteCells (hex2 ((sb s)[t]'(by omega))) = [.int .u8 ((hexA[s[t].toNat / 16]'(by show _ < 16; omega)).toNat : Int), .int .u8 ((hexA[s[t].toNat % 16]'(by show _ < 16; omega)).toNat : Int)] := by
          show [Value.int .u8 ((hexA.data.getD (s[t].toNat / 16) 0).toNat : Int), Value.int .u8 ((hexA.data.getD (s[t].toNat % 16) 0).toNat : Int)] = _
          rw [Array.getD_eq_getD_getElem?, Array.getD_eq_getD_getElem?, Array.getElem?_eq_getElem (by show _ < 16; omega), Array.getElem?_eq_getElem (by show _ < 16; omega)]
          rfl
        rw [e2]
        have := HB2.out
        rw [List.append_assoc] at this
        exact this
      case measure => simp [intOf]; omega
    · obtain rfl : t = s.size := by omega
      rw [List.take_of_length_le (by rw [sb_length]; exact Nat.le_refl _)] at hB
      have HB := Bx.mk hB; have HBL := Bx.mk hbl; have HBS := Bx.mk hbs
      clear hB hbl hbs
      go_wp2_with fail
      refine (bld_string b b _ wr HB.out HBS.out).mono ?_
      rintro e w1 ⟨rfl, hbl1⟩
      go_wp2_with fail
      go_ret
      exact ⟨rfl, by rw [hb]; exact HBL.out.trans hbl1⟩
/-- hash.Show -/
theorem show_any (w : World) (a : List UInt8) (ha : a.length = 32) : Calls Tryd.prog 30 #[hv a] w fun e w' => e = .returned (.string (bstr (hexL a))) ∧ Below w.heap.size w w' := by
  have x0 := HashAt.new w a ha
  have b0 : Below w.heap.size w (w.alloc (.cells (ocells a) 24)) := er_al (Below.refl _ _) _
  have HA := Bx.mk ha; clear ha
  unfold hv
  go_enter Tryd.func30, Tryd.ntmps30
  go_upto_region 1 with (fail)
  change Code.wp _ _ _ _ (w.alloc (.cells (ocells a) 24))
  generalize w.alloc (.cells (ocells a) 24) = W at x0 b0 ⊢
  have k1 := str_row (w := W) x0.1 HA.out
  have X0 := Bx.mk x0; have B0 := Bx.mk b0; clear x0 b0
  go_wp2_with fail
  clear k1
  refine (hex_any W (bstr a) (by show a.toArray.size ≤ _; rw [List.size_toArray, HA.out]; omega)).mono ?_
  rintro e w1 ⟨rfl, hb1⟩
  rw [sb_bstr]
  go_wp2_with fail
  go_ret
  exact ⟨rfl, B0.out.trans (hb1.mono B0.out.size)⟩
set_option maxHeartbeats 1600000 in
/-- cartularyref05.Show -/
theorem rshow_any (w : World) (a : List UInt8) (ha : a.length = 32) : Calls Tryd.prog 31 #[hv a] w fun e w' => e = .returned (.string (bstr (hexL a))) ∧ Below w.heap.size w w' := by
  have x0 := HashAt.new w a ha
  have b0 : Below w.heap.size w (w.alloc (.cells (ocells a) 24)) := er_al (Below.refl _ _) _
  obtain ⟨i0, hi, hz0, hz1, hz2⟩ := info_parts info8
  have RI := Bx.mk (And.intro hi (And.intro hz0 (And.intro hz1 hz2)))
  have HA := Bx.mk ha
  clear hi hz0 hz1 hz2 ha
  unfold hv
  go_enter Tryd.func31, Tryd.ntmps31
  go_upto_region 1 with (fail)
  change Code.wp _ _ _ _ (w.alloc (.cells (ocells a) 24))
  generalize w.alloc (.cells (ocells a) 24) = W at x0 b0 ⊢
  have X0 := Bx.mk x0; have B0 := Bx.mk b0; clear x0 b0
  go_wp2_with fail
  go_loopw [3, 4] (fun v i wr => ∃ t : Nat, t ≤ 32 ∧ i = .int .i64 (t : Int) ∧ Below W.heap.size W wr ∧ wr.ownsRow W.heap.size 5 1 v (hexL (a.take t)).length (bcells (hexL (a.take t)))) (fun _ i _ => 32 - (intOf i).toNat)
  case atStart => exact ⟨0, Nat.zero_le _, rfl, Below.refl _ _, ⟨rfl, .inl ⟨rfl, rfl⟩⟩⟩
  case round =>
    obtain ⟨t, ht, rfl, hb, ho⟩ := hrel
    have hln : (hexL (a.take t)).length = 2 * t := by rw [hexL_length, List.length_take, HA.out]; omega
    have HLN := Bx.mk hln
    by_cases hlt : t < 32
    · obtain ⟨a3, c3, rfl, q1, q2, q3⟩ := own_shape ho
      have hta : t < a.length := by rw [HA.out]; exact hlt
      have hcell : wr.cell? ⟨w.heap.size, t, none⟩ = some (.int .u8 (a[t].toNat : Int)) := er_cellAt (X0.out.below hb).1 _ _ (by simp [ocells, bcells, bcell, hta])
      have hstep : hexL (a.take (t + 1)) = hexL (a.take t) ++ hex2 a[t] := by rw [List.take_succ_eq_append_getElem hta, hexL_snoc]
      generalize hat : a[t] = at' at hcell hstep
      have hx : at'.toNat < 256 := at'.toNat_lt
      have g1 : (0 : Int) ≤ (at'.toNat : Int) / 16 := by omega
      have g2 : (at'.toNat : Int) / 16 < 16 := by omega
      have g3 : (0 : Int) ≤ (at'.toNat : Int) % 16 := by omega
      have g4 : (at'.toNat : Int) % 16 < 16 := by omega
      have h2c := hex2_cells at' (by show _ < 16; omega) (by show _ < 16; omega)
      generalize hexL (a.take t) = L at ho hstep hln HLN ⊢
      have how : ∀ w', Below wr.heap.size wr w' → w'.ownsRow W.heap.size 5 1 (.slice a3 L.length c3) L.length (bcells L) := fun w' k => own_keep ho (Keep.of_below k (fun _ => False)) (fun _ _ h => h)
      have hm1 : L.length + 2 ≤ maxLen := by unfold maxLen; omega
      have hm2 : (L.length + 2) * 1 ≤ 140737488355328 := by omega
      have HB := Bx.mk hb; have HO := Bx.mk ho; have HS := Bx.mk hstep; have HOW := Bx.mk how; have M1 := Bx.mk (And.intro hm1 hm2); have H2C := Bx.mk h2c
      clear hb ho q1 q2 q3 hstep hat hta hln how hm1 hm2 h2c
      have d1 : (at'.toNat : Int).tdiv 16 = (at'.toNat : Int) / 16 := Int.tdiv_eq_ediv_of_nonneg (by omega)
      have d2 : (at'.toNat : Int).tmod 16 = (at'.toNat : Int) % 16 := Int.tmod_eq_emod_of_nonneg (by omega)
      have d3 : IntKind.u8.wrap ((at'.toNat : Int) / 16) = (at'.toNat : Int) / 16 := by simp [IntKind.wrap, IntKind.bits, IntKind.signed]; omega
      have d4 : IntKind.u8.wrap ((at'.toNat : Int) % 16) = (at'.toNat : Int) % 16 := by simp [IntKind.wrap, IntKind.bits, IntKind.signed]; omega
      go_upto_region 5 with (fail)
      go_region_law (refine step_append_src rfl (.tmp 9) (.tmp 20) 56 rfl W.heap.size 5 i0 (.int .u8 0) 1 1 underB RI.out.1 RI.out.2.1 RI.out.2.2.1 RI.out.2.2.2 rfl (by decide) _ L.length (bcells L) rfl (HOW.out _ (ald (Below.refl _ _) _)) (some ⟨wr.heap.size, 0, none⟩) 2 2 (bcells (hex2 at')) rfl (fun h => by cases h) rfl (fun ad had j u hu => by rw [H2C.out] at hu; exact pair_src wr _ _ _ rfl ad had j u hu) (bcells_one _) M1.out.1 M1.out.2 (Nat.le_trans HB.out.size (by simp)) ?_; intro v' w11 hown' hgrow _)
      all_goals (
        have ho11 : w11.ownsRow W.heap.size 5 1 v' (L ++ hex2 at').length (bcells (L ++ hex2 at')) := by
          rw [bcells_append, List.length_append]
          exact hown'
        have hb11 : Below W.heap.size W w11 := Below.grown (HB.out.trans ((ald (Below.refl wr.heap.size wr) _).mono HB.out.size)) hgrow (Nat.le_trans HB.out.size (by simp)) (fun k hk => ownsRow_fresh HO.out k hk)
        have O11 := Bx.mk ho11; have B11 := Bx.mk hb11
        clear hown' hgrow ho11 hb11 d1 d2 d3 d4
        go_wp2_with fail
        go_roundw
        case rel =>
          refine ⟨t + 1, hlt, by go_num, B11.out, ?_⟩
          rw [HS.out]
          exact O11.out
        case measure => simp [intOf]; omega)
    · obtain rfl : t = 32 := by omega
      have hta : a.take 32 = a := List.take_of_length_le (by rw [HA.out]; exact Nat.le_refl _)
      rw [hta] at ho
      have ho' := OwnF.of_row ho
      have hs := str_src ho'.src (by intro h; have := hexL_length a; rw [h, HA.out] at this; cases this)
      obtain ⟨a3, c3, rfl, q1, q2, q3⟩ := ho'.shape
      have HB := Bx.mk hb
      clear hb ho ho' q1 q2 q3 hta hln HLN
      go_wp2_with fail
      go_ret
      exact ⟨rfl, B0.out.trans (HB.out.mono B0.out.size)⟩
end Go.Proofs.YtecdaokgnkhgiaaDoor
