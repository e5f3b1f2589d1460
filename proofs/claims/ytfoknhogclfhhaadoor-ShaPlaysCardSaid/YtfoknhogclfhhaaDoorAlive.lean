/- cartularylaw04.alive: what the document says of SHA of "abc". -/
import Derived.Test.YtfoknhogclfhhaaDoorDigP
import Derived.Stop.BytesEq
import Derived.Lib.SlBytesConst
namespace Go.Proofs.YtfoknhogclfhhaaDoor
set_option maxRecDepth 100000
open Go.RowKit
theorem hv_eq (w : World) (a b : List UInt8) (ha : a.length = 32) (hb : b.length = 32) : (binOp .eql 38 (hv a) (hv b)).run Tryd.prog w = .ok (.bool (a == b)) w :=
  run_eql_bytes w 38 5 32 underH (by kernel_rfl) (fun _ => by kernel_rfl) a b ha hb
theorem hv_agg (a : List UInt8) : hv a = .agg (ocells a) := rfl
def abc : List UInt8 := [97, 98, 99]
set_option maxRecDepth 1000000 in
theorem sha_abc : sha abc = [186, 120, 22, 191, 143, 1, 207, 234, 65, 65, 64, 222, 93, 174, 34, 35, 176, 3, 97, 163, 150, 23, 122, 156, 180, 16, 255, 97, 242, 0, 21, 173] := by decide +kernel
theorem strs_one (w : World) (s : ByteArray) (n : Nat) (hn : n = w.heap.size) : Strs (w.alloc (.cells #[.string s] 9)) (.slice (some ⟨n, 0, none⟩) 1 1) [s] := by
  subst hn
  exact ⟨_, 1, rfl, Nat.le_refl _, by simp [maxLen], fun _ => ⟨w.heap.size, 0, rfl, by simp, fun i hi => by
    obtain rfl : i = 0 := by simpa using hi
    rw [World.cell?_alloc_at _ _ _ _ rfl]; rfl⟩⟩
set_option maxHeartbeats 1600000 in
set_option maxRecDepth 100000 in
theorem alive_any (w : World) (hT : Tab w) (hgs : 0 < w.heap.size) : Calls Tryd.prog 17 #[] w fun e w' => e = .returned (.bool true) ∧ Below w.heap.size w w' := by
  have k1 : Below w.heap.size w (w.alloc (.cells #[.string ⟨#[97, 98, 99]⟩] 9)) := (Below.refl _ _).alloc (Nat.le_refl _) _
  have hc1 := sum_any (w.alloc (.cells #[.string ⟨#[97, 98, 99]⟩] 9)) _ [⟨#[97, 98, 99]⟩] (strs_one w _ _ rfl) (hT.kept (Keep.of_below k1 (fun _ => False)) hgs (fun h => h)) (by simp <;> omega) (by simp [cat, sb])
  have e1 : cat [⟨#[97, 98, 99]⟩] = abc := by simp [cat, sb, abc]
  rw [e1] at hc1
  have K1 := Bx.mk k1; have HC1 := Bx.mk hc1; have HT := Bx.mk hT
  clear k1 hc1 e1 hT
  go_enter Tryd.func17, Tryd.ntmps17
  go_wp2_with fail
  refine HC1.out.mono ?_
  rintro e w1 ⟨rfl, hb1⟩
  have kb1 : Below w.heap.size w w1 := K1.out.trans (hb1.mono (by simp))
  have KB1 := Bx.mk kb1; clear kb1 hb1 K1 HC1
  have hsz : (Tryd.prog.info? 38).map (·.size) = some (ocells (sha abc)).size := by rw [sizeH, ocells_size, sha_length]
  have hso : zeros32.size = (ocells (sha abc)).size := by unfold zeros32; rw [ocells_size, ocells_size, sha_length]; rfl
  have HSZ := Bx.mk hsz; have HSO := Bx.mk hso; clear hsz hso
  go_upto_region 2 with (refine wpList_store_row rfl 38 (.tmp 1) (.tmp 4) rfl w1.heap.size (ocells (sha abc)) rfl rfl _ zeros32 (heap_alloc_new _ _) HSZ.out HSO.out (ocells_one _) ?_; rw [setRow_alloc_new _ _ _ _ _ rfl])
  have x0 := heap_alloc_new w1 (.cells (ocells (sha abc)) 38)
  have x1 : Below w.heap.size w (w1.alloc (.cells (ocells (sha abc)) 38)) := KB1.out.alloc KB1.out.size _
  have x2 : (w1.alloc (.cells (ocells (sha abc)) 38)).heap.size = w1.heap.size + 1 := by simp
  have x3 := KB1.out.size
  generalize w1.alloc (.cells (ocells (sha abc)) 38) = U at x0 x1 x2 ⊢
  generalize w1.heap.size = hb at x0 x2 x3 ⊢
  have X0 := Bx.mk x0; have X1 := Bx.mk x1; have X2 := Bx.mk x2; clear x0 x1 x2 KB1 HSZ HSO
  go_wp2_with fail
  refine (newP U).mono ?_
  rintro e w2 ⟨p, S, rfl, hd2, hb2⟩
  have D2 := Bx.mk hd2; have B2 := Bx.mk hb2; clear hd2 hb2
  have kc := fun (w : World) (C : Array Value) (n c : Nat) => Lib.run_convert_bytes_const (P := Tryd.prog) w 30 5 C n c (by kernel_rfl) (by kernel_rfl)
  go_wp2_with fail
  clear kc
  have b2 := X1.out.trans (B2.out.mono X1.out.size)
  have b3 := b2.alloc b2.size (.cells #[.int .u8 97, .int .u8 98, .int .u8 99] 5 (3, 4))
  have s3 : Src (w2.alloc (.cells #[.int .u8 97, .int .u8 98, .int .u8 99] 5 (3, 4))) (.slice (some ⟨w2.heap.size, 0, none⟩) 3 3) abc :=
    ⟨_, 3, rfl, by decide, by decide, by simp, fun _ => ⟨w2.heap.size, 0, rfl, by simp, fun i hi => cell_at (heap_alloc_new _ _) _ _ (by
      match i, hi with
      | 0, _ => rfl
      | 1, _ => rfl
      | 2, _ => rfl
      | n + 3, h => exact absurd h (by simp [abc]))⟩⟩
  have d3 := D2.out.below ((Below.refl _ _).alloc (Nat.le_refl _) (.cells #[.int .u8 97, .int .u8 98, .int .u8 99] 5 (3, 4)))
  have t3 := HT.out.kept (Keep.of_below b3 (fun _ => False)) hgs (fun h => h)
  have bu : Below U.heap.size U (w2.alloc (.cells #[.int .u8 97, .int .u8 98, .int .u8 99] 5 (3, 4))) := B2.out.alloc B2.out.size _
  have wr := writeP U.heap.size _ p _ [] abc S d3 t3 (by rw [X2.out]; omega) s3 (fun k hk hs => by
    obtain rfl : w2.heap.size = k := by simpa [Value.ownBlock] using hk
    exact Nat.lt_irrefl _ (D2.out.lt _ hs)) (by decide) bu.size
  have WR := Bx.mk wr; have B3 := Bx.mk b3; have BU := Bx.mk bu
  clear wr b2 b3 s3 d3 t3 bu
  generalize w2.alloc (.cells #[.int .u8 97, .int .u8 98, .int .u8 99] 5 (3, 4)) = V at WR B3 BU ⊢
  refine WR.out.mono ?_
  rintro e V1 ⟨rfl, hW⟩
  obtain ⟨S1, d4, _⟩ := hW.ex
  have kU : Below U.heap.size U V1 := BU.out.trans (hW.keep.below BU.out.size (fun k hk => D2.out.ge k hk))
  have kw : Below w.heap.size w V1 := X1.out.trans (kU.mono X1.out.size)
  have hr : V1.heap[hb]? = some (.cells (ocells (sha abc)) 38 (0, 0)) := (kU.block hb (by rw [X2.out]; omega)).trans X0.out
  have D4 := Bx.mk d4; have KW := Bx.mk kw; have HR := Bx.mk hr
  clear d4 kU kw hr hW WR B3 BU X0 X1 X2 B2 D2
  go_wp2_with fail
  have cel : ∀ (k : Nat) (c : Int) (u : Blw V1.heap.size V1), (ocells (sha abc))[k]? = some (.int .u8 c) → u.w.cell? ⟨hb, k, none⟩ = some (.int .u8 c) := fun k c u h => by
    have hb' := (Array.getElem?_eq_some_iff.1 HR.out).1
    exact cell_at ((u.h.block hb hb').trans HR.out) _ _ h
  have e0 := fun u => cel 0 186 u (by rw [sha_abc]; rfl)
  have e1 := fun u => cel 1 120 u (by rw [sha_abc]; rfl)
  have e31 := fun u => cel 31 173 u (by rw [sha_abc]; rfl)
  have hrow : ∀ u, BlwC V1.heap.size V1 u → u.heap[hb]? = some (.cells (ocells (sha abc)) 38 (0, 0)) := fun u ⟨u', hu⟩ => by
    subst hu; exact (u'.h.block hb ((Array.getElem?_eq_some_iff.1 HR.out).1)).trans HR.out
  have hds : ∀ u, Below V1.heap.size V1 u → Calls Tryd.prog 16 #[.pointer (some ⟨p, 0, none⟩)] u fun e w' => e = .returned (hv (sha abc)) ∧ Below u.heap.size u w' := fun u hu =>
    dsumP _ u p abc S1 (D4.out.below hu) (HT.out.kept (Keep.of_below (KW.out.trans (hu.mono KW.out.size)) (fun _ => False)) hgs (fun h => h)) (Nat.lt_of_lt_of_le hgs (KW.out.trans (hu.mono KW.out.size)).size) (by decide)
  have hln : ∀ u, Below V1.heap.size V1 u → Calls Tryd.prog 19 #[.pointer (some ⟨p, 0, none⟩)] u fun e w' => e = .returned (.int .u64 3) ∧ Below u.heap.size u w' := fun u hu =>
    (lenP _ u p abc S1 (D4.out.below hu)).mono fun e w' ⟨he, hw⟩ => ⟨he, hw ▸ Below.refl _ _⟩
  have ne := Blw.ne V1.heap.size V1
  have HRO := Bx.mk hrow; have HDS := Bx.mk hds; have HLN := Bx.mk hln
  clear cel hrow hds hln
  refine wp_region_quiet_c (C := fun w' => ∃ u : Blw V1.heap.size V1, w' = u.w) (by kernel_rfl) (by kernel_rfl) ⟨⟨_, (Below.refl _ _).drew⟩, rfl⟩ ?_
  repeat (go_big_quiet_step (exact Calls.blw (Nat.le_refl _) HDS.out))
  go_big_quiet_want
  refine quiet_load_row 38 (.tmp 1) rfl hb rfl 38 (ocells (sha abc)) (0, 0) _ HRO.out underH rfl (by rw [sizeH, ocells_size, sha_length]) ?_
  go_big_quiet_on
  simp only [Act.put, List.setIfInBounds_toArray, List.set_cons_succ, List.set_cons_zero]
  have hq := fun w => hv_eq w (sha abc) (sha abc) (sha_length _) (sha_length _)
  simp only [beq_self_eq_true, hv_agg] at hq
  rw [hv_agg]
  go_big_quiet_step (fail)
  clear hq
  repeat (go_big_quiet_step (exact Calls.blw (Nat.le_refl _) HLN.out))
  refine wpQuiet_nil ?_
  rintro _ ⟨u, rfl⟩
  go_wp2_with fail
  go_ret
  exact ⟨rfl, KW.out.trans (u.h.mono KW.out.size)⟩
end Go.Proofs.YtfoknhogclfhhaaDoor
