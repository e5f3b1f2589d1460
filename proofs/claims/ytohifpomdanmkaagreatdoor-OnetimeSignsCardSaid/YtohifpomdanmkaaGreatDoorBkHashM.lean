/- cartularylaw01.Book over hashes: the mark, and whether it is there. -/
import Derived.Test.YtohifpomdanmkaaGreatDoorBkC
import Derived.Test.YtohifpomdanmkaaGreatDoorVt
namespace Go.Proofs.YtohifpomdanmkaaGreatDoor
set_option maxRecDepth 100000
open Go.RowKit
/-- the mark's bytes -/
def mkHB (n : Nat) : List UInt8 := [UInt8.ofNat n, UInt8.ofNat (n / 256), UInt8.ofNat (n / 65536), 0, 0, 0, 0, 0, 0, 0, 0, 0, 0, 0, 0, 0, 0, 0, 0, 0, 0, 0, 0, 0, 0, 0, 0, 0, 0, 0, 0, 201]
def mkHash (n : Nat) : Array Value := ocells (mkHB n)
theorem mkHB_len (n : Nat) : (mkHB n).length = 32 := rfl
theorem mkHash_len (n : Nat) : (mkHash n).toList.length = 32 := rfl
theorem mkHash_one (n : Nat) : (mkHash n).all (·.oneCell') = true := ocells_one _
theorem wrap8_of (n : Nat) : IntKind.u8.wrap (n : Int) = ((UInt8.ofNat n).toNat : Int) := by
  simp [IntKind.wrap, IntKind.bits, IntKind.signed]
theorem built_mkHash (a b c : Int) : Tryz.prog.built 23 [(0, .int .u8 a), (1, .int .u8 b), (2, .int .u8 c), (31, .int .u8 201)] = some #[.int .u8 a, .int .u8 b, .int .u8 c, .int .u8 0, .int .u8 0, .int .u8 0, .int .u8 0, .int .u8 0, .int .u8 0, .int .u8 0, .int .u8 0, .int .u8 0, .int .u8 0, .int .u8 0, .int .u8 0, .int .u8 0, .int .u8 0, .int .u8 0, .int .u8 0, .int .u8 0, .int .u8 0, .int .u8 0, .int .u8 0, .int .u8 0, .int .u8 0, .int .u8 0, .int .u8 0, .int .u8 0, .int .u8 0, .int .u8 0, .int .u8 0, .int .u8 201] := by kernel_rfl
theorem built_mkH (n : Nat) : Tryz.prog.built 23 [(0, .int .u8 ((UInt8.ofNat n).toNat : Int)), (1, .int .u8 ((UInt8.ofNat (n / 256)).toNat : Int)), (2, .int .u8 ((UInt8.ofNat (n / 65536)).toNat : Int)), (31, .int .u8 201)] = some (mkHash n) := by
  rw [built_mkHash]
  rfl
theorem byte1 (n : Nat) (hn : n ≤ 100000000) : wrap64 ((n : Int) / 256) % 256 = ((UInt8.ofNat (n / 256)).toNat : Int) := by
  have h : wrap64 ((n : Int) / 256) = ((n / 256 : Nat) : Int) := by unfold wrap64; omega
  rw [h]
  simp
theorem byte2 (n : Nat) (hn : n ≤ 100000000) : wrap64 ((n : Int) / 65536) % 256 = ((UInt8.ofNat (n / 65536)).toNat : Int) := by
  have h : wrap64 ((n : Int) / 65536) = ((n / 65536 : Nat) : Int) := by unfold wrap64; omega
  rw [h]
  simp
theorem mkHash_parts (n : Nat) (hn : n ≤ 100000000) : ∃ c0 : Int, IntKind.u8.wrap (n : Int) = c0 ∧ Tryz.prog.built 23 [(0, .int .u8 c0), (1, .int .u8 (wrap64 ((n : Int) / 256) % 256)), (2, .int .u8 (wrap64 ((n : Int) / 65536) % 256)), (31, .int .u8 201)] = some (mkHash n) :=
  ⟨_, wrap8_of n, by rw [byte1 n hn, byte2 n hn]; exact built_mkH n⟩
set_option maxHeartbeats 1600000 in
theorem markHash_any (w : World) (n : Nat) (hn : n ≤ 100000000) : Calls Tryz.prog 79 #[.int .i64 (n : Int)] w fun e w' => e = .returned (.agg (mkHash n)) ∧ Below w.heap.size w w' := by
  obtain ⟨c0, e0, hb⟩ := mkHash_parts n hn
  have HB := Bx.mk hb
  clear hb hn
  obtain ⟨MK, hMK⟩ : ∃ MK, MK = mkHash n := ⟨_, rfl⟩
  have SZ : Bx ((Tryz.prog.info? 23).map (·.size) = some MK.size) := ⟨by rw [hMK]; exact hszL (mkHB_len n)⟩
  have ONE : Bx (MK.all (·.oneCell') = true) := ⟨by rw [hMK]; exact mkHash_one n⟩
  rw [← hMK] at HB ⊢
  clear hMK
  go_enter Tryz.func79, Tryz.ntmps79
  go_upto_region 1 with (fail)
  change Code.wp _ _ _ _ (w.alloc (.cells zeros32 23))
  obtain ⟨Z, hZ⟩ : ∃ Z : Array Value, Z = zeros32 := ⟨_, rfl⟩
  rw [← hZ]
  have ZS : Bx (Z.size = MK.size) := ⟨by rw [hZ]; have h := SZ.out; rw [sizeH] at h; exact Option.some.inj h⟩
  clear hZ
  go_wp2_with (first
    | (guard_target =~ wpList _ _ _ (⟨some 11, _, _, _, _, _⟩ :: _) _ _; refine wpList_build_c (by simp [Region.wanted]) 23 #[(0, .tmp 4), (1, .tmp 7), (2, .tmp 10), (31, .const (.int .u8 201))] rfl MK (by simp only [List.map_toArray, List.map_cons, List.map_nil]; exact HB.out) ?_)
    | (guard_target =~ wpList _ _ _ (⟨none, _, _, _, _, _⟩ :: _) _ _; refine wpList_store_row rfl 23 (.tmp 2) (.tmp 11) rfl w.heap.size MK rfl rfl _ Z (heap_alloc_new _ _) SZ.out ZS.out ONE.out ?_; rw [setRow_alloc_new _ _ _ _ _ rfl]))
  refine bodyPost_ret (results_cell_row rfl _ _ w.heap.size _ MK _ _ rfl (heap_alloc_new _ _) underH rfl SZ.out) rfl ⟨rfl, er_al (Below.refl _ _) _⟩
set_option maxHeartbeats 1600000 in
theorem isHash_any (w : World) (n : Nat) (hn : n ≤ 100000000) : Calls Tryz.prog 95 #[.agg (mkHash n), .int .i64 (n : Int)] w fun e w' => e = .returned (.bool true) ∧ Below w.heap.size w w' := by
  obtain ⟨c0, e0, hb⟩ := mkHash_parts n hn
  have HB := Bx.mk hb
  clear hb hn
  have q : ∀ u, (binOp .eql 23 (.agg (mkHash n)) (.agg (mkHash n))).run Tryz.prog u = .ok (.bool true) u := fun u => by
    have h := hv_eq u (mkHB n) (mkHB n) (mkHB_len n) (mkHB_len n)
    rw [beq_self_eq_true] at h
    exact h
  obtain ⟨MK, hMK⟩ : ∃ MK, MK = mkHash n := ⟨_, rfl⟩
  have SZ : Bx ((Tryz.prog.info? 23).map (·.size) = some MK.size) := ⟨by rw [hMK]; exact hszL (mkHB_len n)⟩
  rw [← hMK] at HB q ⊢
  clear hMK
  have xN := heap_alloc_new w (.cells MK 23)
  have kb := er_al (Below.refl w.heap.size w) (.cells MK 23)
  go_enter Tryz.func95, Tryz.ntmps95
  go_upto_region 1 with (fail)
  change Code.wp _ _ _ _ (w.alloc (.cells MK 23))
  generalize w.alloc (.cells MK 23) = W at xN kb ⊢
  obtain ⟨N, hN⟩ : ∃ N, N = w.heap.size := ⟨_, rfl⟩
  rw [← hN] at xN ⊢
  have XN := Bx.mk xN; have KB := Bx.mk kb
  clear xN kb hN
  go_wp2_with (first
    | (guard_target =~ wpList _ _ _ (⟨some 5, _, _, _, _, _⟩ :: _) _ _; refine wpList_load_row rfl 23 (.tmp 2) rfl N rfl _ _ _ _ XN.out underH rfl SZ.out ?_)
    | (guard_target =~ wpList _ _ _ (⟨some 14, _, _, _, _, _⟩ :: _) _ _; refine wpList_build_c (by simp [Region.wanted]) 23 #[(0, .tmp 7), (1, .tmp 10), (2, .tmp 13), (31, .const (.int .u8 201))] rfl MK (by simp only [List.map_toArray, List.map_cons, List.map_nil]; exact HB.out) ?_))
  go_ret
  exact ⟨rfl, KB.out⟩
end Go.Proofs.YtohifpomdanmkaaGreatDoor
