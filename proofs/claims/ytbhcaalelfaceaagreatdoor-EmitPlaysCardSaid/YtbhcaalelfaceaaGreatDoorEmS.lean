/- math/bits: TrailingZeros64 (laid by the kit's own tool), OnesCount64 (walked). -/
import Derived.Shelf.Spec.TrailingZeros
import Derived.Ground.Names7Prog
import Derived.Test.YtbhcaalelfaceaaGreatDoorEmP
import Derived.Test.YtbhcaalelfaceaaGreatDoorG6
namespace Go.Proofs.YtbhcaalelfaceaaGreatDoor
set_option maxRecDepth 100000
open Go.Shelf
def lays729_ren : Go.Shelf.Ren := ⟨fun | 29 => 115 | n => n, fun | 22 => 50 | 3 => 3 | 4 => 4 | 25 => 195 | 54 => 200 | 0 => 0 | 5 => 5 | n => n, fun | 1 => 4 | n => n⟩
theorem lays729 : Go.Proofs.Lays7.n29 Tryz.prog lays729_ren := {
  mixed := by kernel_rfl
  f29 := Tryz.func115.trans (congrArg some (by kernel_rfl))
  t0 := Tryz.underlying0
  a0 := Tryz.isAgg0
  z0 := Tryz.sizeOf0
  v0 := Tryz.zeroValue0
  i0 := by kernel_rfl
  t3 := Tryz.underlying3
  a3 := Tryz.isAgg3
  z3 := Tryz.sizeOf3
  v3 := Tryz.zeroValue3
  i3 := by kernel_rfl
  t4 := Tryz.underlying4
  a4 := Tryz.isAgg4
  z4 := Tryz.sizeOf4
  v4 := Tryz.zeroValue4
  i4 := by kernel_rfl
  t5 := Tryz.underlying5
  a5 := Tryz.isAgg5
  z5 := Tryz.sizeOf5
  v5 := Tryz.zeroValue5
  i5 := by kernel_rfl
  t22 := Tryz.underlying50
  a22 := Tryz.isAgg50
  z22 := Tryz.sizeOf50
  v22 := Tryz.zeroValue50
  i22 := by kernel_rfl
  t25 := Tryz.underlying195
  a25 := Tryz.isAgg195
  z25 := Tryz.sizeOf195
  v25 := Tryz.zeroValue195
  i25 := by kernel_rfl
  t54 := Tryz.underlying200
  a54 := Tryz.isAgg200
  z54 := Tryz.sizeOf200
  g1 := by kernel_rfl }
def TabZ (w : World) : Prop := TabAt 4 Lib.deBruijn64tab w
theorem tz_any (x : Nat) (w : World) (h : x < 2 ^ 64) (hT : TabZ w) : Calls Tryz.prog 115 #[.int .u64 (x : Int)] w fun e w' => e = .returned (.int .i64 (Lib.ctz 64 x : Int)) ∧ w' = w :=
  Any7.bits_TrailingZeros64 lays729 x h w (fun _ => hT)
open Go.RowKit
theorem TabZ.below {w w' : World} (h : TabZ w) (hg : 4 < w.heap.size) (k : Below w.heap.size w w') : TabZ w' :=
  fun j hj => (k.cell (p := ⟨4, j, none⟩) hg).trans (h j hj)
theorem andNat (x y : Nat) (h : x < 18446744073709551616) (h2 : y < 18446744073709551616) : bits .and .u64 (x : Int) (y : Int) = ((x &&& y : Nat) : Int) := by
  show IntKind.u64.wrap (((BitVec.ofInt 64 (x : Int)) &&& (BitVec.ofInt 64 (y : Int))).toNat : Int) = _
  have e1 : (BitVec.ofInt 64 (x : Int)).toNat = x := by rw [BitVec.toNat_ofInt]; omega
  have e2 : (BitVec.ofInt 64 (y : Int)).toNat = y := by rw [BitVec.toNat_ofInt]; omega
  rw [BitVec.toNat_and, e1, e2]
  have : x &&& y ≤ x := Nat.and_le_left
  simp [IntKind.wrap, IntKind.bits, IntKind.signed]
  omega
theorem wrapNat (x : Nat) (h : x < 18446744073709551616) : IntKind.u64.wrap (x : Int) = (x : Int) := by simp [IntKind.wrap, IntKind.bits, IntKind.signed]; omega
theorem halfNat (x k : Nat) : (x : Int) / (k : Int) = ((x / k : Nat) : Int) := rfl
theorem oc1N (x : Nat) (h : x < 18446744073709551616) : IntKind.u64.wrap (bits .and .u64 ((x : Int) / 2) 6148914691236517205 + bits .and .u64 (x : Int) 6148914691236517205) = ((oc1 (mskB 85 8) x : Nat) : Int) := by
  have a1 := andNat (x / 2) 6148914691236517205 (by omega) (by decide)
  have a2 := andNat x 6148914691236517205 h (by decide)
  have e1 : ((x / 2 : Nat) : Int) = (x : Int) / 2 := rfl
  rw [e1] at a1
  rw [show ((6148914691236517205 : Nat) : Int) = 6148914691236517205 from rfl] at a1 a2
  rw [a1, a2]
  have l1 : x / 2 &&& 6148914691236517205 ≤ 6148914691236517205 := Nat.and_le_right
  have l2 : x &&& 6148914691236517205 ≤ 6148914691236517205 := Nat.and_le_right
  rw [show ((x / 2 &&& 6148914691236517205 : Nat) : Int) + ((x &&& 6148914691236517205 : Nat) : Int) = ((x / 2 &&& 6148914691236517205) + (x &&& 6148914691236517205) : Nat) from rfl, wrapNat _ (by omega)]
  rfl
theorem oc1_lt (x : Nat) : oc1 (mskB 85 8) x < 18446744073709551616 := by
  have l1 : x / 2 &&& 6148914691236517205 ≤ 6148914691236517205 := Nat.and_le_right
  have l2 : x &&& 6148914691236517205 ≤ 6148914691236517205 := Nat.and_le_right
  show (x / 2 &&& 6148914691236517205) + (x &&& 6148914691236517205) < _
  omega
theorem oc2N (x : Nat) (h : x < 18446744073709551616) : IntKind.u64.wrap (bits .and .u64 ((x : Int) / 4) 3689348814741910323 + bits .and .u64 (x : Int) 3689348814741910323) = ((oc2 (mskB 51 8) x : Nat) : Int) := by
  have a1 := andNat (x / 4) 3689348814741910323 (by omega) (by decide)
  have a2 := andNat x 3689348814741910323 h (by decide)
  have e1 : ((x / 4 : Nat) : Int) = (x : Int) / 4 := rfl
  rw [e1] at a1
  rw [show ((3689348814741910323 : Nat) : Int) = 3689348814741910323 from rfl] at a1 a2
  rw [a1, a2]
  have l1 : x / 4 &&& 3689348814741910323 ≤ 3689348814741910323 := Nat.and_le_right
  have l2 : x &&& 3689348814741910323 ≤ 3689348814741910323 := Nat.and_le_right
  rw [show ((x / 4 &&& 3689348814741910323 : Nat) : Int) + ((x &&& 3689348814741910323 : Nat) : Int) = ((x / 4 &&& 3689348814741910323) + (x &&& 3689348814741910323) : Nat) from rfl, wrapNat _ (by omega)]
  rfl
theorem oc2_lt (x : Nat) : oc2 (mskB 51 8) x ≤ 7378697629483820646 := by
  have l1 : x / 4 &&& 3689348814741910323 ≤ 3689348814741910323 := Nat.and_le_right
  have l2 : x &&& 3689348814741910323 ≤ 3689348814741910323 := Nat.and_le_right
  show (x / 4 &&& 3689348814741910323) + (x &&& 3689348814741910323) ≤ _
  omega
theorem oc3N (x : Nat) (h : x ≤ 7378697629483820646) : bits .and .u64 (IntKind.u64.wrap ((x : Int) / 16 + (x : Int))) 1085102592571150095 = ((oc3 (mskB 15 8) x : Nat) : Int) := by
  rw [show (x : Int) / 16 + (x : Int) = ((x / 16 + x : Nat) : Int) from rfl, wrapNat _ (by omega)]
  exact andNat (x / 16 + x) 1085102592571150095 (by omega) (by decide)
theorem oc3_le (x : Nat) : oc3 (mskB 15 8) x ≤ 1085102592571150095 := Nat.and_le_right
theorem ocaN (x k : Nat) (h : x + x / k < 18446744073709551616) : IntKind.u64.wrap ((x : Int) + (x : Int) / (k : Int)) = ((x + x / k : Nat) : Int) := by
  rw [show (x : Int) + (x : Int) / (k : Int) = ((x + x / k : Nat) : Int) from rfl, wrapNat _ h]
theorem and127 (x : Nat) (h : x < 9223372036854775808) : bits .and .i64 (x : Int) 127 = ((x % 128 : Nat) : Int) := by
  show IntKind.i64.wrap (((BitVec.ofInt 64 (x : Int)) &&& (BitVec.ofInt 64 127)).toNat : Int) = _
  have e1 : (BitVec.ofInt 64 (x : Int)).toNat = x := by rw [BitVec.toNat_ofInt]; omega
  have e2 : (BitVec.ofInt 64 127).toNat = 2 ^ 7 - 1 := by decide
  rw [BitVec.toNat_and, e1, e2, Nat.and_two_pow_sub_one_eq_mod]
  simp [IntKind.wrap, IntKind.bits, IntKind.signed]
  omega
theorem ones_any (x : Nat) (w : World) (h : x < 18446744073709551616) : Calls Tryz.prog 75 #[.int .u64 (x : Int)] w fun e w' => e = .returned (.int .i64 (pcnt x : Int)) ∧ w' = w := by
  have e1 := oc1N x h
  obtain ⟨x1, h1⟩ : ∃ y, y = oc1 (mskB 85 8) x := ⟨_, rfl⟩
  have b1 : x1 < 18446744073709551616 := by rw [h1]; exact oc1_lt x
  have e2 := oc2N x1 b1
  obtain ⟨x2, h2⟩ : ∃ y, y = oc2 (mskB 51 8) x1 := ⟨_, rfl⟩
  have b2 : x2 ≤ 7378697629483820646 := by rw [h2]; exact oc2_lt x1
  have e3 := oc3N x2 b2
  rw [show (x2 : Int) / 16 + (x2 : Int) = ((x2 / 16 + x2 : Nat) : Int) from rfl, wrapNat _ (by omega)] at e3
  obtain ⟨x3, h3⟩ : ∃ y, y = oc3 (mskB 15 8) x2 := ⟨_, rfl⟩
  have b3 : x3 ≤ 1085102592571150095 := by rw [h3]; exact oc3_le x2
  have e4 : (x3 : Int) + (x3 : Int) / 256 = ((x3 + x3 / 256 : Nat) : Int) := rfl
  obtain ⟨x4, h4⟩ : ∃ y, y = x3 + x3 / 256 := ⟨_, rfl⟩
  have e5 : (x4 : Int) + (x4 : Int) / 65536 = ((x4 + x4 / 65536 : Nat) : Int) := rfl
  obtain ⟨x5, h5⟩ : ∃ y, y = x4 + x4 / 65536 := ⟨_, rfl⟩
  have e6 : (x5 : Int) + (x5 : Int) / 4294967296 = ((x5 + x5 / 4294967296 : Nat) : Int) := rfl
  obtain ⟨x6, h6⟩ : ∃ y, y = x5 + x5 / 4294967296 := ⟨_, rfl⟩
  have e7 := and127 x6 (by omega)
  have e8 : IntKind.i64.wrap (x6 : Int) = (x6 : Int) := by simp [IntKind.wrap, IntKind.bits, IntKind.signed]; omega
  have hp : x6 % 128 = pcnt x := by
    have := (ones_count h).1
    rw [← oc_bytes 8 x (by omega), ← h1, ← h2, ← h3] at this
    simp only [← h4, ← h5, ← h6] at this
    exact this
  rw [← h1] at e1; rw [← h2] at e2; rw [← h3] at e3; rw [← h4] at e4; rw [← h5] at e5; rw [← h6] at e6; rw [hp] at e7
  have E1 := Bx.mk e1; have E2 := Bx.mk e2; have E3 := Bx.mk e3; have E4 := Bx.mk e4; have E5 := Bx.mk e5; have E6 := Bx.mk e6; have E7 := Bx.mk e7; have E8 := Bx.mk e8
  have L3 : x3 ≤ 1085102592571150095 := b3
  have l4 : x4 ≤ 2000000000000000000 := by omega
  have l5 : x5 ≤ 2100000000000000000 := by omega
  have l6 : x6 ≤ 2200000000000000000 := by omega
  clear e1 e2 e3 e4 e5 e6 e7 e8 h1 h2 h3 h4 h5 h6 hp
  go_enter Tryz.func75, Tryz.ntmps75
  go_upto_region 2 with (fail)
  rw [E1.out]
  go_upto_region 3 with (fail)
  rw [E2.out]
  go_upto_region 4 with (fail)
  rw [show bits BinOp.and IntKind.u64 ((x2 : Int) / 16 + (x2 : Int)) 1085102592571150095 = (x3 : Int) from E3.out]
  go_upto_region 5 with (fail)
  rw [show (x3 : Int) + (x3 : Int) / 256 = (x4 : Int) from E4.out]
  go_upto_region 6 with (fail)
  rw [show (x4 : Int) + (x4 : Int) / 65536 = (x5 : Int) from E5.out]
  go_upto_region 7 with (fail)
  rw [show (x5 : Int) + (x5 : Int) / 4294967296 = (x6 : Int) from E6.out]
  go_wp2
  go_ret
  exact ⟨by rw [E7.out]; rfl, rfl⟩
end Go.Proofs.YtbhcaalelfaceaaGreatDoor
