/- SHA of bytes by naturals that the kernel reckons fast. -/
import Derived.Test.YtfoknhogclfhhaaDoorFt
namespace Go.Proofs.YtfoknhogclfhhaaDoor
set_option maxRecDepth 100000
def R0N : N8 := ⟨1779033703, 3144134277, 1013904242, 2773480762, 1359893119, 2600822924, 528734635, 1541459225⟩
theorem R0N_int : R0 = R0N.int := rfl
theorem R0N_ok : R0N.Ok := ⟨by decide, by decide, by decide, by decide, by decide, by decide, by decide, by decide⟩
/-- the beginning -/
def fR0 : Nat := 47962653771679561900652889051773562940742041696833059450490514104358170316057
theorem fR0_eq : pkR R0N = fR0 := by decide +kernel
/-- the first n blocks -/
noncomputable def nfold (l : List UInt8) : Nat → Nat
  | 0 => fR0
  | n + 1 => fblk (nfold l n) (num ((l.drop (64 * n)).take 64))
theorem fold_num (l : List UInt8) (n : Nat) (h : 64 * n ≤ l.length) : ∃ s : N8, s.Ok ∧ fold R0 l n = s.int ∧ pkR s = nfold l n := by
  induction n with
  | zero => exact ⟨R0N, R0N_ok, R0N_int, fR0_eq⟩
  | succ n ih =>
    obtain ⟨s, h1, h2, h3⟩ := ih (by omega)
    obtain ⟨s', k1, k2, k3⟩ := blk_num h1 ((l.drop (64 * n)).take 64) (by simp; omega)
    exact ⟨s', k1, by rw [fold, h2, k2], by rw [k3, h3]; rfl⟩
theorem byteOf_nat (x : Nat) : (byteOf (x : Int)).toNat = x % 256 := by
  unfold byteOf
  rw [UInt8.toNat_ofNat']
  omega
theorem num_out4 (x : Nat) (hx : x < 4294967296) : num (out4 (x : Int)) = x := by
  have e1 : (byteOf ((x : Int) / 16777216)).toNat = x / 16777216 % 256 := by rw [show (x : Int) / 16777216 = ((x / 16777216 : Nat) : Int) by omega, byteOf_nat]
  have e2 : (byteOf ((x : Int) / 65536)).toNat = x / 65536 % 256 := by rw [show (x : Int) / 65536 = ((x / 65536 : Nat) : Int) by omega, byteOf_nat]
  have e3 : (byteOf ((x : Int) / 256)).toNat = x / 256 % 256 := by rw [show (x : Int) / 256 = ((x / 256 : Nat) : Int) by omega, byteOf_nat]
  have e4 := byteOf_nat x
  unfold out4 num
  simp only [List.foldl_cons, List.foldl_nil, e1, e2, e3, e4]
  omega
theorem out4_length (x : Int) : (out4 x).length = 4 := rfl
theorem num_out {s : N8} (h : s.Ok) : num (outOf s.int.list) = pkR s := by
  unfold outOf N8.int R8.list
  simp only [List.flatMap_cons, List.flatMap_nil, num_append, num_out4 _ h.a, num_out4 _ h.b, num_out4 _ h.c, num_out4 _ h.d, num_out4 _ h.e, num_out4 _ h.f, num_out4 _ h.g, num_out4 _ h.h, List.length_append, out4_length, List.length_nil, Nat.add_zero]
  unfold pkR num
  simp only [List.foldl_nil]
  omega
theorem pad_len (l : List UInt8) : 64 * ((pad l).length / 64) = (pad l).length := by
  unfold pad
  rw [List.length_append, tailOf_length]
  unfold zerosOf
  omega
/-- SHA AS A NUMBER -/
theorem num_sha (l : List UInt8) : num (sha l) = nfold (pad l) ((pad l).length / 64) := by
  obtain ⟨s, h1, h2, h3⟩ := fold_num (pad l) ((pad l).length / 64) (Nat.le_of_eq (pad_len l))
  unfold sha
  rw [h2, num_out h1, h3]
theorem num_be8 (n j : Nat) (hj : j ≤ 8) : num (be8 n j) = n / 2 ^ (64 - 8 * j) % 2 ^ (8 * j) := by
  induction j with
  | zero => simp [be8, num, Nat.mod_one]
  | succ j ih =>
    rw [be8, num_append, ih (by omega), num_one, List.length_singleton, Nat.pow_one]
    have e1 : ((n : Int) / 2 ^ (56 - 8 * j)) = ((n / 2 ^ (56 - 8 * j) : Nat) : Int) := by push_cast; rfl
    rw [e1, byteOf_nat, show 64 - 8 * j = (56 - 8 * j) + 8 by omega, Nat.pow_add, ← Nat.div_div_eq_div_mul, show 64 - 8 * (j + 1) = 56 - 8 * j by omega, show 8 * (j + 1) = 8 + 8 * j by omega, Nat.pow_add]
    generalize n / 2 ^ (56 - 8 * j) = m
    rw [Nat.mod_mul]
    show m / 256 % 2 ^ (8 * j) * 256 + m % 256 = m % 256 + 256 * (m / 256 % 2 ^ (8 * j))
    omega
theorem num_zeros (n : Nat) : num (List.replicate n 0) = 0 := by
  induction n with
  | zero => rfl
  | succ n ih => rw [List.replicate_succ, num_cons, ih]; simp
theorem num_tail (n : Nat) (h : n < 2305843009213693952) : num (tailOf n) = 128 * 256 ^ (zerosOf n + 8) + 8 * n := by
  unfold tailOf
  rw [List.cons_append, num_cons, num_append, num_zeros, num_be8 _ _ (Nat.le_refl _), List.length_append, List.length_replicate, be8_length]
  simp
  omega
theorem num_pad (l : List UInt8) (h : l.length < 2305843009213693952) : num (pad l) = (num l * 256 + 128) * 256 ^ (zerosOf l.length + 8) + 8 * l.length := by
  unfold pad
  rw [num_append, num_tail _ h, tailOf_length, show zerosOf l.length + 9 = 1 + (zerosOf l.length + 8) by omega, Nat.pow_add, ← Nat.mul_assoc, Nat.pow_one, Nat.add_mul]
  omega
/-- SHA of a short text -/
theorem num_short (l : List UInt8) (h : l.length ≤ 55) : num (sha l) = fblk fR0 ((num l * 256 + 128) * 256 ^ (63 - l.length) + 8 * l.length) := by
  have hp : (pad l).length = 64 := by unfold pad; rw [List.length_append, tailOf_length]; unfold zerosOf; omega
  rw [num_sha, hp, show 64 / 64 = 0 + 1 from rfl, nfold, nfold, Nat.mul_zero, List.drop_zero, List.take_of_length_le (by omega), num_pad l (by omega)]
  rw [show zerosOf l.length + 8 = 63 - l.length by unfold zerosOf; omega]
/-- a step of a chain -/
noncomputable def fstep (x : Nat) : Nat := fblk fR0 (Nat.add (Nat.mul (Nat.add x 231584178474632390847141970017375815706539969331281128078915168015826259279872) 452312848583266388373324160190187140051835877600158453279131187530910662656) 226156424291633194186662080095093570025917938800079226639565593765455331592)
theorem p32 : 2 * 256 ^ 32 = 231584178474632390847141970017375815706539969331281128078915168015826259279872 := by decide +kernel
theorem p30 : 256 * 256 ^ 30 = 452312848583266388373324160190187140051835877600158453279131187530910662656 := by decide +kernel
theorem q30 : 128 * 256 ^ 30 + 8 * 33 = 226156424291633194186662080095093570025917938800079226639565593765455331592 := by decide +kernel
theorem num_step (l : List UInt8) (h : l.length = 32) : num (sha (2 :: l)) = fstep (num l) := by
  rw [num_short (2 :: l) (by simp [h]), num_cons, h, List.length_cons, h]
  unfold fstep
  rw [show (2 : UInt8).toNat = 2 from rfl, p32, show 63 - (32 + 1) = 30 from rfl, show 32 + 1 = 33 from rfl, Nat.add_mul, Nat.mul_assoc, p30, Nat.add_assoc, q30, Nat.add_comm 231584178474632390847141970017375815706539969331281128078915168015826259279872 (num l)]
  rfl
theorem sha_inj_num {a : List UInt8} {b : List UInt8} (hb : b.length = 32) (h : num (sha a) = num b) : sha a = b := num_inj (by rw [sha_length, hb]) h
end Go.Proofs.YtfoknhogclfhhaaDoor
