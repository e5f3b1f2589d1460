/- SHA by naturals that the kernel reckons fast: one block, and how it stands to blk. -/
import Derived.Test.YtfoknhogclfhhaaDoorPad
namespace Go.Proofs.YtfoknhogclfhhaaDoor
set_option maxRecDepth 100000
def fks : List Nat := [1116352408, 1899447441, 3049323471, 3921009573, 961987163, 1508970993, 2453635748, 2870763221, 3624381080, 310598401, 607225278, 1426881987, 1925078388, 2162078206, 2614888103, 3248222580, 3835390401, 4022224774, 264347078, 604807628, 770255983, 1249150122, 1555081692, 1996064986, 2554220882, 2821834349, 2952996808, 3210313671, 3336571891, 3584528711, 113926993, 338241895, 666307205, 773529912, 1294757372, 1396182291, 1695183700, 1986661051, 2177026350, 2456956037, 2730485921, 2820302411, 3259730800, 3345764771, 3516065817, 3600352804, 4094571909, 275423344, 430227734, 506948616, 659060556, 883997877, 958139571, 1322822218, 1537002063, 1747873779, 1955562222, 2024104815, 2227730452, 2361852424, 2428436474, 2756734187, 3204031479, 3329325298]
/-! the steps -/
def fs1 (xx : Nat) : Nat := Nat.xor (Nat.xor (Nat.shiftRight xx 6) (Nat.shiftRight xx 11)) (Nat.shiftRight xx 25)
def fs0 (xx : Nat) : Nat := Nat.xor (Nat.xor (Nat.shiftRight xx 2) (Nat.shiftRight xx 13)) (Nat.shiftRight xx 22)
def fg0 (x : Nat) : Nat := Nat.xor (Nat.mod (Nat.xor (Nat.shiftRight (Nat.mul x 4294967297) 7) (Nat.shiftRight (Nat.mul x 4294967297) 18)) 4294967296) (Nat.shiftRight x 3)
def fg1 (x : Nat) : Nat := Nat.xor (Nat.mod (Nat.xor (Nat.shiftRight (Nat.mul x 4294967297) 17) (Nat.shiftRight (Nat.mul x 4294967297) 19)) 4294967296) (Nat.shiftRight x 10)
def fnw (w0 w1 w9 w14 : Nat) : Nat := Nat.mod (Nat.add (Nat.add (Nat.add w0 (fg0 w1)) w9) (fg1 w14)) 4294967296
def ft1 (k w e f g h : Nat) : Nat := Nat.add (Nat.add (Nat.add (Nat.add h (Nat.mod (fs1 (Nat.mul e 4294967297)) 4294967296)) (Nat.xor g (Nat.land e (Nat.xor f g)))) k) w
def ft2 (a b c : Nat) : Nat := Nat.add (Nat.mod (fs0 (Nat.mul a 4294967297)) 4294967296) (Nat.xor (Nat.land a (Nat.xor b c)) (Nat.land b c))
def FSt : Type := Nat → Nat → Nat → Nat → Nat → Nat → Nat → Nat → Nat → Nat → Nat → Nat → Nat → Nat → Nat → Nat → Nat → Nat → Nat → Nat → Nat → Nat → Nat → Nat → Nat
def ffin (A B C D E F G H : Nat) : FSt := fun a b c d e f g h _ _ _ _ _ _ _ _ _ _ _ _ _ _ _ _ =>
  Nat.add (Nat.mul (Nat.add (Nat.mul (Nat.add (Nat.mul (Nat.add (Nat.mul (Nat.add (Nat.mul (Nat.add (Nat.mul (Nat.add (Nat.mul (Nat.mod (Nat.add A a) 4294967296) 4294967296) (Nat.mod (Nat.add B b) 4294967296)) 4294967296) (Nat.mod (Nat.add C c) 4294967296)) 4294967296) (Nat.mod (Nat.add D d) 4294967296)) 4294967296) (Nat.mod (Nat.add E e) 4294967296)) 4294967296) (Nat.mod (Nat.add F f) 4294967296)) 4294967296) (Nat.mod (Nat.add G g) 4294967296)) 4294967296) (Nat.mod (Nat.add H h) 4294967296)
noncomputable def frnds (A B C D E F G H : Nat) (l : List Nat) : FSt :=
  List.rec (motive := fun _ => FSt) (ffin A B C D E F G H)
    (fun k _ ih a b c d e f g h w0 w1 w2 w3 w4 w5 w6 w7 w8 w9 w10 w11 w12 w13 w14 w15 =>
      ih (Nat.mod (Nat.add (ft1 k w0 e f g h) (ft2 a b c)) 4294967296) a b c (Nat.mod (Nat.add d (ft1 k w0 e f g h)) 4294967296) e f g w1 w2 w3 w4 w5 w6 w7 w8 w9 w10 w11 w12 w13 w14 w15 (fnw w0 w1 w9 w14)) l
def fpk (S j : Nat) : Nat := Nat.mod (Nat.shiftRight S (Nat.sub 224 (Nat.mul 32 j))) 4294967296
def fwk (B j : Nat) : Nat := Nat.mod (Nat.shiftRight B (Nat.sub 480 (Nat.mul 32 j))) 4294967296
/-- one block: 256 bits and 512 bits to 256 bits -/
noncomputable def fblk (S B : Nat) : Nat :=
  frnds (fpk S 0) (fpk S 1) (fpk S 2) (fpk S 3) (fpk S 4) (fpk S 5) (fpk S 6) (fpk S 7) fks (fpk S 0) (fpk S 1) (fpk S 2) (fpk S 3) (fpk S 4) (fpk S 5) (fpk S 6) (fpk S 7)
   (fwk B 0) (fwk B 1) (fwk B 2) (fwk B 3) (fwk B 4) (fwk B 5) (fwk B 6) (fwk B 7) (fwk B 8) (fwk B 9) (fwk B 10) (fwk B 11) (fwk B 12) (fwk B 13) (fwk B 14) (fwk B 15)
/-! the operations on words, as naturals -/
theorem wrap32_nat {n : Nat} (h : n < 4294967296) : IntKind.u32.wrap (n : Int) = (n : Int) := by simp [IntKind.wrap, IntKind.bits, IntKind.signed]; omega
theorem ofInt_nat {x : Nat} (h : x < 4294967296) : (BitVec.ofInt 32 (x : Int)).toNat = x := by
  rw [BitVec.toNat_ofInt]; omega
theorem bits_or {x y : Nat} (hx : x < 4294967296) (hy : y < 4294967296) : bits .or .u32 (x : Int) (y : Int) = ((x ||| y : Nat) : Int) := by
  show IntKind.u32.wrap (((BitVec.ofInt 32 (x : Int)) ||| (BitVec.ofInt 32 (y : Int))).toNat : Int) = _
  rw [BitVec.toNat_or, ofInt_nat hx, ofInt_nat hy, wrap32_nat (Nat.or_lt_two_pow (n := 32) hx hy)]
theorem bits_and {x y : Nat} (hx : x < 4294967296) (hy : y < 4294967296) : bits .and .u32 (x : Int) (y : Int) = ((x &&& y : Nat) : Int) := by
  show IntKind.u32.wrap (((BitVec.ofInt 32 (x : Int)) &&& (BitVec.ofInt 32 (y : Int))).toNat : Int) = _
  rw [BitVec.toNat_and, ofInt_nat hx, ofInt_nat hy, wrap32_nat (Nat.and_lt_two_pow (n := 32) x hy)]
theorem bits_xor {x y : Nat} (hx : x < 4294967296) (hy : y < 4294967296) : bits .xor .u32 (x : Int) (y : Int) = ((x ^^^ y : Nat) : Int) := by
  show IntKind.u32.wrap (((BitVec.ofInt 32 (x : Int)) ^^^ (BitVec.ofInt 32 (y : Int))).toNat : Int) = _
  rw [BitVec.toNat_xor, ofInt_nat hx, ofInt_nat hy, wrap32_nat (Nat.xor_lt_two_pow (n := 32) hx hy)]
theorem xor_lt {x y : Nat} (hx : x < 4294967296) (hy : y < 4294967296) : x ^^^ y < 4294967296 := Nat.xor_lt_two_pow (n := 32) hx hy
theorem and_lt {x y : Nat} (hy : y < 4294967296) : x &&& y < 4294967296 := Nat.and_lt_two_pow (n := 32) x hy
/-- a word turned -/
def rotN (x n : Nat) : Nat := (x * 4294967297) / 2 ^ n % 4294967296
theorem rotN_lt (x n : Nat) : rotN x n < 4294967296 := Nat.mod_lt _ (by decide)
theorem or_add (a b i : Nat) (h : a < 2 ^ i) : a ||| 2 ^ i * b = 2 ^ i * b + a := by
  rw [Nat.or_comm, Nat.two_pow_add_eq_or_of_lt h]
theorem rotr_nat {x n : Nat} (hx : x < 4294967296) (h0 : 0 < n) (hn : n < 32) : rotr (x : Int) (n : Int) = (rotN x n : Int) := by
  have hp : 0 < 2 ^ n := Nat.pow_pos (by decide)
  have hpp : 2 ^ n * 2 ^ (32 - n) = 4294967296 := by rw [← Nat.pow_add, show n + (32 - n) = 32 by omega]
  have hq : x / 2 ^ n < 2 ^ (32 - n) := (Nat.div_lt_iff_lt_mul hp).2 (by rw [Nat.mul_comm, hpp]; exact hx)
  have e1 : x * 2 ^ (32 - n) % 4294967296 = 2 ^ (32 - n) * (x % 2 ^ n) := by
    rw [← hpp, Nat.mul_comm x, Nat.mul_comm (2 ^ n), Nat.mul_mod_mul_left]
  have e2 : rotr (x : Int) (n : Int) = bits .or .u32 ((x / 2 ^ n : Nat) : Int) ((x * 2 ^ (32 - n) % 4294967296 : Nat) : Int) := by
    unfold rotr
    rw [show (n : Int).toNat = n by omega, show (32 - (n : Int)).toNat = 32 - n by omega]
    congr 1
  rw [e2, bits_or (Nat.lt_of_le_of_lt (Nat.div_le_self _ _) hx) (Nat.mod_lt _ (by decide)), e1, or_add _ _ _ hq]
  unfold rotN
  have e3 : x * 4294967297 = 2 ^ n * (x * 2 ^ (32 - n)) + x := by
    have : 2 ^ n * (x * 2 ^ (32 - n)) = x * 4294967296 := by rw [← hpp]; rw [Nat.mul_left_comm]
    rw [this]; omega
  rw [e3, Nat.mul_add_div hp]
  have e4 : x * 2 ^ (32 - n) = 4294967296 * (x / 2 ^ n) + 2 ^ (32 - n) * (x % 2 ^ n) := by
    conv => lhs; rw [← Nat.div_add_mod x (2 ^ n)]
    rw [Nat.add_mul, ← hpp]
    congr 1
    · rw [Nat.mul_right_comm]
    · rw [Nat.mul_comm]
  rw [e4, Nat.add_assoc, Nat.mul_add_mod]
  have hb : 2 ^ (32 - n) * (x % 2 ^ n) + x / 2 ^ n < 4294967296 := by
    have h1 : x % 2 ^ n + 1 ≤ 2 ^ n := Nat.mod_lt _ hp
    have h2 := Nat.mul_le_mul_left (2 ^ (32 - n)) h1
    rw [Nat.mul_add, Nat.mul_comm _ (2 ^ n), hpp] at h2
    omega
  rw [Nat.mod_eq_of_lt hb]
theorem rotN_shift (x n : Nat) : rotN x n = Nat.mod (Nat.shiftRight (Nat.mul x 4294967297) n) 4294967296 := by
  unfold rotN
  show _ = (x * 4294967297) >>> n % 4294967296
  rw [Nat.shiftRight_eq_div_pow]
theorem xor_mod32 (a b : Nat) : (a ^^^ b) % 4294967296 = (a % 4294967296) ^^^ (b % 4294967296) := Nat.xor_mod_two_pow (n := 32)
theorem fs1_eq (x : Nat) : Nat.mod (fs1 (Nat.mul x 4294967297)) 4294967296 = rotN x 6 ^^^ rotN x 11 ^^^ rotN x 25 := by
  rw [rotN_shift, rotN_shift, rotN_shift]
  unfold fs1
  show (_ ^^^ _ ^^^ _) % 4294967296 = _
  rw [xor_mod32, xor_mod32]
  rfl
theorem fs0_eq (x : Nat) : Nat.mod (fs0 (Nat.mul x 4294967297)) 4294967296 = rotN x 2 ^^^ rotN x 13 ^^^ rotN x 22 := by
  rw [rotN_shift, rotN_shift, rotN_shift]
  unfold fs0
  show (_ ^^^ _ ^^^ _) % 4294967296 = _
  rw [xor_mod32, xor_mod32]
  rfl
theorem fg0_eq (x : Nat) : fg0 x = rotN x 7 ^^^ rotN x 18 ^^^ x / 8 := by
  rw [rotN_shift, rotN_shift]
  unfold fg0
  show (_ ^^^ _) % 4294967296 ^^^ x >>> 3 = _
  rw [xor_mod32, Nat.shiftRight_eq_div_pow]
  rfl
theorem fg1_eq (x : Nat) : fg1 x = rotN x 17 ^^^ rotN x 19 ^^^ x / 1024 := by
  rw [rotN_shift, rotN_shift]
  unfold fg1
  show (_ ^^^ _) % 4294967296 ^^^ x >>> 10 = _
  rw [xor_mod32, Nat.shiftRight_eq_div_pow]
  rfl
/-- the choice of bits -/
theorem ch_eq {e f g : Nat} (hf : f < 4294967296) (hg : g < 4294967296) : (e &&& f) ^^^ ((4294967295 ^^^ e) &&& g) = g ^^^ (e &&& (f ^^^ g)) := by
  apply Nat.eq_of_testBit_eq
  intro i
  have hm : (4294967295 : Nat).testBit i = decide (i < 32) := by rw [show (4294967295 : Nat) = 2 ^ 32 - 1 from rfl, Nat.testBit_two_pow_sub_one]
  simp only [Nat.testBit_xor, Nat.testBit_and, hm]
  by_cases hi : i < 32
  · simp only [hi, decide_true]
    cases e.testBit i <;> cases f.testBit i <;> cases g.testBit i <;> rfl
  · have z : ∀ x, x < 4294967296 → x.testBit i = false := fun x hx => Nat.testBit_lt_two_pow (Nat.lt_of_lt_of_le hx (Nat.pow_le_pow_right (n := 2) (by decide) (show 32 ≤ i by omega)))
    rw [z f hf, z g hg]
    simp
theorem maj_eq (a b c : Nat) : (a &&& b) ^^^ (a &&& c) ^^^ (b &&& c) = (a &&& (b ^^^ c)) ^^^ (b &&& c) := by
  apply Nat.eq_of_testBit_eq
  intro i
  simp only [Nat.testBit_xor, Nat.testBit_and]
  cases a.testBit i <;> cases b.testBit i <;> cases c.testBit i <;> rfl
theorem mix4_nat {x0 x1 x2 x3 : Nat} (h1 : x1 < 4294967296) (h3 : x3 < 4294967296) : mix4 (x0 : Int) x1 x2 x3 = (fnw x0 x1 x2 x3 : Int) := by
  have d1 : x1 / 8 < 4294967296 := by omega
  have d3 : x3 / 1024 < 4294967296 := by omega
  unfold mix4
  rw [show rotr (x1 : Int) 7 = _ from rotr_nat h1 (n := 7) (by decide) (by decide), show rotr (x1 : Int) 18 = _ from rotr_nat h1 (n := 18) (by decide) (by decide),
    show rotr (x3 : Int) 17 = _ from rotr_nat h3 (n := 17) (by decide) (by decide), show rotr (x3 : Int) 19 = _ from rotr_nat h3 (n := 19) (by decide) (by decide)]
  rw [bits_xor (rotN_lt _ _) (rotN_lt _ _), bits_xor (rotN_lt _ _) (rotN_lt _ _), show (x1 : Int) / 8 = ((x1 / 8 : Nat) : Int) by omega, show (x3 : Int) / 1024 = ((x3 / 1024 : Nat) : Int) by omega,
    bits_xor (xor_lt (rotN_lt _ _) (rotN_lt _ _)) d1, bits_xor (xor_lt (rotN_lt _ _) (rotN_lt _ _)) d3, ← fg0_eq, ← fg1_eq]
  show _ = (((x0 + fg0 x1 + x2 + fg1 x3) % 4294967296 : Nat) : Int)
  generalize fg0 x1 = y1
  generalize fg1 x3 = y3
  omega
/-- the eight words as naturals -/
structure N8 where
  a : Nat
  b : Nat
  c : Nat
  d : Nat
  e : Nat
  f : Nat
  g : Nat
  h : Nat
def N8.int (s : N8) : R8 := ⟨s.a, s.b, s.c, s.d, s.e, s.f, s.g, s.h⟩
structure N8.Ok (s : N8) : Prop where
  a : s.a < 4294967296
  b : s.b < 4294967296
  c : s.c < 4294967296
  d : s.d < 4294967296
  e : s.e < 4294967296
  f : s.f < 4294967296
  g : s.g < 4294967296
  h : s.h < 4294967296
def nrnd (k w : Nat) (s : N8) : N8 := ⟨(ft1 k w s.e s.f s.g s.h + ft2 s.a s.b s.c) % 4294967296, s.a, s.b, s.c, (s.d + ft1 k w s.e s.f s.g s.h) % 4294967296, s.e, s.f, s.g⟩
theorem nrnd_ok {s : N8} (h : s.Ok) (k w : Nat) : (nrnd k w s).Ok := ⟨Nat.mod_lt _ (by decide), h.a, h.b, h.c, Nat.mod_lt _ (by decide), h.e, h.f, h.g⟩
theorem rnd_nat {s : N8} (h : s.Ok) (k w : Nat) : rnd (k : Int) (w : Int) s.int = (nrnd k w s).int := by
  have x1 : rndX (k : Int) (w : Int) s.int = ((ft1 k w s.e s.f s.g s.h : Nat) : Int) % 4294967296 := by
    unfold rndX N8.int
    simp only []
    rw [show rotr (s.e : Int) 6 = _ from rotr_nat h.e (n := 6) (by decide) (by decide), show rotr (s.e : Int) 11 = _ from rotr_nat h.e (n := 11) (by decide) (by decide), show rotr (s.e : Int) 25 = _ from rotr_nat h.e (n := 25) (by decide) (by decide),
      bits_xor (rotN_lt _ _) (rotN_lt _ _), bits_xor (xor_lt (rotN_lt _ _) (rotN_lt _ _)) (rotN_lt _ _), bits_and h.e h.f, show (if IntKind.u32.signed = true then (-1 : Int) else IntKind.u32.max) = ((4294967295 : Nat) : Int) from rfl,
      bits_xor (by decide) h.e, bits_and (xor_lt (by decide) h.e) h.g, bits_xor (and_lt h.f) (and_lt h.g), ch_eq h.f h.g, ← fs1_eq]
    show _ = ((s.h + Nat.mod (fs1 (Nat.mul s.e 4294967297)) 4294967296 + (s.g ^^^ (s.e &&& (s.f ^^^ s.g))) + k + w : Nat) : Int) % 4294967296
    generalize Nat.mod (fs1 (Nat.mul s.e 4294967297)) 4294967296 = y1
    generalize (s.g ^^^ (s.e &&& (s.f ^^^ s.g))) = y2
    omega
  have x2 : rndY s.int = ((ft2 s.a s.b s.c : Nat) : Int) % 4294967296 := by
    unfold rndY N8.int
    simp only []
    rw [show rotr (s.a : Int) 2 = _ from rotr_nat h.a (n := 2) (by decide) (by decide), show rotr (s.a : Int) 13 = _ from rotr_nat h.a (n := 13) (by decide) (by decide), show rotr (s.a : Int) 22 = _ from rotr_nat h.a (n := 22) (by decide) (by decide),
      bits_xor (rotN_lt _ _) (rotN_lt _ _), bits_xor (xor_lt (rotN_lt _ _) (rotN_lt _ _)) (rotN_lt _ _), bits_and h.a h.b, bits_and h.a h.c, bits_and h.b h.c, bits_xor (and_lt h.b) (and_lt h.c),
      bits_xor (xor_lt (and_lt h.b) (and_lt h.c)) (and_lt h.c), maj_eq, ← fs0_eq]
    show _ = ((Nat.mod (fs0 (Nat.mul s.a 4294967297)) 4294967296 + ((s.a &&& (s.b ^^^ s.c)) ^^^ (s.b &&& s.c)) : Nat) : Int) % 4294967296
    generalize Nat.mod (fs0 (Nat.mul s.a 4294967297)) 4294967296 = y1
    generalize ((s.a &&& (s.b ^^^ s.c)) ^^^ (s.b &&& s.c)) = y2
    omega
  unfold rnd
  rw [x1, x2]
  generalize hX : ft1 k w s.e s.f s.g s.h = X
  generalize hY : ft2 s.a s.b s.c = Y
  unfold N8.int nrnd
  rw [hX, hY]
  simp only [R8.mk.injEq]
  refine ⟨by omega, trivial, trivial, trivial, by omega, trivial, trivial, trivial⟩
end Go.Proofs.YtfoknhogclfhhaaDoor
