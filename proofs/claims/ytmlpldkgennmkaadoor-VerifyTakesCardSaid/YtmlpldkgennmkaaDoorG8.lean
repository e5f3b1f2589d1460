/- SHA by naturals that the kernel reckons fast: one block, and how it stands to blk. SHA by naturals: the schedule, the rounds, the fold over blocks. SHA of bytes by naturals that the kernel reckons fast. -/
import Derived.Test.YtmlpldkgennmkaaDoorG2
section
namespace Go.Proofs.YtmlpldkgennmkaaDoor
set_option maxRecDepth 100000
def fks : List Nat := [1116352408, 1899447441, 3049323471, 3921009573, 961987163, 1508970993, 2453635748, 2870763221, 3624381080, 310598401, 607225278, 1426881987, 1925078388, 2162078206, 2614888103, 3248222580, 3835390401, 4022224774, 264347078, 604807628, 770255983, 1249150122, 1555081692, 1996064986, 2554220882, 2821834349, 2952996808, 3210313671, 3336571891, 3584528711, 113926993, 338241895, 666307205, 773529912, 1294757372, 1396182291, 1695183700, 1986661051, 2177026350, 2456956037, 2730485921, 2820302411, 3259730800, 3345764771, 3516065817, 3600352804, 4094571909, 275423344, 430227734, 506948616, 659060556, 883997877, 958139571, 1322822218, 1537002063, 1747873779, 1955562222, 2024104815, 2227730452, 2361852424, 2428436474, 2756734187, 3204031479, 3329325298]
/-! the steps -/
def fs1 (xx : Nat) : Nat := Nat.xor (Nat.xor (Nat.shiftRight xx 6) (Nat.shiftRight xx 11)) (Nat.shiftRight xx 25)
def fs0 (xx : Nat) : Nat := Nat.xor (Nat.xor (Nat.shiftRight xx 2) (Nat.shiftRight xx 13)) (Nat.shiftRight xx 22)
def fg0 (x : Nat) : Nat := Nat.xor (Nat.mod (Nat.xor (Nat.shiftRight (Nat.mul x 4294967297) 7) (Nat.shiftRight (Nat.mul x 4294967297) 18)) 4294967296) (Nat.shiftRight x 3)
def fg1 (x : Nat) : Nat := Nat.xor (Nat.mod (Nat.xor (Nat.shiftRight (Nat.mul x 4294967297) 17) (Nat.shiftRight (Nat.mul x 4294967297) 19)) 4294967296) (Nat.shiftRight x 10)
def fnw (w0 w1 w9 w14 : Nat) : Nat := Nat.mod (Nat.add (Nat.add (Nat.add w0 (fg0 w1)) w9) (fg1 w14)) 4294967296
def ft1 (k w e f g h : Nat) : Nat := Nat.add (Nat.add (Nat.add (Nat.add h (Nat.mod (fs1 (Nat.mul e 4294967297)) 4294967296)) (Nat.xor g (Nat.land e (Nat.xor f g)))) k) w
def ft2 (a b c : Nat) : Nat := Nat.add (Nat.mod (fs0 (Nat.mul a 4294967297)) 4294967296) (Nat.xor (Nat.land a (Nat.xor b c)) (Nat.land b c))
def FSt : Type := Nat → Nat → Nat → Nat → Nat → Nat → Nat → Nat → Nat → Nat → Nat → Nat → Nat → Nat → Nat → Nat → Nat → Nat → Nat → Nat → Nat → Nat → Nat → Nat → Nat
def ffin (A B C D E F G H : Nat) : FSt := fun a b c d e f g h _ _ _ _ _ _ _ _ _ _ _ _ _ _ _ _ =>
  Nat.add (Nat.mul (Nat.add (Nat.mul (Nat.add (Nat.mul (Nat.add (Nat.mul (Nat.add (Nat.mul (Nat.add (Nat.mul (Nat.add (Nat.mul (Nat.mod (Nat.add A a) 4294967296) 4294967296) (Nat.mod (Nat.add B b) 4294967296)) 4294967296) (Nat.mod (Nat.add C c) 4294967296)) 4294967296) (Nat.mod (Nat.add D d) 4294967296)) 4294967296) (Nat.mod (Nat.add E e) 4294967296)) 4294967296) (Nat.mod (Nat.add F f) 4294967296)) 4294967296) (Nat.mod (Nat.add G g) 4294967296)) 4294967296) (Nat.mod (Nat.add H h) 4294967296)
noncomputable def frnds (A B C D E F G H : Nat) (l : List Nat) : FSt :=
  List.rec (motive := fun _ => FSt) (ffin A B C D E F G H)
    (fun k _ ih a b c d e f g h w0 w1 w2 w3 w4 w5 w6 w7 w8 w9 w10 w11 w12 w13 w14 w15 =>
      ih (Nat.mod (Nat.add (ft1 k w0 e f g h) (ft2 a b c)) 4294967296) a b c (Nat.mod (Nat.add d (ft1 k w0 e f g h)) 4294967296) e f g w1 w2 w3 w4 w5 w6 w7 w8 w9 w10 w11 w12 w13 w14 w15 (fnw w0 w1 w9 w14)) l
def fpk (S j : Nat) : Nat := Nat.mod (Nat.shiftRight S (Nat.sub 224 (Nat.mul 32 j))) 4294967296
def fwk (B j : Nat) : Nat := Nat.mod (Nat.shiftRight B (Nat.sub 480 (Nat.mul 32 j))) 4294967296
/-- one block: 256 bits and 512 bits to 256 bits -/
noncomputable def fblk (S B : Nat) : Nat :=
  frnds (fpk S 0) (fpk S 1) (fpk S 2) (fpk S 3) (fpk S 4) (fpk S 5) (fpk S 6) (fpk S 7) fks (fpk S 0) (fpk S 1) (fpk S 2) (fpk S 3) (fpk S 4) (fpk S 5) (fpk S 6) (fpk S 7)
   (fwk B 0) (fwk B 1) (fwk B 2) (fwk B 3) (fwk B 4) (fwk B 5) (fwk B 6) (fwk B 7) (fwk B 8) (fwk B 9) (fwk B 10) (fwk B 11) (fwk B 12) (fwk B 13) (fwk B 14) (fwk B 15)
/-! the operations on words, as naturals -/
theorem wrap32_nat {n : Nat} (h : n < 4294967296) : IntKind.u32.wrap (n : Int) = (n : Int) := by simp [IntKind.wrap, IntKind.bits, IntKind.signed]; omega
theorem ofInt_nat {x : Nat} (h : x < 4294967296) : (BitVec.ofInt 32 (x : Int)).toNat = x := by
  rw [BitVec.toNat_ofInt]; omega
theorem bits_or {x y : Nat} (hx : x < 4294967296) (hy : y < 4294967296) : bits .or .u32 (x : Int) (y : Int) = ((x ||| y : Nat) : Int) := by
  show IntKind.u32.wrap (((BitVec.ofInt 32 (x : Int)) ||| (BitVec.ofInt 32 (y : Int))).toNat : Int) = _
  rw [BitVec.toNat_or, ofInt_nat hx, ofInt_nat hy, wrap32_nat (Nat.or_lt_two_pow (n := 32) hx hy)]
theorem bits_and {x y : Nat} (hx : x < 4294967296) (hy : y < 4294967296) : bits .and .u32 (x : Int) (y : Int) = ((x &&& y : Nat) : Int) := by
  show IntKind.u32.wrap (((BitVec.ofInt 32 (x : Int)) &&& (BitVec.ofInt 32 (y : Int))).toNat : Int) = _
  rw [BitVec.toNat_and, ofInt_nat hx, ofInt_nat hy, wrap32_nat (Nat.and_lt_two_pow (n := 32) x hy)]
theorem bits_xor {x y : Nat} (hx : x < 4294967296) (hy : y < 4294967296) : bits .xor .u32 (x : Int) (y : Int) = ((x ^^^ y : Nat) : Int) := by
  show IntKind.u32.wrap (((BitVec.ofInt 32 (x : Int)) ^^^ (BitVec.ofInt 32 (y : Int))).toNat : Int) = _
  rw [BitVec.toNat_xor, ofInt_nat hx, ofInt_nat hy, wrap32_nat (Nat.xor_lt_two_pow (n := 32) hx hy)]
theorem xor_lt {x y : Nat} (hx : x < 4294967296) (hy : y < 4294967296) : x ^^^ y < 4294967296 := Nat.xor_lt_two_pow (n := 32) hx hy
theorem and_lt {x y : Nat} (hy : y < 4294967296) : x &&& y < 4294967296 := Nat.and_lt_two_pow (n := 32) x hy
/-- a word turned -/
def rotN (x n : Nat) : Nat := (x * 4294967297) / 2 ^ n % 4294967296
theorem rotN_lt (x n : Nat) : rotN x n < 4294967296 := Nat.mod_lt _ (by decide)
theorem or_add (a b i : Nat) (h : a < 2 ^ i) : a ||| 2 ^ i * b = 2 ^ i * b + a := by
  rw [Nat.or_comm, Nat.two_pow_add_eq_or_of_lt h]
theorem rotr_nat {x n : Nat} (hx : x < 4294967296) (h0 : 0 < n) (hn : n < 32) : rotr (x : Int) (n : Int) = (rotN x n : Int) := by
  have hp : 0 < 2 ^ n := Nat.pow_pos (by decide)
  have hpp : 2 ^ n * 2 ^ (32 - n) = 4294967296 := by rw [← Nat.pow_add, show n + (32 - n) = 32 by omega]
  have hq : x / 2 ^ n < 2 ^ (32 - n) := (Nat.div_lt_iff_lt_mul hp).2 (by rw [Nat.mul_comm, hpp]; exact hx)
  have e1 : x * 2 ^ (32 - n) % 4294967296 = 2 ^ (32 - n) * (x % 2 ^ n) := by
    rw [← hpp, Nat.mul_comm x, Nat.mul_comm (2 ^ n), Nat.mul_mod_mul_left]
  have e2 : rotr (x : Int) (n : Int) = bits .or .u32 ((x / 2 ^ n : Nat) : Int) ((x * 2 ^ (32 - n) % 4294967296 : Nat) : Int) := by
    unfold rotr
    rw [show (n : Int).toNat = n by omega, show (32 - (n : Int)).toNat = 32 - n by omega]
    congr 1
  rw [e2, bits_or (Nat.lt_of_le_of_lt (Nat.div_le_self _ _) hx) (Nat.mod_lt _ (by decide)), e1, or_add _ _ _ hq]
  unfold rotN
  have e3 : x * 4294967297 = 2 ^ n * (x * 2 ^ (32 - n)) + x := by
    have : 2 ^ n * (x * 2 ^ (32 - n)) = x * 4294967296 := by rw [← hpp]; rw [Nat.mul_left_comm]
    rw [this]; omega
  rw [e3, Nat.mul_add_div hp]
  have e4 : x * 2 ^ (32 - n) = 4294967296 * (x / 2 ^ n) + 2 ^ (32 - n) * (x % 2 ^ n) := by
    conv => lhs; rw [← Nat.div_add_mod x (2 ^ n)]
    rw [Nat.add_mul, ← hpp]
    congr 1
    · rw [Nat.mul_right_comm]
    · rw [Nat.mul_comm]
  rw [e4, Nat.add_assoc, Nat.mul_add_mod]
  have hb : 2 ^ (32 - n) * (x % 2 ^ n) + x / 2 ^ n < 4294967296 := by
    have h1 : x % 2 ^ n + 1 ≤ 2 ^ n := Nat.mod_lt _ hp
    have h2 := Nat.mul_le_mul_left (2 ^ (32 - n)) h1
    rw [Nat.mul_add, Nat.mul_comm _ (2 ^ n), hpp] at h2
    omega
  rw [Nat.mod_eq_of_lt hb]
theorem rotN_shift (x n : Nat) : rotN x n = Nat.mod (Nat.shiftRight (Nat.mul x 4294967297) n) 4294967296 := by
  unfold rotN
  show _ = (x * 4294967297) >>> n % 4294967296
  rw [Nat.shiftRight_eq_div_pow]
theorem xor_mod32 (a b : Nat) : (a ^^^ b) % 4294967296 = (a % 4294967296) ^^^ (b % 4294967296) := Nat.xor_mod_two_pow (n := 32)
theorem fs1_eq (x : Nat) : Nat.mod (fs1 (Nat.mul x 4294967297)) 4294967296 = rotN x 6 ^^^ rotN x 11 ^^^ rotN x 25 := by
  rw [rotN_shift, rotN_shift, rotN_shift]
  unfold fs1
  show (_ ^^^ _ ^^^ _) % 4294967296 = _
  rw [xor_mod32, xor_mod32]
  rfl
theorem fs0_eq (x : Nat) : Nat.mod (fs0 (Nat.mul x 4294967297)) 4294967296 = rotN x 2 ^^^ rotN x 13 ^^^ rotN x 22 := by
  rw [rotN_shift, rotN_shift, rotN_shift]
  unfold fs0
  show (_ ^^^ _ ^^^ _) % 4294967296 = _
  rw [xor_mod32, xor_mod32]
  rfl
theorem fg0_eq (x : Nat) : fg0 x = rotN x 7 ^^^ rotN x 18 ^^^ x / 8 := by
  rw [rotN_shift, rotN_shift]
  unfold fg0
  show (_ ^^^ _) % 4294967296 ^^^ x >>> 3 = _
  rw [xor_mod32, Nat.shiftRight_eq_div_pow]
  rfl
theorem fg1_eq (x : Nat) : fg1 x = rotN x 17 ^^^ rotN x 19 ^^^ x / 1024 := by
  rw [rotN_shift, rotN_shift]
  unfold fg1
  show (_ ^^^ _) % 4294967296 ^^^ x >>> 10 = _
  rw [xor_mod32, Nat.shiftRight_eq_div_pow]
  rfl
/-- the choice of bits -/
theorem ch_eq {e f g : Nat} (hf : f < 4294967296) (hg : g < 4294967296) : (e &&& f) ^^^ ((4294967295 ^^^ e) &&& g) = g ^^^ (e &&& (f ^^^ g)) := by
  apply Nat.eq_of_testBit_eq
  intro i
  have hm : (4294967295 : Nat).testBit i = decide (i < 32) := by rw [show (4294967295 : Nat) = 2 ^ 32 - 1 from rfl, Nat.testBit_two_pow_sub_one]
  simp only [Nat.testBit_xor, Nat.testBit_and, hm]
  by_cases hi : i < 32
  · simp only [hi, decide_true]
    cases e.testBit i <;> cases f.testBit i <;> cases g.testBit i <;> rfl
  · have z : ∀ x, x < 4294967296 → x.testBit i = false := fun x hx => Nat.testBit_lt_two_pow (Nat.lt_of_lt_of_le hx (Nat.pow_le_pow_right (n := 2) (by decide) (show 32 ≤ i by omega)))
    rw [z f hf, z g hg]
    simp
theorem maj_eq (a b c : Nat) : (a &&& b) ^^^ (a &&& c) ^^^ (b &&& c) = (a &&& (b ^^^ c)) ^^^ (b &&& c) := by
  apply Nat.eq_of_testBit_eq
  intro i
  simp only [Nat.testBit_xor, Nat.testBit_and]
  cases a.testBit i <;> cases b.testBit i <;> cases c.testBit i <;> rfl
theorem mix4_nat {x0 x1 x2 x3 : Nat} (h1 : x1 < 4294967296) (h3 : x3 < 4294967296) : mix4 (x0 : Int) x1 x2 x3 = (fnw x0 x1 x2 x3 : Int) := by
  have d1 : x1 / 8 < 4294967296 := by omega
  have d3 : x3 / 1024 < 4294967296 := by omega
  unfold mix4
  rw [show rotr (x1 : Int) 7 = _ from rotr_nat h1 (n := 7) (by decide) (by decide), show rotr (x1 : Int) 18 = _ from rotr_nat h1 (n := 18) (by decide) (by decide),
    show rotr (x3 : Int) 17 = _ from rotr_nat h3 (n := 17) (by decide) (by decide), show rotr (x3 : Int) 19 = _ from rotr_nat h3 (n := 19) (by decide) (by decide)]
  rw [bits_xor (rotN_lt _ _) (rotN_lt _ _), bits_xor (rotN_lt _ _) (rotN_lt _ _), show (x1 : Int) / 8 = ((x1 / 8 : Nat) : Int) by omega, show (x3 : Int) / 1024 = ((x3 / 1024 : Nat) : Int) by omega,
    bits_xor (xor_lt (rotN_lt _ _) (rotN_lt _ _)) d1, bits_xor (xor_lt (rotN_lt _ _) (rotN_lt _ _)) d3, ← fg0_eq, ← fg1_eq]
  show _ = (((x0 + fg0 x1 + x2 + fg1 x3) % 4294967296 : Nat) : Int)
  generalize fg0 x1 = y1
  generalize fg1 x3 = y3
  omega
/-- the eight words as naturals -/
structure N8 where
  a : Nat
  b : Nat
  c : Nat
  d : Nat
  e : Nat
  f : Nat
  g : Nat
  h : Nat
def N8.int (s : N8) : R8 := ⟨s.a, s.b, s.c, s.d, s.e, s.f, s.g, s.h⟩
structure N8.Ok (s : N8) : Prop where
  a : s.a < 4294967296
  b : s.b < 4294967296
  c : s.c < 4294967296
  d : s.d < 4294967296
  e : s.e < 4294967296
  f : s.f < 4294967296
  g : s.g < 4294967296
  h : s.h < 4294967296
def nrnd (k w : Nat) (s : N8) : N8 := ⟨(ft1 k w s.e s.f s.g s.h + ft2 s.a s.b s.c) % 4294967296, s.a, s.b, s.c, (s.d + ft1 k w s.e s.f s.g s.h) % 4294967296, s.e, s.f, s.g⟩
theorem nrnd_ok {s : N8} (h : s.Ok) (k w : Nat) : (nrnd k w s).Ok := ⟨Nat.mod_lt _ (by decide), h.a, h.b, h.c, Nat.mod_lt _ (by decide), h.e, h.f, h.g⟩
theorem rnd_nat {s : N8} (h : s.Ok) (k w : Nat) : rnd (k : Int) (w : Int) s.int = (nrnd k w s).int := by
  have x1 : rndX (k : Int) (w : Int) s.int = ((ft1 k w s.e s.f s.g s.h : Nat) : Int) % 4294967296 := by
    unfold rndX N8.int
    simp only []
    rw [show rotr (s.e : Int) 6 = _ from rotr_nat h.e (n := 6) (by decide) (by decide), show rotr (s.e : Int) 11 = _ from rotr_nat h.e (n := 11) (by decide) (by decide), show rotr (s.e : Int) 25 = _ from rotr_nat h.e (n := 25) (by decide) (by decide),
      bits_xor (rotN_lt _ _) (rotN_lt _ _), bits_xor (xor_lt (rotN_lt _ _) (rotN_lt _ _)) (rotN_lt _ _), bits_and h.e h.f, show (if IntKind.u32.signed = true then (-1 : Int) else IntKind.u32.max) = ((4294967295 : Nat) : Int) from rfl,
      bits_xor (by decide) h.e, bits_and (xor_lt (by decide) h.e) h.g, bits_xor (and_lt h.f) (and_lt h.g), ch_eq h.f h.g, ← fs1_eq]
    show _ = ((s.h + Nat.mod (fs1 (Nat.mul s.e 4294967297)) 4294967296 + (s.g ^^^ (s.e &&& (s.f ^^^ s.g))) + k + w : Nat) : Int) % 4294967296
    generalize Nat.mod (fs1 (Nat.mul s.e 4294967297)) 4294967296 = y1
    generalize (s.g ^^^ (s.e &&& (s.f ^^^ s.g))) = y2
    omega
  have x2 : rndY s.int = ((ft2 s.a s.b s.c : Nat) : Int) % 4294967296 := by
    unfold rndY N8.int
    simp only []
    rw [show rotr (s.a : Int) 2 = _ from rotr_nat h.a (n := 2) (by decide) (by decide), show rotr (s.a : Int) 13 = _ from rotr_nat h.a (n := 13) (by decide) (by decide), show rotr (s.a : Int) 22 = _ from rotr_nat h.a (n := 22) (by decide) (by decide),
      bits_xor (rotN_lt _ _) (rotN_lt _ _), bits_xor (xor_lt (rotN_lt _ _) (rotN_lt _ _)) (rotN_lt _ _), bits_and h.a h.b, bits_and h.a h.c, bits_and h.b h.c, bits_xor (and_lt h.b) (and_lt h.c),
      bits_xor (xor_lt (and_lt h.b) (and_lt h.c)) (and_lt h.c), maj_eq, ← fs0_eq]
    show _ = ((Nat.mod (fs0 (Nat.mul s.a 4294967297)) 4294967296 + ((s.a &&& (s.b ^^^ s.c)) ^^^ (s.b &&& s.c)) : Nat) : Int) % 4294967296
    generalize Nat.mod (fs0 (Nat.mul s.a 4294967297)) 4294967296 = y1
    generalize ((s.a &&& (s.b ^^^ s.c)) ^^^ (s.b &&& s.c)) = y2
    omega
  unfold rnd
  rw [x1, x2]
  generalize hX : ft1 k w s.e s.f s.g s.h = X
  generalize hY : ft2 s.a s.b s.c = Y
  unfold N8.int nrnd
  rw [hX, hY]
  simp only [R8.mk.injEq]
  refine ⟨by omega, trivial, trivial, trivial, by omega, trivial, trivial, trivial⟩
end Go.Proofs.YtmlpldkgennmkaaDoor
end
section
namespace Go.Proofs.YtmlpldkgennmkaaDoor
set_option maxRecDepth 100000
/-- the words of a block, on and on -/
def wn (b : Nat → Nat) (t : Nat) : Nat := if _h : t < 16 then b t else fnw (wn b (t - 16)) (wn b (t - 15)) (wn b (t - 7)) (wn b (t - 2))
termination_by t
theorem wn_lo (b : Nat → Nat) {t : Nat} (h : t < 16) : wn b t = b t := by rw [wn, dif_pos h]
theorem wn_hi (b : Nat → Nat) (t : Nat) : wn b (t + 16) = fnw (wn b t) (wn b (t + 1)) (wn b (t + 9)) (wn b (t + 14)) := by
  rw [wn, dif_neg (by omega)]
  rfl
theorem wn_lt {b : Nat → Nat} (hb : ∀ t, t < 16 → b t < 4294967296) (t : Nat) : wn b t < 4294967296 := by
  by_cases h : t < 16
  · rw [wn_lo b h]; exact hb t h
  · obtain ⟨k, rfl⟩ : ∃ k, t = k + 16 := ⟨t - 16, by omega⟩
    rw [wn_hi]
    exact Nat.mod_lt _ (by decide)
theorem getD_set_i (l : List Int) (i j : Nat) (x : Int) (hi : i < l.length) : (l.set i x).getD j 0 = if j = i then x else l.getD j 0 := by
  simp only [List.getD_eq_getElem?_getD, List.getElem?_set]
  by_cases h : i = j
  · subst h; simp [hi]
  · rw [if_neg h, if_neg (fun e => h e.symm)]
theorem sch1_at (B : List Int) (t : Nat) (ht : t ≤ 16) : ∀ j, j < t → (sch1 B t).getD j 0 = word B j := by
  induction t with
  | zero => intro j hj; omega
  | succ t ih =>
    intro j hj
    rw [sch1, getD_set_i _ _ _ _ (by rw [sch1_length]; omega)]
    by_cases h : j = t
    · rw [if_pos h, h]
    · rw [if_neg h]; exact ih (by omega) j (by omega)
theorem sch2_at (B : List Int) (b : Nat → Nat) (hb : ∀ t, t < 16 → b t < 4294967296) (hB : ∀ t, t < 16 → word B t = (b t : Int)) (n : Nat) (hn : n ≤ 48) : ∀ j, j < 16 + n → (sch2 B n).getD j 0 = (wn b j : Int) := by
  induction n with
  | zero =>
    intro j hj
    rw [wn_lo b (by omega), ← hB j (by omega)]
    exact sch1_at B 16 (Nat.le_refl _) j (by omega)
  | succ n ih =>
    intro j hj
    rw [sch2, getD_set_i _ _ _ _ (by rw [sch2_length]; omega)]
    by_cases h : j = 16 + n
    · rw [if_pos h, h]
      unfold mixAt
      rw [ih (by omega) _ (by omega), ih (by omega) _ (by omega), ih (by omega) _ (by omega), ih (by omega) _ (by omega), mix4_nat (wn_lt hb _) (wn_lt hb _), Nat.add_comm 16 n, wn_hi]
      rw [show n + 16 - 16 = n by omega, show n + 16 - 15 = n + 1 by omega, show n + 16 - 7 = n + 9 by omega, show n + 16 - 2 = n + 14 by omega]
    · rw [if_neg h]; exact ih (by omega) j (by omega)
/-- the words that turn, behind t rounds -/
def nst (W : Nat → Nat) (s : N8) : Nat → N8
  | 0 => s
  | t + 1 => nrnd (fks.getD t 0) (W t) (nst W s t)
theorem nst_ok (W : Nat → Nat) {s : N8} (h : s.Ok) (t : Nat) : (nst W s t).Ok := by
  induction t with
  | zero => exact h
  | succ t ih => exact nrnd_ok ih _ _
theorem ktab_nat (t : Nat) : ktab.getD t 0 = (fks.getD t 0 : Int) := by
  have h : ktab = fks.map (fun n : Nat => (n : Int)) := by decide
  rw [h, List.getD_eq_getElem?_getD, List.getD_eq_getElem?_getD, List.getElem?_map]
  cases fks[t]? <;> rfl
theorem rnds_nat {V : List Int} {W : Nat → Nat} {s : N8} (h : s.Ok) (t : Nat) (ht : t ≤ 64) (hV : ∀ j, j < 64 → V.getD j 0 = (W j : Int)) : rnds V s.int t = (nst W s t).int := by
  induction t with
  | zero => rfl
  | succ t ih => rw [rnds, ih (by omega), hV t (by omega), ktab_nat, rnd_nat (nst_ok W h t)]; rfl
/-- eight words as one number -/
def pkR (s : N8) : Nat := ((((((s.a * 4294967296 + s.b) * 4294967296 + s.c) * 4294967296 + s.d) * 4294967296 + s.e) * 4294967296 + s.f) * 4294967296 + s.g) * 4294967296 + s.h
def N8.plus (s v : N8) : N8 := ⟨(s.a + v.a) % 4294967296, (s.b + v.b) % 4294967296, (s.c + v.c) % 4294967296, (s.d + v.d) % 4294967296, (s.e + v.e) % 4294967296, (s.f + v.f) % 4294967296, (s.g + v.g) % 4294967296, (s.h + v.h) % 4294967296⟩
theorem N8.plus_ok (s v : N8) : (s.plus v).Ok := ⟨Nat.mod_lt _ (by decide), Nat.mod_lt _ (by decide), Nat.mod_lt _ (by decide), Nat.mod_lt _ (by decide), Nat.mod_lt _ (by decide), Nat.mod_lt _ (by decide), Nat.mod_lt _ (by decide), Nat.mod_lt _ (by decide)⟩
theorem N8.plus_int (s v : N8) : s.int.add v.int = (s.plus v).int := by
  unfold R8.add N8.int N8.plus
  simp only [R8.mk.injEq]
  refine ⟨by omega, by omega, by omega, by omega, by omega, by omega, by omega, by omega⟩
theorem frnds_nil (A v : N8) (w0 w1 w2 w3 w4 w5 w6 w7 w8 w9 w10 w11 w12 w13 w14 w15 : Nat) :
    frnds A.a A.b A.c A.d A.e A.f A.g A.h [] v.a v.b v.c v.d v.e v.f v.g v.h w0 w1 w2 w3 w4 w5 w6 w7 w8 w9 w10 w11 w12 w13 w14 w15 = pkR (A.plus v) := rfl
theorem frnds_fun (A B C D E F G H k : Nat) (r : List Nat) : frnds A B C D E F G H (k :: r) = fun a b c d e f g h w0 w1 w2 w3 w4 w5 w6 w7 w8 w9 w10 w11 w12 w13 w14 w15 =>
    frnds A B C D E F G H r (Nat.mod (Nat.add (ft1 k w0 e f g h) (ft2 a b c)) 4294967296) a b c (Nat.mod (Nat.add d (ft1 k w0 e f g h)) 4294967296) e f g w1 w2 w3 w4 w5 w6 w7 w8 w9 w10 w11 w12 w13 w14 w15 (fnw w0 w1 w9 w14) := rfl
theorem nrnd_a (k w : Nat) (v : N8) : (nrnd k w v).a = Nat.mod (Nat.add (ft1 k w v.e v.f v.g v.h) (ft2 v.a v.b v.c)) 4294967296 := rfl
theorem nrnd_e (k w : Nat) (v : N8) : (nrnd k w v).e = Nat.mod (Nat.add v.d (ft1 k w v.e v.f v.g v.h)) 4294967296 := rfl
theorem frnds_cons (A v : N8) (k : Nat) (r : List Nat) (w0 w1 w2 w3 w4 w5 w6 w7 w8 w9 w10 w11 w12 w13 w14 w15 : Nat) :
    frnds A.a A.b A.c A.d A.e A.f A.g A.h (k :: r) v.a v.b v.c v.d v.e v.f v.g v.h w0 w1 w2 w3 w4 w5 w6 w7 w8 w9 w10 w11 w12 w13 w14 w15
      = frnds A.a A.b A.c A.d A.e A.f A.g A.h r (nrnd k w0 v).a (nrnd k w0 v).b (nrnd k w0 v).c (nrnd k w0 v).d (nrnd k w0 v).e (nrnd k w0 v).f (nrnd k w0 v).g (nrnd k w0 v).h w1 w2 w3 w4 w5 w6 w7 w8 w9 w10 w11 w12 w13 w14 w15 (fnw w0 w1 w9 w14) := by
  rw [frnds_fun, nrnd_a, nrnd_e]
  rfl
theorem fks_drop (t : Nat) (h : t < 64) : fks.drop t = fks.getD t 0 :: fks.drop (t + 1) := by
  have hl : t < fks.length := h
  rw [List.drop_eq_getElem_cons hl, List.getD_eq_getElem?_getD, List.getElem?_eq_getElem hl, Option.getD_some]
theorem nst_succ (W : Nat → Nat) (s : N8) (t : Nat) : nst W s (t + 1) = nrnd (fks.getD t 0) (W t) (nst W s t) := rfl
/-- the rounds from t on -/
noncomputable def fgo (A : N8) (b : Nat → Nat) (s : N8) (t : Nat) : Nat :=
    frnds A.a A.b A.c A.d A.e A.f A.g A.h (fks.drop t) (nst (wn b) s t).a (nst (wn b) s t).b (nst (wn b) s t).c (nst (wn b) s t).d (nst (wn b) s t).e (nst (wn b) s t).f (nst (wn b) s t).g (nst (wn b) s t).h
      (wn b t) (wn b (t + 1)) (wn b (t + 2)) (wn b (t + 3)) (wn b (t + 4)) (wn b (t + 5)) (wn b (t + 6)) (wn b (t + 7)) (wn b (t + 8)) (wn b (t + 9)) (wn b (t + 10)) (wn b (t + 11)) (wn b (t + 12)) (wn b (t + 13)) (wn b (t + 14)) (wn b (t + 15))
theorem fgo_step (A : N8) (b : Nat → Nat) (s : N8) (t : Nat) (h : t < 64) : fgo A b s t = fgo A b s (t + 1) := by
  unfold fgo
  rw [fks_drop t h, frnds_cons, ← nst_succ, ← wn_hi, show t + 1 + 15 = t + 16 by omega, show t + 1 + 1 = t + 2 by omega, show t + 1 + 2 = t + 3 by omega, show t + 1 + 3 = t + 4 by omega, show t + 1 + 4 = t + 5 by omega, show t + 1 + 5 = t + 6 by omega, show t + 1 + 6 = t + 7 by omega,
      show t + 1 + 7 = t + 8 by omega, show t + 1 + 8 = t + 9 by omega, show t + 1 + 9 = t + 10 by omega, show t + 1 + 10 = t + 11 by omega, show t + 1 + 11 = t + 12 by omega, show t + 1 + 12 = t + 13 by omega, show t + 1 + 13 = t + 14 by omega, show t + 1 + 14 = t + 15 by omega]
theorem fgo_end (A : N8) (b : Nat → Nat) (s : N8) : fgo A b s 64 = pkR (A.plus (nst (wn b) s 64)) := by
  unfold fgo
  rw [show fks.drop 64 = [] from rfl]
  generalize nst (wn b) s 64 = v
  exact frnds_nil A v _ _ _ _ _ _ _ _ _ _ _ _ _ _ _ _
theorem fgo_all (A : N8) (b : Nat → Nat) (s : N8) (m : Nat) : ∀ t, t + m = 64 → fgo A b s t = pkR (A.plus (nst (wn b) s 64)) := by
  induction m with
  | zero =>
    intro t ht
    rw [show t = 64 by omega, fgo_end]
  | succ m ih =>
    intro t ht
    rw [fgo_step A b s t (by omega), ih (t + 1) (by omega)]
/-! bytes as a number -/
def num (l : List UInt8) : Nat := l.foldl (fun a x => a * 256 + x.toNat) 0
theorem num_go (l : List UInt8) : ∀ a, l.foldl (fun a x => a * 256 + x.toNat) a = a * 256 ^ l.length + num l := by
  induction l with
  | nil => intro a; simp [num]
  | cons x l ih =>
    intro a
    unfold num
    rw [List.foldl_cons, List.foldl_cons, ih, ih (0 * 256 + x.toNat), List.length_cons, Nat.pow_succ]
    rw [Nat.add_mul, Nat.zero_mul, Nat.zero_add, Nat.mul_assoc, Nat.mul_comm 256, Nat.add_assoc]
theorem num_append (a b : List UInt8) : num (a ++ b) = num a * 256 ^ b.length + num b := by
  conv => lhs; unfold num
  rw [List.foldl_append]
  exact num_go b _
theorem num_one (x : UInt8) : num [x] = x.toNat := by simp [num]
theorem num_cons (x : UInt8) (l : List UInt8) : num (x :: l) = x.toNat * 256 ^ l.length + num l := by
  rw [show x :: l = [x] ++ l from rfl, num_append, num_one]
theorem num_lt (l : List UInt8) : num l < 256 ^ l.length := by
  induction l with
  | nil => decide
  | cons x l ih =>
    rw [num_cons, List.length_cons, Nat.pow_succ]
    have hx : x.toNat + 1 ≤ 256 := x.toNat_lt
    have := Nat.mul_le_mul_right (256 ^ l.length) hx
    rw [Nat.add_mul] at this
    omega
theorem num_inj : ∀ {a b : List UInt8}, a.length = b.length → num a = num b → a = b
  | [], [], _, _ => rfl
  | [], _ :: _, h, _ => by simp at h
  | _ :: _, [], h, _ => by simp at h
  | x :: a, y :: b, h, e => by
    have hl : a.length = b.length := by simpa using h
    rw [num_cons, num_cons, hl] at e
    have h1 := num_lt a
    have h2 := num_lt b
    rw [hl] at h1
    have hp : 0 < 256 ^ b.length := Nat.pow_pos (by decide)
    have hx : x.toNat = y.toNat := by
      have : (x.toNat * 256 ^ b.length + num a) / 256 ^ b.length = (y.toNat * 256 ^ b.length + num b) / 256 ^ b.length := by rw [e]
      rwa [Nat.mul_comm, Nat.mul_add_div hp, Nat.div_eq_of_lt h1, Nat.mul_comm y.toNat, Nat.mul_add_div hp, Nat.div_eq_of_lt h2, Nat.add_zero, Nat.add_zero] at this
    rw [hx] at e
    rw [num_inj hl (Nat.add_left_cancel e), UInt8.toNat_inj.1 hx]
theorem num_take (l : List UInt8) (k : Nat) (_hk : k ≤ l.length) : num l / 256 ^ (l.length - k) = num (l.take k) := by
  conv => lhs; rw [← List.take_append_drop k l, num_append]
  have h1 := num_lt (l.drop k)
  have hl : (l.drop k).length = l.length - k := by simp
  rw [hl] at h1
  rw [hl, List.take_append_drop, Nat.mul_comm, Nat.mul_add_div (Nat.pow_pos (by decide)), Nat.div_eq_of_lt h1, Nat.add_zero]
theorem two_or {a b i : Nat} (h : b < 2 ^ i) : 2 ^ i * a ||| b = 2 ^ i * a + b := (Nat.two_pow_add_eq_or_of_lt h a).symm
/-- four bytes as a word -/
theorem word4_nat {a b c d : Nat} (ha : a < 256) (hb : b < 256) (hc : c < 256) (hd : d < 256) : word4 (a : Int) b c d = ((((a * 256 + b) * 256 + c) * 256 + d : Nat) : Int) := by
  unfold word4
  rw [show (a : Int) % 4294967296 * 16777216 % 4294967296 = ((2 ^ 24 * a : Nat) : Int) by omega, show (b : Int) % 4294967296 * 65536 % 4294967296 = ((2 ^ 16 * b : Nat) : Int) by omega,
    show (c : Int) % 4294967296 * 256 % 4294967296 = ((2 ^ 8 * c : Nat) : Int) by omega, show (d : Int) % 4294967296 = (d : Int) by omega]
  rw [bits_or (by omega) (by omega), two_or (by omega), show 2 ^ 24 * a + 2 ^ 16 * b = 2 ^ 16 * (a * 256 + b) by omega, bits_or (by omega) (by omega), two_or (by omega),
    show 2 ^ 16 * (a * 256 + b) + 2 ^ 8 * c = 2 ^ 8 * ((a * 256 + b) * 256 + c) by omega, bits_or (by omega) (by omega), two_or (by omega)]
  congr 1
  omega
theorem getD_ints (l : List UInt8) (i : Nat) (h : i < l.length) : (ints l).getD i 0 = (((l.getD i 0).toNat : Nat) : Int) := by
  rw [ints_getD l i h, List.getD_eq_getElem?_getD, List.getElem?_eq_getElem h]; rfl
theorem take4 (l : List UInt8) (k : Nat) (h : k + 4 ≤ l.length) : l.take (k + 4) = l.take k ++ [l.getD k 0, l.getD (k + 1) 0, l.getD (k + 2) 0, l.getD (k + 3) 0] := by
  have g : ∀ i, i < l.length → l.take (i + 1) = l.take i ++ [l.getD i 0] := fun i hi => by
    rw [List.take_succ_eq_append_getElem hi, List.getD_eq_getElem?_getD, List.getElem?_eq_getElem hi]; rfl
  rw [show k + 4 = k + 3 + 1 from rfl, g (k + 3) (by omega), show k + 3 = k + 2 + 1 from rfl, g (k + 2) (by omega), show k + 2 = k + 1 + 1 from rfl, g (k + 1) (by omega), g k (by omega)]
  simp
theorem word_fwk (l : List UInt8) (hl : l.length = 64) (t : Nat) (ht : t < 16) : word (ints l) t = (fwk (num l) t : Int) := by
  unfold word
  rw [getD_ints l _ (by omega), getD_ints l _ (by omega), getD_ints l _ (by omega), getD_ints l _ (by omega), word4_nat (UInt8.toNat_lt _) (UInt8.toNat_lt _) (UInt8.toNat_lt _) (UInt8.toNat_lt _)]
  congr 1
  show _ = (num l >>> (480 - 32 * t)) % 4294967296
  rw [Nat.shiftRight_eq_div_pow, show 2 ^ (480 - 32 * t) = 256 ^ (l.length - (4 * t + 4)) by rw [show (256 : Nat) = 2 ^ 8 from rfl, ← Nat.pow_mul, hl]; congr 1; omega, num_take l (4 * t + 4) (by omega), take4 l (4 * t) (by omega), num_append]
  have hb : ∀ x : UInt8, x.toNat < 256 := fun x => x.toNat_lt
  have h0 := hb (l.getD (4 * t) 0); have h1 := hb (l.getD (4 * t + 1) 0); have h2 := hb (l.getD (4 * t + 2) 0); have h3 := hb (l.getD (4 * t + 3) 0)
  simp only [num, List.foldl_cons, List.foldl_nil, List.length_cons, List.length_nil]
  generalize (l.take (4 * t)).foldl (fun a x => a * 256 + x.toNat) 0 = q
  omega
theorem pk_parts {s : N8} (h : s.Ok) : fpk (pkR s) 0 = s.a ∧ fpk (pkR s) 1 = s.b ∧ fpk (pkR s) 2 = s.c ∧ fpk (pkR s) 3 = s.d ∧ fpk (pkR s) 4 = s.e ∧ fpk (pkR s) 5 = s.f ∧ fpk (pkR s) 6 = s.g ∧ fpk (pkR s) 7 = s.h := by
  obtain ⟨ha, hb, hc, hd, he, hf, hg, hh⟩ := h
  have q : ∀ n j, fpk n j = n / 2 ^ (224 - 32 * j) % 4294967296 := fun n j => by
    show (n >>> (224 - 32 * j)) % 4294967296 = _
    rw [Nat.shiftRight_eq_div_pow]
  simp only [q]
  unfold pkR
  refine ⟨?_, ?_, ?_, ?_, ?_, ?_, ?_, ?_⟩ <;> omega
/-- ONE BLOCK -/
theorem blk_num {s : N8} (h : s.Ok) (l : List UInt8) (hl : l.length = 64) : ∃ s' : N8, s'.Ok ∧ blk s.int (ints l) = s'.int ∧ pkR s' = fblk (pkR s) (num l) := by
  have hb : ∀ t, t < 16 → fwk (num l) t < 4294967296 := fun t _ => Nat.mod_lt _ (by decide)
  have hW := sch2_at (ints l) (fwk (num l)) hb (word_fwk l hl) 48 (Nat.le_refl _)
  refine ⟨s.plus (nst (wn (fwk (num l))) s 64), N8.plus_ok _ _, ?_, ?_⟩
  · unfold blk
    rw [show sched (ints l) = sch2 (ints l) 48 from rfl, rnds_nat h 64 (Nat.le_refl _) (W := wn (fwk (num l))) (fun j hj => hW j hj), N8.plus_int]
  · have := fgo_all s (fwk (num l)) s 64 0 rfl
    rw [← this]
    unfold fgo
    obtain ⟨p0, p1, p2, p3, p4, p5, p6, p7⟩ := pk_parts h
    unfold fblk
    rw [p0, p1, p2, p3, p4, p5, p6, p7]
    simp only [Nat.zero_add]
    rw [wn_lo _ (t := 0) (by decide), wn_lo _ (t := 1) (by decide), wn_lo _ (t := 2) (by decide), wn_lo _ (t := 3) (by decide), wn_lo _ (t := 4) (by decide), wn_lo _ (t := 5) (by decide), wn_lo _ (t := 6) (by decide), wn_lo _ (t := 7) (by decide), wn_lo _ (t := 8) (by decide),
      wn_lo _ (t := 9) (by decide), wn_lo _ (t := 10) (by decide), wn_lo _ (t := 11) (by decide), wn_lo _ (t := 12) (by decide), wn_lo _ (t := 13) (by decide), wn_lo _ (t := 14) (by decide), wn_lo _ (t := 15) (by decide)]
    rfl
end Go.Proofs.YtmlpldkgennmkaaDoor
end
section
namespace Go.Proofs.YtmlpldkgennmkaaDoor
set_option maxRecDepth 100000
def R0N : N8 := ⟨1779033703, 3144134277, 1013904242, 2773480762, 1359893119, 2600822924, 528734635, 1541459225⟩
theorem R0N_int : R0 = R0N.int := rfl
theorem R0N_ok : R0N.Ok := ⟨by decide, by decide, by decide, by decide, by decide, by decide, by decide, by decide⟩
/-- the beginning -/
def fR0 : Nat := 47962653771679561900652889051773562940742041696833059450490514104358170316057
theorem fR0_eq : pkR R0N = fR0 := by decide +kernel
/-- the first n blocks -/
noncomputable def nfold (l : List UInt8) : Nat → Nat
  | 0 => fR0
  | n + 1 => fblk (nfold l n) (num ((l.drop (64 * n)).take 64))
theorem fold_num (l : List UInt8) (n : Nat) (h : 64 * n ≤ l.length) : ∃ s : N8, s.Ok ∧ fold R0 l n = s.int ∧ pkR s = nfold l n := by
  induction n with
  | zero => exact ⟨R0N, R0N_ok, R0N_int, fR0_eq⟩
  | succ n ih =>
    obtain ⟨s, h1, h2, h3⟩ := ih (by omega)
    obtain ⟨s', k1, k2, k3⟩ := blk_num h1 ((l.drop (64 * n)).take 64) (by simp; omega)
    exact ⟨s', k1, by rw [fold, h2, k2], by rw [k3, h3]; rfl⟩
theorem byteOf_nat (x : Nat) : (byteOf (x : Int)).toNat = x % 256 := by
  unfold byteOf
  rw [UInt8.toNat_ofNat']
  omega
theorem num_out4 (x : Nat) (hx : x < 4294967296) : num (out4 (x : Int)) = x := by
  have e1 : (byteOf ((x : Int) / 16777216)).toNat = x / 16777216 % 256 := by rw [show (x : Int) / 16777216 = ((x / 16777216 : Nat) : Int) by omega, byteOf_nat]
  have e2 : (byteOf ((x : Int) / 65536)).toNat = x / 65536 % 256 := by rw [show (x : Int) / 65536 = ((x / 65536 : Nat) : Int) by omega, byteOf_nat]
  have e3 : (byteOf ((x : Int) / 256)).toNat = x / 256 % 256 := by rw [show (x : Int) / 256 = ((x / 256 : Nat) : Int) by omega, byteOf_nat]
  have e4 := byteOf_nat x
  unfold out4 num
  simp only [List.foldl_cons, List.foldl_nil, e1, e2, e3, e4]
  omega
theorem out4_length (x : Int) : (out4 x).length = 4 := rfl
theorem num_out {s : N8} (h : s.Ok) : num (outOf s.int.list) = pkR s := by
  unfold outOf N8.int R8.list
  simp only [List.flatMap_cons, List.flatMap_nil, num_append, num_out4 _ h.a, num_out4 _ h.b, num_out4 _ h.c, num_out4 _ h.d, num_out4 _ h.e, num_out4 _ h.f, num_out4 _ h.g, num_out4 _ h.h, List.length_append, out4_length, List.length_nil, Nat.add_zero]
  unfold pkR num
  simp only [List.foldl_nil]
  omega
theorem pad_len (l : List UInt8) : 64 * ((pad l).length / 64) = (pad l).length := by
  unfold pad
  rw [List.length_append, tailOf_length]
  unfold zerosOf
  omega
/-- SHA AS A NUMBER -/
theorem num_sha (l : List UInt8) : num (sha l) = nfold (pad l) ((pad l).length / 64) := by
  obtain ⟨s, h1, h2, h3⟩ := fold_num (pad l) ((pad l).length / 64) (Nat.le_of_eq (pad_len l))
  unfold sha
  rw [h2, num_out h1, h3]
theorem num_be8 (n j : Nat) (hj : j ≤ 8) : num (be8 n j) = n / 2 ^ (64 - 8 * j) % 2 ^ (8 * j) := by
  induction j with
  | zero => simp [be8, num, Nat.mod_one]
  | succ j ih =>
    rw [be8, num_append, ih (by omega), num_one, List.length_singleton, Nat.pow_one]
    have e1 : ((n : Int) / 2 ^ (56 - 8 * j)) = ((n / 2 ^ (56 - 8 * j) : Nat) : Int) := by push_cast; rfl
    rw [e1, byteOf_nat, show 64 - 8 * j = (56 - 8 * j) + 8 by omega, Nat.pow_add, ← Nat.div_div_eq_div_mul, show 64 - 8 * (j + 1) = 56 - 8 * j by omega, show 8 * (j + 1) = 8 + 8 * j by omega, Nat.pow_add]
    generalize n / 2 ^ (56 - 8 * j) = m
    rw [Nat.mod_mul]
    show m / 256 % 2 ^ (8 * j) * 256 + m % 256 = m % 256 + 256 * (m / 256 % 2 ^ (8 * j))
    omega
theorem num_zeros (n : Nat) : num (List.replicate n 0) = 0 := by
  induction n with
  | zero => rfl
  | succ n ih => rw [List.replicate_succ, num_cons, ih]; simp
theorem num_tail (n : Nat) (h : n < 2305843009213693952) : num (tailOf n) = 128 * 256 ^ (zerosOf n + 8) + 8 * n := by
  unfold tailOf
  rw [List.cons_append, num_cons, num_append, num_zeros, num_be8 _ _ (Nat.le_refl _), List.length_append, List.length_replicate, be8_length]
  simp
  omega
theorem num_pad (l : List UInt8) (h : l.length < 2305843009213693952) : num (pad l) = (num l * 256 + 128) * 256 ^ (zerosOf l.length + 8) + 8 * l.length := by
  unfold pad
  rw [num_append, num_tail _ h, tailOf_length, show zerosOf l.length + 9 = 1 + (zerosOf l.length + 8) by omega, Nat.pow_add, ← Nat.mul_assoc, Nat.pow_one, Nat.add_mul]
  omega
/-- SHA of a short text -/
theorem num_short (l : List UInt8) (h : l.length ≤ 55) : num (sha l) = fblk fR0 ((num l * 256 + 128) * 256 ^ (63 - l.length) + 8 * l.length) := by
  have hp : (pad l).length = 64 := by unfold pad; rw [List.length_append, tailOf_length]; unfold zerosOf; omega
  rw [num_sha, hp, show 64 / 64 = 0 + 1 from rfl, nfold, nfold, Nat.mul_zero, List.drop_zero, List.take_of_length_le (by omega), num_pad l (by omega)]
  rw [show zerosOf l.length + 8 = 63 - l.length by unfold zerosOf; omega]
/-- a step of a chain -/
noncomputable def fstep (x : Nat) : Nat := fblk fR0 (Nat.add (Nat.mul (Nat.add x 231584178474632390847141970017375815706539969331281128078915168015826259279872) 452312848583266388373324160190187140051835877600158453279131187530910662656) 226156424291633194186662080095093570025917938800079226639565593765455331592)
theorem p32 : 2 * 256 ^ 32 = 231584178474632390847141970017375815706539969331281128078915168015826259279872 := by decide +kernel
theorem p30 : 256 * 256 ^ 30 = 452312848583266388373324160190187140051835877600158453279131187530910662656 := by decide +kernel
theorem q30 : 128 * 256 ^ 30 + 8 * 33 = 226156424291633194186662080095093570025917938800079226639565593765455331592 := by decide +kernel
theorem num_step (l : List UInt8) (h : l.length = 32) : num (sha (2 :: l)) = fstep (num l) := by
  rw [num_short (2 :: l) (by simp [h]), num_cons, h, List.length_cons, h]
  unfold fstep
  rw [show (2 : UInt8).toNat = 2 from rfl, p32, show 63 - (32 + 1) = 30 from rfl, show 32 + 1 = 33 from rfl, Nat.add_mul, Nat.mul_assoc, p30, Nat.add_assoc, q30, Nat.add_comm 231584178474632390847141970017375815706539969331281128078915168015826259279872 (num l)]
  rfl
theorem sha_inj_num {a : List UInt8} {b : List UInt8} (hb : b.length = 32) (h : num (sha a) = num b) : sha a = b := num_inj (by rw [sha_length, hb]) h
end Go.Proofs.YtmlpldkgennmkaaDoor
end
