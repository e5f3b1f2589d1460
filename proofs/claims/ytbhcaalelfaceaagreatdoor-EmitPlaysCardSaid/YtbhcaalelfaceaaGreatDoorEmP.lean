/- The ones of a number: how many, and how many of the lowest (plain: no program in sight). -/
import Derived.Lib.TrailingZeros
namespace Go.Proofs.YtbhcaalelfaceaaGreatDoor
/-- how many of the first bits are ones -/
def pcF : Nat → Nat → Nat
  | 0, _ => 0
  | f + 1, n => n % 2 + pcF f (n / 2)
def pcnt (n : Nat) : Nat := pcF 64 n
/-- how many of the lowest bits are ones -/
def tnF : Nat → Nat → Nat
  | 0, _ => 0
  | f + 1, n => if n % 2 = 1 then 1 + tnF f (n / 2) else 0
def tones (n : Nat) : Nat := tnF 64 n
theorem pcF_succ : ∀ (f n : Nat), n + 1 < 2 ^ f → pcF f (n + 1) + tnF f n = pcF f n + 1
  | 0, n, h => by simp at h
  | f + 1, n, h => by
    have h2 : 2 ^ (f + 1) = 2 * 2 ^ f := by rw [Nat.pow_succ]; omega
    unfold pcF tnF
    by_cases e : n % 2 = 1
    · rw [if_pos e, show (n + 1) / 2 = n / 2 + 1 by omega]
      have := pcF_succ f (n / 2) (by omega)
      omega
    · rw [if_neg e, show (n + 1) / 2 = n / 2 by omega]
      omega
theorem pcnt_succ {n : Nat} (h : n + 1 < 18446744073709551616) : pcnt (n + 1) + tones n = pcnt n + 1 := pcF_succ 64 n h
theorem tnF_le : ∀ (f n : Nat), tnF f n ≤ pcF f n
  | 0, _ => Nat.le_refl _
  | f + 1, n => by
    unfold pcF tnF
    have := tnF_le f (n / 2)
    split <;> omega
theorem tones_le (n : Nat) : tones n ≤ pcnt n := tnF_le 64 n
theorem pcF_le : ∀ (f n : Nat), pcF f n ≤ f
  | 0, _ => Nat.le_refl _
  | f + 1, n => by
    unfold pcF
    have := pcF_le f (n / 2)
    omega
theorem pcnt_le (n : Nat) : pcnt n ≤ 64 := pcF_le 64 n
theorem tones_64 (n : Nat) : tones n ≤ 64 := Nat.le_trans (tones_le n) (pcnt_le n)
theorem pcF_zero : ∀ f, pcF f 0 = 0
  | 0 => rfl
  | f + 1 => by unfold pcF; rw [pcF_zero f]
theorem pcnt_zero : pcnt 0 = 0 := pcF_zero 64
/-- the trailing zeros of the complement -/
theorem ctz_tones : ∀ (f n : Nat), n + 1 < 2 ^ f → Lib.ctzFrom f (2 ^ f - 1 - n) = tnF f n
  | 0, n, h => by simp at h
  | f + 1, n, h => by
    have h2 : 2 ^ (f + 1) = 2 * 2 ^ f := by rw [Nat.pow_succ]; omega
    unfold Lib.ctzFrom tnF
    by_cases e : n % 2 = 1
    · rw [if_neg (by omega), if_pos e, show (2 ^ (f + 1) - 1 - n) / 2 = 2 ^ f - 1 - n / 2 by omega, ctz_tones f (n / 2) (by omega)]
    · rw [if_pos (by omega), if_neg e]
theorem ctz_not {n : Nat} (h : n + 1 < 18446744073709551616) : Lib.ctz 64 (18446744073709551615 - n) = tones n := by
  unfold Lib.ctz
  rw [if_neg (by omega)]
  exact ctz_tones 64 n h
/-- a step of the loop that counts by taking the lowest one away -/
theorem pcF_and : ∀ (f x : Nat), 0 < x → x < 2 ^ f → pcF f (x &&& (x - 1)) + 1 = pcF f x
  | 0, x, h, h2 => by simp at h2; omega
  | f + 1, x, h, h2 => by
    have h3 : 2 ^ (f + 1) = 2 * 2 ^ f := by rw [Nat.pow_succ]; omega
    have m1 : (x &&& (x - 1)) % 2 = 0 := by
      have := Nat.and_mod_two_pow (a := x) (b := x - 1) (n := 1)
      simp only [Nat.pow_one] at this
      rw [this]
      rcases Nat.mod_two_eq_zero_or_one x with e | e
      · rw [e]; simp
      · rw [show (x - 1) % 2 = 0 by omega]; simp
    have d1 : (x &&& (x - 1)) / 2 = (x / 2) &&& ((x - 1) / 2) := by
      have := Nat.and_div_two_pow (a := x) (b := x - 1) (n := 1)
      simpa only [Nat.pow_one] using this
    unfold pcF
    rw [m1, d1]
    rcases Nat.mod_two_eq_zero_or_one x with e | e
    · rw [show (x - 1) / 2 = x / 2 - 1 by omega]
      have := pcF_and f (x / 2) (by omega) (by omega)
      omega
    · rw [show (x - 1) / 2 = x / 2 by omega, Nat.and_self]
      omega
theorem pcnt_and {x : Nat} (h : 0 < x) (h2 : x < 18446744073709551616) : pcnt (x &&& (x - 1)) + 1 = pcnt x := pcF_and 64 x h h2
/-! ### math/bits.OnesCount64, byte by byte -/
/-- the mask of so many bytes -/
def mskB (m : Nat) : Nat → Nat
  | 0 => 0
  | k + 1 => m + 256 * mskB m k
def oc1 (M x : Nat) : Nat := ((x / 2) &&& M) + (x &&& M)
def oc2 (M x : Nat) : Nat := ((x / 4) &&& M) + (x &&& M)
def oc3 (M x : Nat) : Nat := (x / 16 + x) &&& M
theorem and_byte (x M q r m : Nat) {q' : Nat} (hr : r < 256) (hm : m < 256) (h : x = 256 * q + r) (hM : M = m + 256 * q') : x &&& M = 256 * (q &&& q') + (r &&& m) := by
  subst h hM
  have e1 := Nat.and_div_two_pow (a := 256 * q + r) (b := m + 256 * q') (n := 8)
  have e2 := Nat.and_mod_two_pow (a := 256 * q + r) (b := m + 256 * q') (n := 8)
  simp only [show 2 ^ 8 = 256 from rfl] at e1 e2
  rw [show (256 * q + r) / 256 = q by omega, show (m + 256 * q') / 256 = q' by omega] at e1
  rw [show (256 * q + r) % 256 = r by omega, show (m + 256 * q') % 256 = m by omega] at e2
  omega
theorem by1 : ∀ b, b < 2 → ∀ r, r < 256 → ((b * 128 + r / 2) &&& 85) = ((r / 2) &&& 85) := by decide +kernel
theorem by2 : ∀ b, b < 4 → ∀ r, r < 256 → ((b * 64 + r / 4) &&& 51) = ((r / 4) &&& 51) := by decide +kernel
theorem by3 : ∀ b, b < 7 → ∀ r, r < 256 → r % 16 < 7 → r / 16 < 7 → b * 16 + r / 16 + r < 256 ∧ ((b * 16 + r / 16 + r) &&& 15) = ((r / 16 + r) &&& 15) := by decide +kernel
theorem bl1 : ∀ r, r < 256 → oc1 85 r < 256 := by decide +kernel
theorem bl2 : ∀ r, r < 256 → oc2 51 r < 256 ∧ oc2 51 r % 16 < 7 ∧ oc2 51 r / 16 < 7 := by decide +kernel
theorem bl3 : ∀ r, r < 256 → oc3 15 (oc2 51 (oc1 85 r)) = pcF 8 r := by decide +kernel
theorem oc1_byte (q r k : Nat) (hr : r < 256) : oc1 (mskB 85 (k + 1)) (256 * q + r) = 256 * oc1 (mskB 85 k) q + oc1 85 r := by
  unfold oc1
  rw [and_byte ((256 * q + r) / 2) (mskB 85 (k + 1)) (q / 2) (q % 2 * 128 + r / 2) 85 (by omega) (by decide) (by omega) rfl, and_byte (256 * q + r) (mskB 85 (k + 1)) q r 85 hr (by decide) rfl rfl, by1 _ (by omega) r hr]
  omega
theorem oc2_byte (q r k : Nat) (hr : r < 256) : oc2 (mskB 51 (k + 1)) (256 * q + r) = 256 * oc2 (mskB 51 k) q + oc2 51 r := by
  unfold oc2
  rw [and_byte ((256 * q + r) / 4) (mskB 51 (k + 1)) (q / 4) (q % 4 * 64 + r / 4) 51 (by omega) (by decide) (by omega) rfl, and_byte (256 * q + r) (mskB 51 (k + 1)) q r 51 hr (by decide) rfl rfl, by2 _ (by omega) r hr]
  omega
theorem oc3_byte (q r k : Nat) (hr : r < 256) (h1 : r % 16 < 7) (h2 : r / 16 < 7) (hq : q % 16 < 7) : oc3 (mskB 15 (k + 1)) (256 * q + r) = 256 * oc3 (mskB 15 k) q + oc3 15 r := by
  unfold oc3
  obtain ⟨a1, a2⟩ := by3 (q % 16) hq r hr h1 h2
  rw [and_byte ((256 * q + r) / 16 + (256 * q + r)) (mskB 15 (k + 1)) (q / 16 + q) (q % 16 * 16 + r / 16 + r) 15 a1 (by decide) (by omega) rfl, a2]
theorem oc2_low : ∀ (k x : Nat), oc2 (mskB 51 k) x % 16 < 7
  | 0, x => by unfold oc2 mskB; simp
  | k + 1, x => by
    have h := oc2_byte (x / 256) (x % 256) k (by omega)
    rw [show 256 * (x / 256) + x % 256 = x by omega] at h
    have := (bl2 (x % 256) (by omega)).2.1
    omega
/-- the counts of the bytes -/
def ocs : Nat → Nat → Nat
  | 0, _ => 0
  | k + 1, x => 256 * ocs k (x / 256) + pcF 8 (x % 256)
theorem oc_bytes : ∀ (k x : Nat), x < 256 ^ k → oc3 (mskB 15 k) (oc2 (mskB 51 k) (oc1 (mskB 85 k) x)) = ocs k x
  | 0, x, h => by unfold oc3 mskB ocs; simp
  | k + 1, x, h => by
    have h1 := oc1_byte (x / 256) (x % 256) k (by omega)
    rw [show 256 * (x / 256) + x % 256 = x by omega] at h1
    have b1 := bl1 (x % 256) (by omega)
    have b2 := bl2 (oc1 85 (x % 256)) b1
    have ih := oc_bytes k (x / 256) (by rw [Nat.pow_succ] at h; omega)
    rw [h1, oc2_byte _ _ _ b1, oc3_byte _ _ _ b2.1 b2.2.1 b2.2.2 (oc2_low _ _), ih, bl3 _ (by omega)]
    rfl
theorem pcF_split : ∀ (f g n : Nat), pcF (f + g) n = pcF f (n % 2 ^ f) + pcF g (n / 2 ^ f)
  | 0, g, n => by simp [pcF]
  | f + 1, g, n => by
    rw [show f + 1 + g = (f + g) + 1 by omega]
    show n % 2 + pcF (f + g) (n / 2) = (n % 2 ^ (f + 1) % 2 + pcF f (n % 2 ^ (f + 1) / 2)) + pcF g (n / 2 ^ (f + 1))
    rw [pcF_split f g (n / 2)]
    have e1 : n % 2 ^ (f + 1) % 2 = n % 2 := by rw [Nat.pow_succ, Nat.mul_comm, Nat.mod_mul_right_mod]
    have e2 : n % 2 ^ (f + 1) / 2 = n / 2 % 2 ^ f := by rw [Nat.pow_succ, Nat.mul_comm, Nat.mod_mul_right_div_self]
    have e3 : n / 2 / 2 ^ f = n / 2 ^ (f + 1) := by rw [Nat.div_div_eq_div_mul, Nat.pow_succ, Nat.mul_comm]
    rw [e1, e2, e3]
    exact (Nat.add_assoc _ _ _).symm
theorem ones_count {x : Nat} (h : x < 18446744073709551616) :
    let a := ocs 8 x
    let b := a + a / 256
    let c := b + b / 65536
    (c + c / 4294967296) % 128 = pcnt x ∧ c + c / 4294967296 < 18446744073709551616 := by
  have e : pcnt x = pcF 8 (x % 256) + (pcF 8 (x / 256 % 256) + (pcF 8 (x / 256 / 256 % 256) + (pcF 8 (x / 256 / 256 / 256 % 256) + (pcF 8 (x / 256 / 256 / 256 / 256 % 256) + (pcF 8 (x / 256 / 256 / 256 / 256 / 256 % 256) + (pcF 8 (x / 256 / 256 / 256 / 256 / 256 / 256 % 256) + pcF 8 (x / 256 / 256 / 256 / 256 / 256 / 256 / 256 % 256))))))) := by
    unfold pcnt
    rw [show 64 = 8 + 56 from rfl, pcF_split 8 56, show 56 = 8 + 48 from rfl, pcF_split 8 48, show 48 = 8 + 40 from rfl, pcF_split 8 40, show 40 = 8 + 32 from rfl, pcF_split 8 32, show 32 = 8 + 24 from rfl, pcF_split 8 24, show 24 = 8 + 16 from rfl, pcF_split 8 16, show 16 = 8 + 8 from rfl, pcF_split 8 8]
    simp only [show 2 ^ 8 = 256 from rfl]
    rw [show x / 256 / 256 / 256 / 256 / 256 / 256 / 256 % 256 = x / 256 / 256 / 256 / 256 / 256 / 256 / 256 by omega]
  have l := fun y => pcF_le 8 y
  have l0 := l (x % 256); have l1 := l (x / 256 % 256); have l2 := l (x / 256 / 256 % 256); have l3 := l (x / 256 / 256 / 256 % 256)
  have l4 := l (x / 256 / 256 / 256 / 256 % 256); have l5 := l (x / 256 / 256 / 256 / 256 / 256 % 256); have l6 := l (x / 256 / 256 / 256 / 256 / 256 / 256 % 256); have l7 := l (x / 256 / 256 / 256 / 256 / 256 / 256 / 256 % 256)
  simp only [ocs]
  generalize pcF 8 (x % 256) = c0 at *
  generalize pcF 8 (x / 256 % 256) = c1 at *
  generalize pcF 8 (x / 256 / 256 % 256) = c2 at *
  generalize pcF 8 (x / 256 / 256 / 256 % 256) = c3 at *
  generalize pcF 8 (x / 256 / 256 / 256 / 256 % 256) = c4 at *
  generalize pcF 8 (x / 256 / 256 / 256 / 256 / 256 % 256) = c5 at *
  generalize pcF 8 (x / 256 / 256 / 256 / 256 / 256 / 256 % 256) = c6 at *
  generalize pcF 8 (x / 256 / 256 / 256 / 256 / 256 / 256 / 256 % 256) = c7 at *
  clear l h
  rw [e]
  clear e
  obtain ⟨A7, h7⟩ : ∃ A, A = c7 := ⟨_, rfl⟩
  obtain ⟨A6, h6⟩ : ∃ A, A = c6 + 256 * A7 := ⟨_, rfl⟩
  obtain ⟨A5, h5⟩ : ∃ A, A = c5 + 256 * A6 := ⟨_, rfl⟩
  obtain ⟨A4, h4⟩ : ∃ A, A = c4 + 256 * A5 := ⟨_, rfl⟩
  obtain ⟨A3, h3⟩ : ∃ A, A = c3 + 256 * A4 := ⟨_, rfl⟩
  obtain ⟨A2, h2⟩ : ∃ A, A = c2 + 256 * A3 := ⟨_, rfl⟩
  obtain ⟨A1, h1⟩ : ∃ A, A = c1 + 256 * A2 := ⟨_, rfl⟩
  rw [show 256 * (256 * (256 * (256 * (256 * (256 * (256 * (256 * 0 + c7) + c6) + c5) + c4) + c3) + c2) + c1) + c0 = c0 + 256 * A1 by omega]
  rw [show (c0 + 256 * A1) / 256 = A1 by omega]
  rw [show (c0 + 256 * A1 + A1) / 65536 = A2 + A3 by omega]
  rw [show (c0 + 256 * A1 + A1 + (A2 + A3)) / 4294967296 = A4 + A5 + A6 + A7 by omega]
  constructor <;> omega
end Go.Proofs.YtbhcaalelfaceaaGreatDoor
