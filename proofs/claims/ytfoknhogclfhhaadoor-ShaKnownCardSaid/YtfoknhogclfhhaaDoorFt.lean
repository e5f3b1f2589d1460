/- SHA by naturals: the schedule, the rounds, the fold over blocks. -/
import Derived.Test.YtfoknhogclfhhaaDoorFs
namespace Go.Proofs.YtfoknhogclfhhaaDoor
set_option maxRecDepth 100000
/-- the words of a block, on and on -/
def wn (b : Nat → Nat) (t : Nat) : Nat := if _h : t < 16 then b t else fnw (wn b (t - 16)) (wn b (t - 15)) (wn b (t - 7)) (wn b (t - 2))
termination_by t
theorem wn_lo (b : Nat → Nat) {t : Nat} (h : t < 16) : wn b t = b t := by rw [wn, dif_pos h]
theorem wn_hi (b : Nat → Nat) (t : Nat) : wn b (t + 16) = fnw (wn b t) (wn b (t + 1)) (wn b (t + 9)) (wn b (t + 14)) := by
  rw [wn, dif_neg (by omega)]
  rfl
theorem wn_lt {b : Nat → Nat} (hb : ∀ t, t < 16 → b t < 4294967296) (t : Nat) : wn b t < 4294967296 := by
  by_cases h : t < 16
  · rw [wn_lo b h]; exact hb t h
  · obtain ⟨k, rfl⟩ : ∃ k, t = k + 16 := ⟨t - 16, by omega⟩
    rw [wn_hi]
    exact Nat.mod_lt _ (by decide)
theorem getD_set_i (l : List Int) (i j : Nat) (x : Int) (hi : i < l.length) : (l.set i x).getD j 0 = if j = i then x else l.getD j 0 := by
  simp only [List.getD_eq_getElem?_getD, List.getElem?_set]
  by_cases h : i = j
  · subst h; simp [hi]
  · rw [if_neg h, if_neg (fun e => h e.symm)]
theorem sch1_at (B : List Int) (t : Nat) (ht : t ≤ 16) : ∀ j, j < t → (sch1 B t).getD j 0 = word B j := by
  induction t with
  | zero => intro j hj; omega
  | succ t ih =>
    intro j hj
    rw [sch1, getD_set_i _ _ _ _ (by rw [sch1_length]; omega)]
    by_cases h : j = t
    · rw [if_pos h, h]
    · rw [if_neg h]; exact ih (by omega) j (by omega)
theorem sch2_at (B : List Int) (b : Nat → Nat) (hb : ∀ t, t < 16 → b t < 4294967296) (hB : ∀ t, t < 16 → word B t = (b t : Int)) (n : Nat) (hn : n ≤ 48) : ∀ j, j < 16 + n → (sch2 B n).getD j 0 = (wn b j : Int) := by
  induction n with
  | zero =>
    intro j hj
    rw [wn_lo b (by omega), ← hB j (by omega)]
    exact sch1_at B 16 (Nat.le_refl _) j (by omega)
  | succ n ih =>
    intro j hj
    rw [sch2, getD_set_i _ _ _ _ (by rw [sch2_length]; omega)]
    by_cases h : j = 16 + n
    · rw [if_pos h, h]
      unfold mixAt
      rw [ih (by omega) _ (by omega), ih (by omega) _ (by omega), ih (by omega) _ (by omega), ih (by omega) _ (by omega), mix4_nat (wn_lt hb _) (wn_lt hb _), Nat.add_comm 16 n, wn_hi]
      rw [show n + 16 - 16 = n by omega, show n + 16 - 15 = n + 1 by omega, show n + 16 - 7 = n + 9 by omega, show n + 16 - 2 = n + 14 by omega]
    · rw [if_neg h]; exact ih (by omega) j (by omega)
/-- the words that turn, behind t rounds -/
def nst (W : Nat → Nat) (s : N8) : Nat → N8
  | 0 => s
  | t + 1 => nrnd (fks.getD t 0) (W t) (nst W s t)
theorem nst_ok (W : Nat → Nat) {s : N8} (h : s.Ok) (t : Nat) : (nst W s t).Ok := by
  induction t with
  | zero => exact h
  | succ t ih => exact nrnd_ok ih _ _
theorem ktab_nat (t : Nat) : ktab.getD t 0 = (fks.getD t 0 : Int) := by
  have h : ktab = fks.map (fun n : Nat => (n : Int)) := by decide
  rw [h, List.getD_eq_getElem?_getD, List.getD_eq_getElem?_getD, List.getElem?_map]
  cases fks[t]? <;> rfl
theorem rnds_nat {V : List Int} {W : Nat → Nat} {s : N8} (h : s.Ok) (t : Nat) (ht : t ≤ 64) (hV : ∀ j, j < 64 → V.getD j 0 = (W j : Int)) : rnds V s.int t = (nst W s t).int := by
  induction t with
  | zero => rfl
  | succ t ih => rw [rnds, ih (by omega), hV t (by omega), ktab_nat, rnd_nat (nst_ok W h t)]; rfl
/-- eight words as one number -/
def pkR (s : N8) : Nat := ((((((s.a * 4294967296 + s.b) * 4294967296 + s.c) * 4294967296 + s.d) * 4294967296 + s.e) * 4294967296 + s.f) * 4294967296 + s.g) * 4294967296 + s.h
def N8.plus (s v : N8) : N8 := ⟨(s.a + v.a) % 4294967296, (s.b + v.b) % 4294967296, (s.c + v.c) % 4294967296, (s.d + v.d) % 4294967296, (s.e + v.e) % 4294967296, (s.f + v.f) % 4294967296, (s.g + v.g) % 4294967296, (s.h + v.h) % 4294967296⟩
theorem N8.plus_ok (s v : N8) : (s.plus v).Ok := ⟨Nat.mod_lt _ (by decide), Nat.mod_lt _ (by decide), Nat.mod_lt _ (by decide), Nat.mod_lt _ (by decide), Nat.mod_lt _ (by decide), Nat.mod_lt _ (by decide), Nat.mod_lt _ (by decide), Nat.mod_lt _ (by decide)⟩
theorem N8.plus_int (s v : N8) : s.int.add v.int = (s.plus v).int := by
  unfold R8.add N8.int N8.plus
  simp only [R8.mk.injEq]
  refine ⟨by omega, by omega, by omega, by omega, by omega, by omega, by omega, by omega⟩
theorem frnds_nil (A v : N8) (w0 w1 w2 w3 w4 w5 w6 w7 w8 w9 w10 w11 w12 w13 w14 w15 : Nat) :
    frnds A.a A.b A.c A.d A.e A.f A.g A.h [] v.a v.b v.c v.d v.e v.f v.g v.h w0 w1 w2 w3 w4 w5 w6 w7 w8 w9 w10 w11 w12 w13 w14 w15 = pkR (A.plus v) := rfl
theorem frnds_fun (A B C D E F G H k : Nat) (r : List Nat) : frnds A B C D E F G H (k :: r) = fun a b c d e f g h w0 w1 w2 w3 w4 w5 w6 w7 w8 w9 w10 w11 w12 w13 w14 w15 =>
    frnds A B C D E F G H r (Nat.mod (Nat.add (ft1 k w0 e f g h) (ft2 a b c)) 4294967296) a b c (Nat.mod (Nat.add d (ft1 k w0 e f g h)) 4294967296) e f g w1 w2 w3 w4 w5 w6 w7 w8 w9 w10 w11 w12 w13 w14 w15 (fnw w0 w1 w9 w14) := rfl
theorem nrnd_a (k w : Nat) (v : N8) : (nrnd k w v).a = Nat.mod (Nat.add (ft1 k w v.e v.f v.g v.h) (ft2 v.a v.b v.c)) 4294967296 := rfl
theorem nrnd_e (k w : Nat) (v : N8) : (nrnd k w v).e = Nat.mod (Nat.add v.d (ft1 k w v.e v.f v.g v.h)) 4294967296 := rfl
theorem frnds_cons (A v : N8) (k : Nat) (r : List Nat) (w0 w1 w2 w3 w4 w5 w6 w7 w8 w9 w10 w11 w12 w13 w14 w15 : Nat) :
    frnds A.a A.b A.c A.d A.e A.f A.g A.h (k :: r) v.a v.b v.c v.d v.e v.f v.g v.h w0 w1 w2 w3 w4 w5 w6 w7 w8 w9 w10 w11 w12 w13 w14 w15
      = frnds A.a A.b A.c A.d A.e A.f A.g A.h r (nrnd k w0 v).a (nrnd k w0 v).b (nrnd k w0 v).c (nrnd k w0 v).d (nrnd k w0 v).e (nrnd k w0 v).f (nrnd k w0 v).g (nrnd k w0 v).h w1 w2 w3 w4 w5 w6 w7 w8 w9 w10 w11 w12 w13 w14 w15 (fnw w0 w1 w9 w14) := by
  rw [frnds_fun, nrnd_a, nrnd_e]
  rfl
theorem fks_drop (t : Nat) (h : t < 64) : fks.drop t = fks.getD t 0 :: fks.drop (t + 1) := by
  have hl : t < fks.length := h
  rw [List.drop_eq_getElem_cons hl, List.getD_eq_getElem?_getD, List.getElem?_eq_getElem hl, Option.getD_some]
theorem nst_succ (W : Nat → Nat) (s : N8) (t : Nat) : nst W s (t + 1) = nrnd (fks.getD t 0) (W t) (nst W s t) := rfl
/-- the rounds from t on -/
noncomputable def fgo (A : N8) (b : Nat → Nat) (s : N8) (t : Nat) : Nat :=
    frnds A.a A.b A.c A.d A.e A.f A.g A.h (fks.drop t) (nst (wn b) s t).a (nst (wn b) s t).b (nst (wn b) s t).c (nst (wn b) s t).d (nst (wn b) s t).e (nst (wn b) s t).f (nst (wn b) s t).g (nst (wn b) s t).h
      (wn b t) (wn b (t + 1)) (wn b (t + 2)) (wn b (t + 3)) (wn b (t + 4)) (wn b (t + 5)) (wn b (t + 6)) (wn b (t + 7)) (wn b (t + 8)) (wn b (t + 9)) (wn b (t + 10)) (wn b (t + 11)) (wn b (t + 12)) (wn b (t + 13)) (wn b (t + 14)) (wn b (t + 15))
theorem fgo_step (A : N8) (b : Nat → Nat) (s : N8) (t : Nat) (h : t < 64) : fgo A b s t = fgo A b s (t + 1) := by
  unfold fgo
  rw [fks_drop t h, frnds_cons, ← nst_succ, ← wn_hi, show t + 1 + 15 = t + 16 by omega, show t + 1 + 1 = t + 2 by omega, show t + 1 + 2 = t + 3 by omega, show t + 1 + 3 = t + 4 by omega, show t + 1 + 4 = t + 5 by omega, show t + 1 + 5 = t + 6 by omega, show t + 1 + 6 = t + 7 by omega,
      show t + 1 + 7 = t + 8 by omega, show t + 1 + 8 = t + 9 by omega, show t + 1 + 9 = t + 10 by omega, show t + 1 + 10 = t + 11 by omega, show t + 1 + 11 = t + 12 by omega, show t + 1 + 12 = t + 13 by omega, show t + 1 + 13 = t + 14 by omega, show t + 1 + 14 = t + 15 by omega]
theorem fgo_end (A : N8) (b : Nat → Nat) (s : N8) : fgo A b s 64 = pkR (A.plus (nst (wn b) s 64)) := by
  unfold fgo
  rw [show fks.drop 64 = [] from rfl]
  generalize nst (wn b) s 64 = v
  exact frnds_nil A v _ _ _ _ _ _ _ _ _ _ _ _ _ _ _ _
theorem fgo_all (A : N8) (b : Nat → Nat) (s : N8) (m : Nat) : ∀ t, t + m = 64 → fgo A b s t = pkR (A.plus (nst (wn b) s 64)) := by
  induction m with
  | zero =>
    intro t ht
    rw [show t = 64 by omega, fgo_end]
  | succ m ih =>
    intro t ht
    rw [fgo_step A b s t (by omega), ih (t + 1) (by omega)]
/-! bytes as a number -/
def num (l : List UInt8) : Nat := l.foldl (fun a x => a * 256 + x.toNat) 0
theorem num_go (l : List UInt8) : ∀ a, l.foldl (fun a x => a * 256 + x.toNat) a = a * 256 ^ l.length + num l := by
  induction l with
  | nil => intro a; simp [num]
  | cons x l ih =>
    intro a
    unfold num
    rw [List.foldl_cons, List.foldl_cons, ih, ih (0 * 256 + x.toNat), List.length_cons, Nat.pow_succ]
    rw [Nat.add_mul, Nat.zero_mul, Nat.zero_add, Nat.mul_assoc, Nat.mul_comm 256, Nat.add_assoc]
theorem num_append (a b : List UInt8) : num (a ++ b) = num a * 256 ^ b.length + num b := by
  conv => lhs; unfold num
  rw [List.foldl_append]
  exact num_go b _
theorem num_one (x : UInt8) : num [x] = x.toNat := by simp [num]
theorem num_cons (x : UInt8) (l : List UInt8) : num (x :: l) = x.toNat * 256 ^ l.length + num l := by
  rw [show x :: l = [x] ++ l from rfl, num_append, num_one]
theorem num_lt (l : List UInt8) : num l < 256 ^ l.length := by
  induction l with
  | nil => decide
  | cons x l ih =>
    rw [num_cons, List.length_cons, Nat.pow_succ]
    have hx : x.toNat + 1 ≤ 256 := x.toNat_lt
    have := Nat.mul_le_mul_right (256 ^ l.length) hx
    rw [Nat.add_mul] at this
    omega
theorem num_inj : ∀ {a b : List UInt8}, a.length = b.length → num a = num b → a = b
  | [], [], _, _ => rfl
  | [], _ :: _, h, _ => by simp at h
  | _ :: _, [], h, _ => by simp at h
  | x :: a, y :: b, h, e => by
    have hl : a.length = b.length := by simpa using h
    rw [num_cons, num_cons, hl] at e
    have h1 := num_lt a
    have h2 := num_lt b
    rw [hl] at h1
    have hp : 0 < 256 ^ b.length := Nat.pow_pos (by decide)
    have hx : x.toNat = y.toNat := by
      have : (x.toNat * 256 ^ b.length + num a) / 256 ^ b.length = (y.toNat * 256 ^ b.length + num b) / 256 ^ b.length := by rw [e]
      rwa [Nat.mul_comm, Nat.mul_add_div hp, Nat.div_eq_of_lt h1, Nat.mul_comm y.toNat, Nat.mul_add_div hp, Nat.div_eq_of_lt h2, Nat.add_zero, Nat.add_zero] at this
    rw [hx] at e
    rw [num_inj hl (Nat.add_left_cancel e), UInt8.toNat_inj.1 hx]
theorem num_take (l : List UInt8) (k : Nat) (_hk : k ≤ l.length) : num l / 256 ^ (l.length - k) = num (l.take k) := by
  conv => lhs; rw [← List.take_append_drop k l, num_append]
  have h1 := num_lt (l.drop k)
  have hl : (l.drop k).length = l.length - k := by simp
  rw [hl] at h1
  rw [hl, List.take_append_drop, Nat.mul_comm, Nat.mul_add_div (Nat.pow_pos (by decide)), Nat.div_eq_of_lt h1, Nat.add_zero]
theorem two_or {a b i : Nat} (h : b < 2 ^ i) : 2 ^ i * a ||| b = 2 ^ i * a + b := (Nat.two_pow_add_eq_or_of_lt h a).symm
/-- four bytes as a word -/
theorem word4_nat {a b c d : Nat} (ha : a < 256) (hb : b < 256) (hc : c < 256) (hd : d < 256) : word4 (a : Int) b c d = ((((a * 256 + b) * 256 + c) * 256 + d : Nat) : Int) := by
  unfold word4
  rw [show (a : Int) % 4294967296 * 16777216 % 4294967296 = ((2 ^ 24 * a : Nat) : Int) by omega, show (b : Int) % 4294967296 * 65536 % 4294967296 = ((2 ^ 16 * b : Nat) : Int) by omega,
    show (c : Int) % 4294967296 * 256 % 4294967296 = ((2 ^ 8 * c : Nat) : Int) by omega, show (d : Int) % 4294967296 = (d : Int) by omega]
  rw [bits_or (by omega) (by omega), two_or (by omega), show 2 ^ 24 * a + 2 ^ 16 * b = 2 ^ 16 * (a * 256 + b) by omega, bits_or (by omega) (by omega), two_or (by omega),
    show 2 ^ 16 * (a * 256 + b) + 2 ^ 8 * c = 2 ^ 8 * ((a * 256 + b) * 256 + c) by omega, bits_or (by omega) (by omega), two_or (by omega)]
  congr 1
  omega
theorem getD_ints (l : List UInt8) (i : Nat) (h : i < l.length) : (ints l).getD i 0 = (((l.getD i 0).toNat : Nat) : Int) := by
  rw [ints_getD l i h, List.getD_eq_getElem?_getD, List.getElem?_eq_getElem h]; rfl
theorem take4 (l : List UInt8) (k : Nat) (h : k + 4 ≤ l.length) : l.take (k + 4) = l.take k ++ [l.getD k 0, l.getD (k + 1) 0, l.getD (k + 2) 0, l.getD (k + 3) 0] := by
  have g : ∀ i, i < l.length → l.take (i + 1) = l.take i ++ [l.getD i 0] := fun i hi => by
    rw [List.take_succ_eq_append_getElem hi, List.getD_eq_getElem?_getD, List.getElem?_eq_getElem hi]; rfl
  rw [show k + 4 = k + 3 + 1 from rfl, g (k + 3) (by omega), show k + 3 = k + 2 + 1 from rfl, g (k + 2) (by omega), show k + 2 = k + 1 + 1 from rfl, g (k + 1) (by omega), g k (by omega)]
  simp
theorem word_fwk (l : List UInt8) (hl : l.length = 64) (t : Nat) (ht : t < 16) : word (ints l) t = (fwk (num l) t : Int) := by
  unfold word
  rw [getD_ints l _ (by omega), getD_ints l _ (by omega), getD_ints l _ (by omega), getD_ints l _ (by omega), word4_nat (UInt8.toNat_lt _) (UInt8.toNat_lt _) (UInt8.toNat_lt _) (UInt8.toNat_lt _)]
  congr 1
  show _ = (num l >>> (480 - 32 * t)) % 4294967296
  rw [Nat.shiftRight_eq_div_pow, show 2 ^ (480 - 32 * t) = 256 ^ (l.length - (4 * t + 4)) by rw [show (256 : Nat) = 2 ^ 8 from rfl, ← Nat.pow_mul, hl]; congr 1; omega, num_take l (4 * t + 4) (by omega), take4 l (4 * t) (by omega), num_append]
  have hb : ∀ x : UInt8, x.toNat < 256 := fun x => x.toNat_lt
  have h0 := hb (l.getD (4 * t) 0); have h1 := hb (l.getD (4 * t + 1) 0); have h2 := hb (l.getD (4 * t + 2) 0); have h3 := hb (l.getD (4 * t + 3) 0)
  simp only [num, List.foldl_cons, List.foldl_nil, List.length_cons, List.length_nil]
  generalize (l.take (4 * t)).foldl (fun a x => a * 256 + x.toNat) 0 = q
  omega
theorem pk_parts {s : N8} (h : s.Ok) : fpk (pkR s) 0 = s.a ∧ fpk (pkR s) 1 = s.b ∧ fpk (pkR s) 2 = s.c ∧ fpk (pkR s) 3 = s.d ∧ fpk (pkR s) 4 = s.e ∧ fpk (pkR s) 5 = s.f ∧ fpk (pkR s) 6 = s.g ∧ fpk (pkR s) 7 = s.h := by
  obtain ⟨ha, hb, hc, hd, he, hf, hg, hh⟩ := h
  have q : ∀ n j, fpk n j = n / 2 ^ (224 - 32 * j) % 4294967296 := fun n j => by
    show (n >>> (224 - 32 * j)) % 4294967296 = _
    rw [Nat.shiftRight_eq_div_pow]
  simp only [q]
  unfold pkR
  refine ⟨?_, ?_, ?_, ?_, ?_, ?_, ?_, ?_⟩ <;> omega
/-- ONE BLOCK -/
theorem blk_num {s : N8} (h : s.Ok) (l : List UInt8) (hl : l.length = 64) : ∃ s' : N8, s'.Ok ∧ blk s.int (ints l) = s'.int ∧ pkR s' = fblk (pkR s) (num l) := by
  have hb : ∀ t, t < 16 → fwk (num l) t < 4294967296 := fun t _ => Nat.mod_lt _ (by decide)
  have hW := sch2_at (ints l) (fwk (num l)) hb (word_fwk l hl) 48 (Nat.le_refl _)
  refine ⟨s.plus (nst (wn (fwk (num l))) s 64), N8.plus_ok _ _, ?_, ?_⟩
  · unfold blk
    rw [show sched (ints l) = sch2 (ints l) 48 from rfl, rnds_nat h 64 (Nat.le_refl _) (W := wn (fwk (num l))) (fun j hj => hW j hj), N8.plus_int]
  · have := fgo_all s (fwk (num l)) s 64 0 rfl
    rw [← this]
    unfold fgo
    obtain ⟨p0, p1, p2, p3, p4, p5, p6, p7⟩ := pk_parts h
    unfold fblk
    rw [p0, p1, p2, p3, p4, p5, p6, p7]
    simp only [Nat.zero_add]
    rw [wn_lo _ (t := 0) (by decide), wn_lo _ (t := 1) (by decide), wn_lo _ (t := 2) (by decide), wn_lo _ (t := 3) (by decide), wn_lo _ (t := 4) (by decide), wn_lo _ (t := 5) (by decide), wn_lo _ (t := 6) (by decide), wn_lo _ (t := 7) (by decide), wn_lo _ (t := 8) (by decide),
      wn_lo _ (t := 9) (by decide), wn_lo _ (t := 10) (by decide), wn_lo _ (t := 11) (by decide), wn_lo _ (t := 12) (by decide), wn_lo _ (t := 13) (by decide), wn_lo _ (t := 14) (by decide), wn_lo _ (t := 15) (by decide)]
    rfl
end Go.Proofs.YtfoknhogclfhhaaDoor
