/- CoordFamily for every tree and stretch. -/
import Derived.Test.YtifnmidecjmmnaaDoorCoFa
import Derived.Test.YtifnmidecjmmnaaDoorCoFb
import Derived.Test.YtifnmidecjmmnaaDoorCoFc
import Derived.Test.YtifnmidecjmmnaaDoorCoFd
namespace Go.Proofs.YtifnmidecjmmnaaDoor
open Go.RowKit
theorem pow63 : (9223372036854775808 : Nat) = 2 ^ 63 := by decide
theorem sv_neq (w : World) (L1 I1 L2 I2 : Nat) : (binOp .neq 36 (.agg #[.int .u64 (L1 : Int), .int .u64 (I1 : Int)]) (.agg #[.int .u64 (L2 : Int), .int .u64 (I2 : Int)])).run Tryd.prog w = .ok (.bool (!decide (L1 = L2 ∧ I1 = I2))) w := by
  simp [go_sem]
  by_cases h1 : L1 = L2
  · by_cases h2 : I1 = I2
    · subst h1; subst h2; simp
    · have : ¬ (I1 : Int) = (I2 : Int) := by omega
      simp [h1, h2, this]
  · have : ¬ (L1 : Int) = (L2 : Int) := by omega
    simp [h1, this]
set_option maxRecDepth 100000 in
theorem family_any (W : World) (L I B E : Nat) (hL : L < 256) (hB : B < 2 ^ 64) (hE : E < 2 ^ 64) (hs : Seed W W) :
    Calls Tryd.prog 8 #[cv L I, sv B E] W fun e w' => e = .returned (.bool true) ∧ Below W.heap.size W w' := by
  have c1 := fun w h h' => of_any w B E hB hE h h'
  have c2 : ofK B E = true → ∀ w, Calls Tryd.prog 18 #[cv (ofL B E) (ofI B E)] w fun e w' => e = .returned (.tuple #[sv B E, .bool true]) ∧ Below w.heap.size w w' := fun h w => by
    obtain ⟨h1, h2, h3⟩ := of_span h
    have := span_any w (ofL B E) (ofI B E)
    rwa [h1, h2, h3] at this
  have g0 := fun w => sv_neq w B E B E
  rw [decide_eq_true ⟨rfl, rfl⟩] at g0
  by_cases hm : mayB L I = true
  · obtain ⟨hL63, hI⟩ := (mayB_iff _ _).1 hm
    have hend := may_end hm
    have hbeg := may_begin hm
    have hp := Nat.two_pow_pos L
    have hlt := may_lt hm
    obtain ⟨s1, s2⟩ := sp_of hm
    obtain ⟨o1, o2, o3⟩ := of_tree hm
    have c3 := fun w => span_any w L I
    rw [hm, s1, s2] at c3
    have c4 := fun w => parent_any w L I
    have c5 := fun w => sibling_any w L I
    have c6 := fun w => children_any w L I
    have c7 := fun w h h' => of_any w (I * 2 ^ L) ((I + 1) * 2 ^ L) (by omega) (by omega) h h'
    rw [o1, o2, o3] at c7
    have g1 := fun w => cv_neq w L I L I
    rw [decide_eq_true ⟨rfl, rfl⟩] at g1
    have hpk : 2 ^ L ≤ 2 ^ 63 := Nat.pow_le_pow_right (by decide) hL63
    have e1 : IntKind.u64.wrap ((((I + 1) * 2 ^ L : Nat) : Int) - ((I * 2 ^ L : Nat) : Int)) = (2 : Int) ^ L :=
      (wrap_nat (n := 2 ^ L) (by rw [show (I + 1) * 2 ^ L = I * 2 ^ L + 2 ^ L from Nat.succ_mul I (2 ^ L)]; omega) (by omega)).trans (by simp)
    have e2 : IntKind.u64.wrap ((2 : Int) ^ L) = (2 : Int) ^ L := (wrap_nat (n := 2 ^ L) (by simp) (by omega)).trans (by simp)
    have f1 : ¬ (9223372036854775808 : Int) < (((I + 1) * 2 ^ L : Nat) : Int) := by omega
    have e3 : ((I * 2 ^ L : Nat) : Int) / 2 ^ L = (I : Int) := by rw [div_pow_nat, Nat.mul_div_cancel _ hp]
    have upf : L < 63 → upK L I = true := fun h => upK_iff.2 ⟨hm, by omega⟩
    have dnf : 0 < L → dnK L I = true := fun h => dnK_iff.2 ⟨hm, by omega⟩
    have uph : L < 63 → ∃ v x2 y2 : Nat, (∀ w, Calls Tryd.prog 24 #[cv L I] w fun e w' => e = .returned (.tuple #[cv L v, .bool true]) ∧ Below w.heap.size w w') ∧
        (∀ w, Calls Tryd.prog 16 #[cv L I] w fun e w' => e = .returned (.tuple #[cv (L + 1) (I / 2), .bool true]) ∧ Below w.heap.size w w') ∧
        (∀ w, Calls Tryd.prog 16 #[cv L v] w fun e w' => e = .returned (.tuple #[cv (L + 1) (I / 2), .bool true]) ∧ Below w.heap.size w w') ∧
        (∀ w, Calls Tryd.prog 24 #[cv L v] w fun e w' => e = .returned (.tuple #[cv L I, .bool true]) ∧ Below w.heap.size w w') ∧
        (∀ w, Calls Tryd.prog 19 #[cv (L + 1) (I / 2)] w fun e w' => e = .returned (.tuple #[cv L x2, cv L y2, .bool true]) ∧ Below w.heap.size w w') ∧
        x2 ≠ y2 ∧ ((x2 = I ∧ y2 = v) ∨ (x2 = v ∧ y2 = I)) ∧ I ≠ v := by
      intro h
      have hk := upf h
      obtain ⟨u1, u2, u3, u4⟩ := up_of hk
      have hm' : mayB L (if I % 2 = 0 then I + 1 else I - 1) = true := sib_may hm (by omega)
      have hk' : upK L (if I % 2 = 0 then I + 1 else I - 1) = true := upK_iff.2 ⟨hm', by omega⟩
      obtain ⟨t1, t2, t3, t4⟩ := up_of hk'
      have hd : dnK (L + 1) (I / 2) = true := dnK_iff.2 ⟨up_may hm (by omega), by omega⟩
      obtain ⟨d1, d2, d3⟩ := dn_of hd
      refine ⟨if I % 2 = 0 then I + 1 else I - 1, 2 * (I / 2), 2 * (I / 2) + 1, fun w => ?_, fun w => ?_, fun w => ?_, fun w => ?_, fun w => ?_, by omega, ?_, by split <;> omega⟩
      · have := sibling_any w L I; rwa [hk, u3, u4] at this
      · have := parent_any w L I; rwa [hk, u1, u2] at this
      · have := parent_any w L (if I % 2 = 0 then I + 1 else I - 1); rwa [hk', t1, t2, sib_half] at this
      · have := sibling_any w L (if I % 2 = 0 then I + 1 else I - 1); rwa [hk', t3, t4, sib_sib] at this
      · have := children_any w (L + 1) (I / 2); rwa [hd, d1, d2, d3] at this
      · split <;> omega
    have dnh : 0 < L → ∃ pm : Nat, (∀ w, Calls Tryd.prog 19 #[cv L I] w fun e w' => e = .returned (.tuple #[cv (L - 1) (2 * I), cv (L - 1) (2 * I + 1), .bool true]) ∧ Below w.heap.size w w') ∧
        (∀ w, Calls Tryd.prog 18 #[cv (L - 1) (2 * I)] w fun e w' => e = .returned (.tuple #[sv (I * 2 ^ L) pm, .bool true]) ∧ Below w.heap.size w w') ∧
        (∀ w, Calls Tryd.prog 18 #[cv (L - 1) (2 * I + 1)] w fun e w' => e = .returned (.tuple #[sv pm ((I + 1) * 2 ^ L), .bool true]) ∧ Below w.heap.size w w') ∧
        (∀ w, Calls Tryd.prog 16 #[cv (L - 1) (2 * I)] w fun e w' => e = .returned (.tuple #[cv L I, .bool true]) ∧ Below w.heap.size w w') ∧
        (∀ w, Calls Tryd.prog 16 #[cv (L - 1) (2 * I + 1)] w fun e w' => e = .returned (.tuple #[cv L I, .bool true]) ∧ Below w.heap.size w w') := by
      intro h
      have hk := dnf h
      obtain ⟨d1, d2, d3⟩ := dn_of hk
      obtain ⟨ml, mr⟩ := dn_may hm (by omega)
      obtain ⟨l1, l2⟩ := sp_of ml
      obtain ⟨r1, r2⟩ := sp_of mr
      have kl : upK (L - 1) (2 * I) = true := upK_iff.2 ⟨ml, by omega⟩
      have kr : upK (L - 1) (2 * I + 1) = true := upK_iff.2 ⟨mr, by omega⟩
      obtain ⟨t1, t2, _, _⟩ := up_of kl
      obtain ⟨q1, q2, _, _⟩ := up_of kr
      have hpp := pow_pred (L := L) (by omega)
      refine ⟨(2 * I + 1) * 2 ^ (L - 1), fun w => ?_, fun w => ?_, fun w => ?_, fun w => ?_, fun w => ?_⟩
      · have := children_any w L I; rwa [hk, d1, d2, d3] at this
      · have := span_any w (L - 1) (2 * I)
        rwa [ml, l1, l2, show 2 * I * 2 ^ (L - 1) = I * 2 ^ L by rw [hpp, ← Nat.mul_assoc, Nat.mul_comm I 2]] at this
      · have := span_any w (L - 1) (2 * I + 1)
        rwa [mr, r1, r2, show (2 * I + 1 + 1) * 2 ^ (L - 1) = (I + 1) * 2 ^ L by rw [hpp, ← Nat.mul_assoc, show 2 * I + 1 + 1 = (I + 1) * 2 by omega]] at this
      · have := parent_any w (L - 1) (2 * I)
        rwa [kl, t1, t2, show L - 1 + 1 = L by omega, show 2 * I / 2 = I by omega] at this
      · have := parent_any w (L - 1) (2 * I + 1)
        rwa [kr, q1, q2, show L - 1 + 1 = L by omega, show (2 * I + 1) / 2 = I by omega] at this
    by_cases h63 : L < 63
    · obtain ⟨v, x2, y2, a1, a2, a3, a4, a5, a6, a7, a8⟩ := uph h63
      obtain ⟨n1, n2, n3, n4, hn, q1, q2, q3, q4⟩ : ∃ n1 n2 n3 n4 : Bool, ((n1 = false ∧ n2 = true ∧ n3 = true ∧ n4 = false) ∨ (n1 = true ∧ n2 = false ∧ n3 = false ∧ n4 = true)) ∧
          (!decide (L = L ∧ x2 = I)) = n1 ∧ (!decide (L = L ∧ y2 = I)) = n2 ∧ (!decide (L = L ∧ x2 = v)) = n3 ∧ (!decide (L = L ∧ y2 = v)) = n4 := by
        rcases a7 with ⟨rfl, rfl⟩ | ⟨rfl, rfl⟩
        · exact ⟨false, true, true, false, .inl ⟨rfl, rfl, rfl, rfl⟩, by simp, by simp; omega, by simp; omega, by simp⟩
        · exact ⟨true, false, false, true, .inr ⟨rfl, rfl, rfl, rfl⟩, by simp; omega, by simp, by simp, by simp; omega⟩
      have b1 := fun w => cv_neq w L x2 L I
      have b2 := fun w => cv_neq w L y2 L I
      have b3 := fun w => cv_neq w L x2 L v
      have b4 := fun w => cv_neq w L y2 L v
      rw [q1] at b1; rw [q2] at b2; rw [q3] at b3; rw [q4] at b4
      have b5 := fun w => cv_eql w L x2 L y2
      rw [decide_eq_false (by rintro ⟨_, h⟩; exact a6 h)] at b5
      have b6 := fun w => cv_neq w (L + 1) (I / 2) (L + 1) (I / 2)
      rw [decide_eq_true ⟨rfl, rfl⟩] at b6
      by_cases h0 : 0 < L
      · obtain ⟨pm, m1, m2, m3, m4, m5⟩ := dnh h0
        exact family_mid W L I B E _ _ _ _ _ _ _ _ _ _ _ _ _ _ pm _ hs ⟨c1⟩ ⟨c2⟩ g0 ⟨c3⟩ ⟨a2⟩ ⟨a1⟩ ⟨m1⟩ ⟨c7⟩ g1 hL63 e1 e2 f1 e3 ⟨a3⟩ ⟨a4⟩ ⟨a5⟩ b6 _ _ _ _ ⟨hn⟩ b1 b2 b3 b4 b5 ⟨m2⟩ ⟨m3⟩ ⟨m4⟩ ⟨m5⟩ h63 h0
      · have hk : dnK L I = false := by simp [dnK]; omega
        rw [hk] at c6
        exact family_low W L I B E _ _ _ _ _ _ _ _ _ _ _ _ _ _ _ hs ⟨c1⟩ ⟨c2⟩ g0 ⟨c3⟩ ⟨a2⟩ ⟨a1⟩ ⟨c6⟩ ⟨c7⟩ g1 hL63 e1 e2 f1 e3 ⟨a3⟩ ⟨a4⟩ ⟨a5⟩ b6 _ _ _ _ ⟨hn⟩ b1 b2 b3 b4 b5 h63 h0
    · have hk : upK L I = false := by simp [upK]; omega
      rw [hk] at c4 c5
      obtain ⟨pm, m1, m2, m3, m4, m5⟩ := dnh (by omega)
      exact family_top W L I B E _ _ _ _ _ _ _ _ _ _ _ pm _ hs ⟨c1⟩ ⟨c2⟩ g0 ⟨c3⟩ ⟨c4⟩ ⟨c5⟩ ⟨m1⟩ ⟨c7⟩ g1 hL63 e1 e2 f1 e3 ⟨m2⟩ ⟨m3⟩ ⟨m4⟩ ⟨m5⟩ h63 (by omega)
  · have hm' := Bool.eq_false_iff.2 hm
    have ku : upK L I = false := by simp [upK, hm']
    have kd : dnK L I = false := by simp [dnK, hm']
    have c3 := fun w => span_any w L I
    have c4 := fun w => parent_any w L I
    have c5 := fun w => sibling_any w L I
    have c6 := fun w => children_any w L I
    rw [hm'] at c3; rw [ku] at c4 c5; rw [kd] at c6
    have hno : 63 < L ∨ (L ≤ 63 ∧ ¬ ((I : Int) < 9223372036854775808 / 2 ^ L)) := by
      by_cases h : L ≤ 63
      · have := may_dec (I := I) h
        rw [hm'] at this
        exact .inr ⟨h, of_decide_eq_false this⟩
      · exact .inl (by omega)
    exact family_no W L I B E _ _ _ _ _ _ _ _ _ _ _ _ hs ⟨c1⟩ ⟨c2⟩ g0 ⟨c3⟩ ⟨c4⟩ ⟨c5⟩ ⟨c6⟩ hno
end Go.Proofs.YtifnmidecjmmnaaDoor
