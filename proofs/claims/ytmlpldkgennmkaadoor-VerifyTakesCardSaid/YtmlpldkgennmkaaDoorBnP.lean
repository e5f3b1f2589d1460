/- Plain law for VerifyBinds: two climbs to one hash are the same, or two nodes are the same of unlike hashes. -/
import Derived.Test.YtmlpldkgennmkaaDoorVp
namespace Go.Proofs.YtmlpldkgennmkaaDoor
section
variable {α : Type} (nd : α → α → α)
/-- the pairs of hashes of a climb, from below -/
def climbsP (x : α) : List Bool → List α → List (α × α)
  | d :: ds, p :: ps => (if d then (p, x) else (x, p)) :: climbsP (climb1 nd d x p) ds ps
  | _, _ => []
theorem climbsP_length : ∀ (x : α) (ds : List Bool) (ps : List α), ds.length = ps.length → (climbsP nd x ds ps).length = ds.length
  | _, [], _, _ => rfl
  | x, d :: ds, [], h => by simp at h
  | x, d :: ds, p :: ps, h => by
    rw [climbsP, List.length_cons, climbsP_length _ ds ps (by simpa using h), List.length_cons]
/-- two rows of pairs are broken at one place -/
def BrokenP (a b : List (α × α)) : Prop := ∃ i, ∃ (h : i < a.length) (h' : i < b.length), a[i] ≠ b[i] ∧ nd a[i].1 a[i].2 = nd b[i].1 b[i].2
theorem BrokenP.cons {a b : List (α × α)} (x y : α × α) (h : BrokenP nd a b) : BrokenP nd (x :: a) (y :: b) := by
  obtain ⟨i, h1, h2, h3, h4⟩ := h
  exact ⟨i + 1, by simpa using h1, by simpa using h2, by simpa using h3, by simpa using h4⟩
theorem nd_pair (d : Bool) (x p : α) : nd (if d then (p, x) else (x, p)).1 (if d then (p, x) else (x, p)).2 = climb1 nd d x p := by cases d <;> rfl
theorem binds_plain [DecidableEq α] : ∀ (ds : List Bool) (x y : α) (ps qs : List α), ds.length = ps.length → ds.length = qs.length → climb nd x ds ps = climb nd y ds qs →
    (x = y ∧ ps = qs) ∨ BrokenP nd (climbsP nd x ds ps) (climbsP nd y ds qs)
  | [], x, y, [], [], _, _, h => .inl ⟨h, rfl⟩
  | [], _, _, _ :: _, _, h, _, _ => by simp at h
  | [], _, _, [], _ :: _, _, h, _ => by simp at h
  | _ :: _, _, _, [], _, h, _, _ => by simp at h
  | _ :: _, _, _, _ :: _, [], _, h, _ => by simp at h
  | d :: ds, x, y, p :: ps, q :: qs, h1, h2, h => by
    rcases binds_plain ds (climb1 nd d x p) (climb1 nd d y q) ps qs (by simpa using h1) (by simpa using h2) h with ⟨h3, h4⟩ | h3
    · by_cases he : (if d then (p, x) else (x, p)) = (if d then (q, y) else (y, q))
      · left
        cases d
        · simp at he; exact ⟨he.1, by rw [he.2, h4]⟩
        · simp at he; exact ⟨he.2, by rw [he.1, h4]⟩
      · right
        refine ⟨0, by simp [climbsP], by simp [climbsP], ?_, ?_⟩
        · simpa [climbsP] using he
        · simp only [climbsP, List.getElem_cons_zero]
          rw [nd_pair nd, nd_pair nd, h3]
    · right
      exact h3.cons nd _ _
/-- the last pair's node is where the climb ends -/
theorem climbsP_last : ∀ (ds : List Bool) (x : α) (ps : List α) (i : Nat) (h : i < (climbsP nd x ds ps).length), ds.length = ps.length → i + 1 = ds.length → nd (climbsP nd x ds ps)[i].1 (climbsP nd x ds ps)[i].2 = climb nd x ds ps
  | [], _, _, i, h, _, h2 => by simp at h2
  | _ :: _, _, [], _, _, h, _ => by simp at h
  | d :: ds, x, p :: ps, i, h, h1, h2 => by
    cases ds with
    | nil =>
      obtain rfl : i = 0 := by simpa using h2
      have : ps = [] := by simpa using h1
      subst this
      simp only [climbsP, List.getElem_cons_zero]
      rw [nd_pair nd]
      rfl
    | cons e ds =>
      obtain ⟨j, rfl⟩ : ∃ j, i = j + 1 := ⟨i - 1, by simp at h2; omega⟩
      have := climbsP_last (e :: ds) (climb1 nd d x p) ps j (by simpa [climbsP] using h) (by simpa using h1) (by simpa using h2)
      rw [climb, ← this]
      simp only [climbsP, List.getElem_cons_succ]
end
end Go.Proofs.YtmlpldkgennmkaaDoor
