/- A proof built of its parts; what a proof that holds says; plain law for VerifyGrows. -/
import Derived.Test.YtmlpldkgennmkaaDoorGra
namespace Go.Proofs.YtmlpldkgennmkaaDoor
set_option maxRecDepth 100000
open Go.RowKit
theorem fold_put (d l r : List Value) (h : l.length ≤ r.length) : ((l.zipIdx 0).foldl (fun (cs : Array Value) p => cs.setIfInBounds (d.length + p.2) p.1) (d ++ r).toArray) = (d ++ l ++ r.drop l.length).toArray := by
  apply Array.ext
  · rw [size_fill]; simp; omega
  · intro i h1 h2
    apply Option.some.inj
    rw [← Array.getElem?_eq_getElem, ← Array.getElem?_eq_getElem, fold_fill]
    simp only [List.size_toArray, List.getElem?_toArray, List.length_append, Nat.add_zero]
    by_cases h3 : d.length ≤ i ∧ i < d.length + l.length
    · rw [if_pos ⟨h3.1, h3.2, by omega⟩, List.append_assoc, List.getElem?_append_right h3.1, List.getElem?_append_left (by omega)]
    · rw [if_neg (by omega)]
      rcases Nat.lt_or_ge i d.length with h4 | h4
      · rw [List.getElem?_append_left h4, List.append_assoc, List.getElem?_append_left h4]
      · rw [List.getElem?_append_right h4, List.append_assoc, List.getElem?_append_right h4, List.getElem?_append_right (by omega), List.getElem?_drop]
        congr 1
        omega
theorem fill_put (pl : Nat → Option (Nat × Nat)) (d r : List Value) (i n : Nat) (v : Value) (l : List Value) (rest : List (Nat × Value)) (hp : pl i = some (d.length, n)) (hv : v.cells = l.toArray) (hl : l.length = n) (hn : n ≤ r.length) :
    Instr.fill pl (d ++ r).toArray ((i, v) :: rest) = Instr.fill pl ((d ++ l) ++ r.drop n).toArray rest := by
  rw [Instr.fill, hp]
  simp only [hv, List.size_toArray, hl]
  rw [if_neg (by simp; omega), ← Array.foldl_toList, Array.toList_zipIdx]
  have := fold_put d l r (by omega)
  rw [hl] at this
  rw [← this]
theorem placesPrf : (Tryd.prog.fieldsOf 45).toList.mapM (fun f => (Tryd.prog.info? f.type).map fun i => (f.offset, i.size)) = some [(0, 1), (1, 1), (2, 32), (34, 32), (66, 1)] := by kernel_rfl
theorem underPrf : Tryd.prog.underlying 45 = some (.struct (Tryd.prog.fieldsOf 45)) := by kernel_rfl
theorem infoPrf : (Tryd.prog.info? 45).map (fun i => (i.zero.map (·.cells.size), i.size)) = some (some 67, 67) := by kernel_rfl
theorem built_proof (o s : Int) (x y : List UInt8) (hx : x.length = 32) (hy : y.length = 32) (ad : Option Addr) (n c : Nat) :
    Tryd.prog.built 45 [(0, .int .u64 o), (1, .int .u64 s), (2, .agg (ocells x)), (3, .agg (ocells y)), (4, .slice ad n c)] = some (#[.int .u64 o, .int .u64 s] ++ (ocells x ++ (ocells y ++ #[.slice ad n c]))) := by
  obtain ⟨i, hi, hi2⟩ := Option.map_eq_some_iff.1 infoPrf
  simp only [Prod.mk.injEq] at hi2
  obtain ⟨z, hz, hzs⟩ := Option.map_eq_some_iff.1 hi2.1
  unfold Program.built
  rw [hi, underPrf]
  simp only [hz, placesPrf]
  obtain ⟨Z, hZ⟩ : ∃ Z : List Value, z.cells = ([] ++ Z).toArray := ⟨z.cells.toList, by simp⟩
  have hZl : Z.length = 67 := by rw [hZ] at hzs; simpa using hzs
  have bl : ∀ l : List UInt8, (bcells l).length = l.length := bcells_length
  rw [hZ, fill_put _ [] Z 0 1 _ [.int .u64 o] _ rfl rfl rfl (by omega)]
  rw [fill_put _ _ _ 1 1 _ [.int .u64 s] _ rfl rfl rfl (by simp; omega)]
  rw [fill_put _ _ _ 2 32 _ (bcells x) _ rfl rfl (by rw [bl, hx]) (by simp; omega)]
  rw [fill_put _ _ _ 3 32 _ (bcells y) _ (by simp [bl, hx]) rfl (by rw [bl, hy]) (by simp; omega)]
  rw [fill_put _ _ _ 4 1 _ [.slice ad n c] _ (by simp [bl, hx, hy]) rfl rfl (by simp; omega)]
  rw [Instr.fill]
  congr 1
  apply Array.ext'
  simp [ocells, List.drop_drop]
  omega
/-- what a proof that holds says -/
theorem cons_cases (A : Nat → Addr) (o s : Nat) (before after : List UInt8) (ps : List (List UInt8)) : (∃ k, consV A o s before after ps = errVal A k) ∨
    (consV A o s before after ps = .nilIface ∧ 0 < o ∧ o ≤ s ∧ s ≤ 9223372036854775808 ∧ (o = s → ps = [] ∧ before = after) ∧
      (o ≠ s → ∃ f r, conS before (hsdirs o s) ps = some (f, r) ∧ r.length = (hsdirs o s).length ∧ climbO nd f (hsdirs o s) r = before ∧ climb nd f (hsdirs o s) r = after)) := by
  unfold consV
  by_cases h1 : 9223372036854775808 < s ∨ o = 0 ∨ s < o
  · rw [if_pos h1]; exact .inl ⟨_, rfl⟩
  · rw [if_neg h1]
    by_cases h2 : o = s
    · rw [if_pos h2]
      by_cases h3 : ps = [] ∧ before = after
      · rw [if_pos h3]; exact .inr ⟨rfl, by omega, by omega, by omega, fun _ => h3, fun h => absurd h2 h⟩
      · rw [if_neg h3]; exact .inl ⟨_, rfl⟩
    · rw [if_neg h2]
      by_cases h3 : conOk before after (hsdirs o s) ps = true
      · rw [if_pos h3]
        refine .inr ⟨rfl, by omega, by omega, by omega, fun h => absurd h h2, fun _ => ?_⟩
        unfold conOk at h3
        split at h3
        · cases h3
        · rename_i f r hc
          simp only [Bool.and_eq_true, beq_iff_eq] at h3
          exact ⟨f, r, hc, h3.1, h3.2.1, h3.2.2⟩
      · rw [if_neg h3]; exact .inl ⟨_, rfl⟩
/-- the proof's hashes are those that it begins with and climbs by -/
theorem conS_inj {b b2 : List UInt8} {D : List Bool} {ps qs : List (List UInt8)} {f : List UInt8} {r : List (List UInt8)} (h : conS b D ps = some (f, r)) (h2 : conS b2 D qs = some (f, r)) : ps = qs := by
  unfold conS at h h2
  by_cases hd : D.all (!·) = true
  · rw [if_pos hd] at h h2
    cases h; cases h2; rfl
  · rw [if_neg hd] at h h2
    cases ps with
    | nil => simp at h
    | cons p ps =>
      cases qs with
      | nil => simp at h2
      | cons q qs => cases h; cases h2; rfl
theorem conS_same {b b2 : List UInt8} {D : List Bool} {ps : List (List UInt8)} {f : List UInt8} {r r2 : List (List UInt8)} (h : conS b D ps = some (f, r)) (h2 : conS b2 D ps = some (f, r2)) : r = r2 := by
  unfold conS at h h2
  by_cases hd : D.all (!·) = true
  · rw [if_pos hd] at h h2
    cases h; cases h2; rfl
  · rw [if_neg hd] at h h2
    cases ps with
    | nil => simp at h
    | cons p ps => cases h; cases h2; rfl
theorem hsdirs_ne {o s : Nat} (h0 : 0 < o) (h : o < s) : hsdirs o s ≠ [] := by
  intro e
  by_cases hl : o ≤ half s
  · rw [hsdirs_le (by omega) h hl] at e; simp at e
  · rw [hsdirs_gt (by omega) h hl] at e; simp at e
end Go.Proofs.YtmlpldkgennmkaaDoor
