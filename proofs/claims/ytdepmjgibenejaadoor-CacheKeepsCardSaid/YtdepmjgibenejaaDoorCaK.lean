/- Caches of string, int: New of a capacity that may not be; the uses that came in; what a use leaves, plainly. -/
import Derived.Test.YtdepmjgibenejaaDoorCaG
import Derived.Test.YtdepmjgibenejaaDoorErrC
namespace Go.Proofs.YtdepmjgibenejaaDoor
set_option maxRecDepth 100000
open Go.RowKit Go.Maps
theorem cnew_badS (A : Nat → Addr) (w : World) (c : Int) (hc : c < 0 ∨ 1024 < c) (hE : Errs w A) :
    Calls Tryd.prog 18 #[.int .i64 c] w fun e w' => e = .returned (.tuple #[.pointer none, .iface 127 (.pointer (some (A 1)))]) ∧ Below w.heap.size w w' := by
  have gE : w.cell? ⟨0, 0, none⟩ = some (.iface 127 (.pointer (some (A 1)))) := hE.glob 1 (by decide)
  clear hE
  go_enter Tryd.func18, Tryd.ntmps18
  by_cases h0 : c < 0
  · clear hc
    go_upto_region 2 with (fail)
    go_quiet (fail)
    go_wp2_with fail
    go_ret2
    exact ⟨rfl, below_drewN (Below.refl _ _) _⟩
  · have h1 : 1024 < c := by omega
    clear hc
    go_upto_region 2 with (fail)
    go_quiet (fail)
    go_wp2_with fail
    go_ret2
    exact ⟨rfl, below_drewN (Below.refl _ _) _⟩
/-- a use that came in -/
structure UseR where
  k : ByteArray
  v : Int
  p : Bool
def ucells (u : UseR) : List Value := [.string u.k, .int .i64 u.v, .bool u.p]
/-- a slice that reads as uses -/
def UsesAt (w : World) (v : Value) (us : List UseR) : Prop :=
  ∃ (a : Option Addr) (cap : Nat), v = .slice a us.length cap ∧ us.length ≤ cap ∧ cap ≤ maxLen ∧ (∀ u ∈ us, kwS u.k) ∧
    (us ≠ [] → ∃ B off, a = some ⟨B, off, none⟩ ∧ B < w.heap.size ∧ ∀ i, (h : i < us.length) → w.rangeAt B (off + i * 3) (ucells us[i]))
theorem CaXS.plain {base : Nat} {w : World} {r most : Nat} {es : List (ByteArray × Int)} {B : Nat → Prop} (h : CaXS base w r most es B) : (es.map (·.1)).Nodup ∧ es.length ≤ most ∧ most ≤ 1024 := by
  obtain ⟨h0, bm, its, g, n, c, cur, fr, sf, D, o, m, v, hB⟩ := h
  exact ⟨v.kd, v.le, h0⟩
/-- where a key is, or the end -/
theorem idx_ex (es : List (ByteArray × Int)) (k : ByteArray) (hn : (es.map (·.1)).Nodup) : ∃ i, i ≤ es.length ∧ ∀ t (h : t < es.length), es[t].1 = k ↔ t = i := by
  by_cases hm : k ∈ es.map (·.1)
  · obtain ⟨i, hi, e⟩ := List.getElem_of_mem hm
    have hi' : i < es.length := by simpa using hi
    have e' : es[i].1 = k := by simpa using e
    refine ⟨i, Nat.le_of_lt hi', fun t ht => ⟨fun h => ?_, fun h => by subst h; exact e'⟩⟩
    refine nodup_inj hn (i := t) (j := i) (by simpa using ht) hi ?_
    simp only [List.getElem_map]
    rw [h, e']
  · refine ⟨es.length, Nat.le_refl _, fun t ht => ⟨fun h => ?_, fun h => by omega⟩⟩
    exact absurd (List.mem_map.2 ⟨_, List.getElem_mem ht, h⟩) hm
theorem next_succ {α : Type} (ks : List α) {i t : Nat} (ht : t < ks.length) (hi : t ≠ i) : (ks.take (t + 1)).eraseIdx i = (ks.take t).eraseIdx i ++ [ks[t]] := by
  rw [List.take_succ_eq_append_getElem ht]
  rcases Nat.lt_or_ge i t with h | h
  · rw [List.eraseIdx_append_of_lt_length (by simp; omega)]
  · rw [List.eraseIdx_of_length_le (by simp; omega), List.eraseIdx_of_length_le (by simp; omega)]
theorem next_skip {α : Type} (ks : List α) {i : Nat} : (ks.take (i + 1)).eraseIdx i = (ks.take i).eraseIdx i := by
  refine List.ext_getElem? fun j => ?_
  rw [List.getElem?_eraseIdx, List.getElem?_eraseIdx, List.getElem?_take, List.getElem?_take, List.getElem?_take, List.getElem?_take]
  (repeat' split) <;> first | rfl | omega
theorem next_len {α : Type} (ks : List α) {i t : Nat} (ht : t ≤ ks.length) : ((ks.take t).eraseIdx i).length = if i < t then t - 1 else t := by
  rw [List.length_eraseIdx, List.length_take, Nat.min_eq_left ht]
theorem next_end {α : Type} (ks : List α) {i t m : Nat} (ht : t ≤ ks.length) (hm : (if i < t then t - 1 else t) ≤ m) (h : t = ks.length ∨ m ≤ if i < t then t - 1 else t) : (ks.take t).eraseIdx i = (ks.eraseIdx i).take m := by
  refine List.ext_getElem? fun j => ?_
  rw [List.getElem?_eraseIdx, List.getElem?_take, List.getElem?_take, List.getElem?_take, List.getElem?_eraseIdx]
  rcases h with rfl | h
  · by_cases h1 : j < i
    · rw [if_pos h1, if_pos h1]
      by_cases h2 : j < ks.length
      · rw [if_pos h2]
        rw [if_pos (by split at hm <;> omega)]
      · rw [if_neg h2, List.getElem?_eq_none (by omega)]
        split <;> rfl
    · rw [if_neg h1, if_neg h1]
      by_cases h2 : j + 1 < ks.length
      · rw [if_pos h2, if_pos (by split at hm <;> omega)]
      · rw [if_neg h2, List.getElem?_eq_none (by omega)]
        split <;> rfl
  · have hT : m = if i < t then t - 1 else t := by omega
    by_cases h1 : j < i
    · rw [if_pos h1, if_pos h1]
      by_cases h2 : j < t
      · rw [if_pos h2, if_pos (by rw [hT]; split <;> omega)]
      · rw [if_neg h2, if_neg (by rw [hT]; split <;> omega)]
    · rw [if_neg h1, if_neg h1]
      by_cases h2 : j + 1 < t
      · rw [if_pos h2, if_pos (by rw [hT]; split <;> omega)]
      · rw [if_neg h2, if_neg (by rw [hT]; split <;> omega)]
/-- what stands behind the last Put of a key -/
def LastOk (us : List UseR) (la : Nat) (es : List (ByteArray × Int)) : Prop := ∀ u, us[la]? = some u → u.p = true → ∀ x ∈ es, x.1 = u.k → x.2 = u.v
theorem LastOk.sub {us : List UseR} {la : Nat} {es es' : List (ByteArray × Int)} (h : LastOk us la es) (hs : ∀ x ∈ es', x ∈ es) : LastOk us la es' := fun u hu hp x hx hk => h u hu hp x (hs x hx) hk
theorem LastOk.put {us : List UseR} {t : Nat} {u : UseR} (hu : us[t]? = some u) {es : List (ByteArray × Int)} (hn : (((u.k, u.v) :: es).map (·.1)).Nodup) : LastOk us t ((u.k, u.v) :: es) := by
  intro u' hu' _ x hx hk
  rw [hu] at hu'
  cases hu'
  rw [List.map_cons, List.nodup_cons] at hn
  rcases List.mem_cons.1 hx with rfl | hx
  · rfl
  · exact absurd (List.mem_map.2 ⟨x, hx, hk⟩) hn.1
/-- the keys behind a use -/
def StepK (i n : Nat) (k : ByteArray) (es es' : List (ByteArray × Int)) : Prop := es'.map (·.1) = k :: ((es.map (·.1)).eraseIdx i).take (n - 1)
theorem StepK.hit {i n : Nat} {k : ByteArray} {es : List (ByteArray × Int)} (hi : i < es.length) (hn : es.length ≤ n) (x : ByteArray × Int) (hx : x.1 = k) : StepK i n k es (x :: es.eraseIdx i) := by
  unfold StepK
  rw [List.map_cons, hx, map_eraseIdx, List.take_of_length_le]
  rw [List.length_eraseIdx_of_lt (by simpa using hi)]
  simp; omega
theorem StepK.new {n : Nat} {k : ByteArray} {es : List (ByteArray × Int)} (hn : es.length < n) (x : ByteArray × Int) (hx : x.1 = k) : StepK es.length n k es (x :: es) := by
  unfold StepK
  rw [List.map_cons, hx, List.eraseIdx_of_length_le (by simp), List.take_of_length_le]
  simp; omega
theorem StepK.full {n : Nat} {k : ByteArray} {es0 : List (ByteArray × Int)} {y : ByteArray × Int} (hn : (es0 ++ [y]).length = n) (x : ByteArray × Int) (hx : x.1 = k) : StepK (es0 ++ [y]).length n k (es0 ++ [y]) (x :: es0) := by
  unfold StepK
  rw [List.map_cons, hx, List.eraseIdx_of_length_le (by simp), List.map_append, List.take_append_of_le_length, List.take_of_length_le]
  · simp at hn ⊢; omega
  · simp at hn ⊢; omega
theorem eqlB (w : World) (x y : ByteArray) : (binOp .eql 9 (.string x) (.string y)).run Tryd.prog w = .ok (.bool (decide (x = y))) w := by
  go_simp
  rw [eqlT]
theorem neqB (w : World) (x y : ByteArray) : (binOp .neq 9 (.string x) (.string y)).run Tryd.prog w = .ok (.bool (!decide (x = y))) w := neqT w x y
end Go.Proofs.YtdepmjgibenejaaDoor
