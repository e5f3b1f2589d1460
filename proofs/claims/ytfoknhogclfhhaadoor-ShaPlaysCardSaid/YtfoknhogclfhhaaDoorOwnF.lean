/- A slice of bytes of the call's own, said cell by cell (a slice made out of a string bears a mark behind its end): what append does to it. -/
import Derived.Test.YtfoknhogclfhhaaDoorDSum
import Derived.Laws.IdiomStrings
import Derived.Laws.IdiomCopy
namespace Go.Proofs.YtfoknhogclfhhaaDoor
set_option maxRecDepth 100000
open Go.RowKit
def OwnF (base : Nat) (w : World) (v : Value) (l : List UInt8) : Prop :=
  (v = .slice none 0 0 ∧ l = []) ∨ ∃ g cap, v = .slice (some ⟨g, 0, none⟩) l.length cap ∧ base ≤ g ∧ g < w.heap.size ∧ l.length ≤ cap ∧ cap ≤ maxLen ∧
    (∀ i, (h : i < l.length) → w.cell? ⟨g, i, none⟩ = some (bcell l[i])) ∧ ∀ i, i < cap → (w.cell? ⟨g, i, none⟩).isSome = true ∧ w.frozen? ⟨g, i, none⟩ = false
theorem OwnF.shape {base : Nat} {w : World} {v : Value} {l : List UInt8} (h : OwnF base w v l) : ∃ a c, v = .slice a l.length c ∧ l.length ≤ c ∧ c ≤ maxLen ∧ (a = none → c = 0 ∧ l.length = 0) := by
  rcases h with ⟨rfl, rfl⟩ | ⟨g, cap, rfl, _, _, h1, h2, _⟩
  · exact ⟨none, 0, rfl, Nat.le_refl _, by simp [maxLen], fun _ => ⟨rfl, rfl⟩⟩
  · exact ⟨_, cap, rfl, h1, h2, fun e => by cases e⟩
theorem OwnF.src {base : Nat} {w : World} {v : Value} {l : List UInt8} (h : OwnF base w v l) : Src w v l := by
  rcases h with ⟨rfl, rfl⟩ | ⟨g, cap, rfl, _, hg, h1, h2, h3, _⟩
  · exact ⟨none, 0, rfl, Nat.le_refl _, by simp [maxLen], fun _ => rfl, fun h => absurd rfl h⟩
  · exact ⟨_, cap, rfl, h1, h2, (fun e => by cases e), fun _ => ⟨g, 0, rfl, hg, fun i hi => by rw [Nat.zero_add]; exact h3 i hi⟩⟩
theorem OwnF.fresh {base : Nat} {w : World} {v : Value} {l : List UInt8} (h : OwnF base w v l) (k : Nat) (hk : v.ownBlock = some k) : base ≤ k ∧ k < w.heap.size := by
  rcases h with ⟨rfl, rfl⟩ | ⟨g, cap, rfl, hb, hg, _⟩
  · cases hk
  · obtain rfl : g = k := by simpa [Value.ownBlock] using hk
    exact ⟨hb, hg⟩
theorem OwnF.kept {base : Nat} {w w' : World} {v : Value} {l : List UInt8} {S : Nat → Prop} (h : OwnF base w v l) (k : Keep S w w') (hs : ∀ j, v.ownBlock = some j → ¬ S j) : OwnF base w' v l := by
  rcases h with hn | ⟨g, cap, rfl, hb, hg, h1, h2, h3, h4⟩
  · exact .inl hn
  · have hk := k.block g hg (hs g rfl)
    refine .inr ⟨g, cap, rfl, hb, Nat.lt_of_lt_of_le hg k.size, h1, h2, fun i hi => ?_, fun i hi => ?_⟩
    · rw [World.cell?_of_block (w := w) (a := ⟨g, i, none⟩) hk]; exact h3 i hi
    · rw [World.cell?_of_block (w := w) (a := ⟨g, i, none⟩) hk, World.frozen?_of_block (w := w) (a := ⟨g, i, none⟩) hk]; exact h4 i hi
theorem OwnF.of_row {base : Nat} {w : World} {v : Value} {l : List UInt8} {n : Nat} (h : w.ownsRow base 5 1 v n (bcells l)) : OwnF base w v l := by
  have hl : l.length = n := by have := h.1; simpa [bcells] using this
  subst hl
  rcases id h.2 with ⟨rfl, h0⟩ | ⟨g, cap, cur, rfl, hb, hg, h1, h2, h3, h4⟩
  · exact .inl ⟨rfl, List.length_eq_zero_iff.1 h0⟩
  · refine .inr ⟨g, cap, rfl, hb, (Array.getElem?_eq_some_iff.1 hg).1, h1, h2, fun i hi => ?_, fun i hi => ⟨?_, h.frozenAt i⟩⟩
    · rw [h.cellAt i (by omega), bcells_get _ _ hi]
    · rw [cell_of_row w g i cur _ _ hg]; simp; omega
theorem World.heap_setCells_other' (w : World) (g o : Nat) (vs : List Value) (k : Nat) (hk : k ≠ g) : (w.setCells g o vs).heap[k]? = w.heap[k]? := by
  induction vs generalizing o w with
  | nil => rfl
  | cons v vs ih => rw [World.setCells, ih, heap_setCell_other _ _ _ _ (by simpa using hk)]
theorem World.size_setCells' (w : World) (g o : Nat) (vs : List Value) : (w.setCells g o vs).heap.size = w.heap.size := by
  induction vs generalizing o w with
  | nil => rfl
  | cons v vs ih => rw [World.setCells, ih]; simp [World.setCell]
theorem World.os_setCells' (w : World) (g o : Nat) (vs : List Value) : (w.setCells g o vs).os = w.os := by
  induction vs generalizing o w with
  | nil => rfl
  | cons v vs ih => rw [World.setCells, ih]; rfl
theorem World.tape_setCells' (w : World) (g o : Nat) (vs : List Value) : (w.setCells g o vs).tape = w.tape := by
  induction vs generalizing o w with
  | nil => rfl
  | cons v vs ih => rw [World.setCells, ih]; rfl
theorem World.output_setCells' (w : World) (g o : Nat) (vs : List Value) : (w.setCells g o vs).output = w.output := by
  induction vs generalizing o w with
  | nil => rfl
  | cons v vs ih => rw [World.setCells, ih]; rfl
theorem run_append_F {P : Program} {w : World} (t ty : TypeId) (base : Nat) (e : TypeId) (i : TypeInfo) (z : Value) (ht : P.underlying t = some (.slice e)) (hi : P.info? e = some i) (hz : i.zero = some z)
    (hsize : i.size = 1) (hby : i.bytes = 1) (hzs : z.cells.size = 1) (he : e = 5)
    (v : Value) (l : List UInt8) (hown : OwnF base w v l)
    (xa : Option Addr) (c : Nat) (l' : List UInt8) (hnil : xa = none → c = 0 ∧ l'.length = 0)
    (hnews : ∀ ad, xa = some ad → ∀ j u, (bcells l')[j]? = some u → w.cell? (ad.add j) = some u)
    (hlen : l.length + l'.length ≤ 140737488355328) (hbase : base ≤ w.heap.size) :
    ∃ v' w', (Builtin.append_ #[t, t] ty #[v, .slice xa l'.length c]).run P w = .ok v' w' ∧ OwnF base w' v' (l ++ l') ∧ w.grownBy w' v.ownBlock ∧ (v'.ownBlock = v.ownBlock ∨ ∀ k, v'.ownBlock = some k → w.heap.size ≤ k) := by
  have h63 : l.length + l'.length ≤ maxLen := by unfold maxLen; omega
  cases xa with
  | none =>
    obtain ⟨rfl, h0⟩ := hnil rfl
    obtain rfl := List.length_eq_zero_iff.1 h0
    refine ⟨v, w, ?_, by simpa using hown, World.grownBy.refl w _, .inl rfl⟩
    rcases hown with ⟨rfl, rfl⟩ | ⟨g, cap, rfl, _, _, h1, h2, _⟩
    · simp [Builtin.append_, run_underlying ht, sizeOf, typeInfo, hi, Builtin.lenOf, Builtin.firstCells]
    · simp [Builtin.append_, run_underlying ht, sizeOf, typeInfo, hi, Builtin.lenOf, Builtin.firstCells, h1, storeCells]
  | some ad =>
    have hnews := hnews ad rfl
    rcases id hown with ⟨rfl, rfl⟩ | ⟨g, cap, rfl, hb, hg, h1, h2, h3, h4⟩
    · obtain ⟨v', w', a1, a2, a3, _⟩ := run_append_own (P := P) w w.heap.size t ty e i z 1 1 ht hi hz hsize hby hzs (by decide) _ 0 [] (World.ownsRow_nil w _ e 1) ad l'.length c (bcells l') (by simp [bcells]) hnews (bcells_one _) (by simpa using h63) (by simpa using hlen) (Nat.le_refl _)
      refine ⟨v', w', a1, ?_, a3, .inr (ownsRow_fresh a2)⟩
      subst he
      exact OwnF.of_row (ownsRow_mono (by simpa using a2) hbase)
    · by_cases hroom : l.length + l'.length ≤ cap
      · have hc : ∀ j, j < (bcells l').length → (w.cell? ⟨g, 0 + l.length * i.size + j, none⟩).isSome = true := fun j hj => by
          rw [hsize, Nat.mul_one, Nat.zero_add]; exact (h4 _ (by simp [bcells] at hj; omega)).1
        have hf : ∀ j, j < (bcells l').length → w.frozen? ⟨g, 0 + l.length * i.size + j, none⟩ = false := fun j hj => by
          rw [hsize, Nat.mul_one, Nat.zero_add]; exact (h4 _ (by simp [bcells] at hj; omega)).2
        have hr := run_append_room_cells (P := P) w t ty e i ht hi g 0 l.length cap ad l'.length c (bcells l') (by simp [bcells, hsize]) hnews (bcells_one _) hroom hc hf
        rw [hsize, Nat.mul_one, Nat.zero_add] at hr
        have hc' : ∀ j, j < (bcells l').length → (w.cell? ⟨g, l.length + j, none⟩).isSome = true := fun j hj => (h4 _ (by simp [bcells] at hj; omega)).1
        have hk : ∀ k, k < w.heap.size → k ≠ g → (w.setCells g l.length (bcells l')).heap[k]? = w.heap[k]? := fun k hk hn => World.heap_setCells_other' w g l.length (bcells l') k hn
        refine ⟨_, _, hr, .inr ⟨g, cap, by rw [List.length_append], hb, ?_, by rw [List.length_append]; exact hroom, h2, fun j hj => ?_, fun j hj => ⟨?_, ?_⟩⟩, ?_, .inl rfl⟩
        · rw [World.size_setCells']; exact hg
        · rw [List.length_append] at hj
          by_cases hjl : j < l.length
          · rw [World.cell?_setCells_out g (bcells l') l.length w ⟨g, j, none⟩ (fun _ _ => .inl hjl), h3 j hjl]
            simp [List.getElem_append_left hjl]
          · have h5 : j - l.length < (bcells l').length := by simp [bcells]; omega
            have := World.cell?_setCells_in g (bcells l') l.length w hc' (j - l.length) h5
            rw [show l.length + (j - l.length) = j by omega] at this
            rw [this]
            simp [bcells, List.getElem_append_right (Nat.le_of_not_lt hjl)]
        · by_cases hin : l.length ≤ j ∧ j < l.length + (bcells l').length
          · have := World.cell?_setCells_in g (bcells l') l.length w hc' (j - l.length) (by omega)
            rw [show l.length + (j - l.length) = j by omega] at this
            rw [this]; rfl
          · rw [World.cell?_setCells_out g (bcells l') l.length w ⟨g, j, none⟩ (fun _ _ => by simp only; omega)]; exact (h4 j hj).1
        · rw [World.frozen?_setCells]; exact (h4 j hj).2
        · exact ⟨World.os_setCells' .., World.tape_setCells' .., World.output_setCells' .., by rw [World.size_setCells']; exact Nat.le_refl _, fun k hk1 hn => hk k hk1 (fun e => hn (by simp [Value.ownBlock, e]))⟩
      · have hol : ∀ j u, (bcells l)[j]? = some u → w.cell? ((⟨g, 0, none⟩ : Addr).add j) = some u := fun j u hj => by
          have hjl : j < l.length := by have := (List.getElem?_eq_some_iff.1 hj).1; simpa [bcells] using this
          rw [bcells_get _ _ hjl] at hj
          rw [← hj]
          by_cases h0 : j = 0
          · subst h0; simpa [Addr.add] using h3 0 hjl
          · simpa [Addr.add, h0] using h3 j hjl
        obtain ⟨v', w', a1, a2, a3⟩ := run_append_arg_grows (P := P) w t ty e i z 1 1 ht hi hz hsize hby hzs (by decide) ⟨g, 0, none⟩ l.length cap (bcells l) (by simp [bcells]) hol ad l'.length c (bcells l') (by simp [bcells]) hnews (by omega) h63 (by omega)
        refine ⟨v', w', a1, ?_, grownBy_any a3, .inr (ownsRow_fresh a2)⟩
        rw [← bcells_append] at a2
        subst he
        exact OwnF.of_row (ownsRow_mono a2 hbase)
end Go.Proofs.YtfoknhogclfhhaaDoor
