/- A slice whose elements have one cell each, as a list. cartularylaw01.SameInts of two lists that read alike. cartularylaw01.Book of Int alone: Apart. cartularylaw13: the two caches and the document's, and what is looked at. cartularylaw13: how the two caches turn. -/
import Derived.Test.YtdepmjgibenejaaGreatDoorDig
import Derived.Deep.QuietTactic
import Derived.BigQuiet
import Derived.Test.YtdepmjgibenejaaGreatDoorBkC
import Derived.Test.YtdepmjgibenejaaGreatDoorBkIntI
import Derived.Test.YtdepmjgibenejaaGreatDoorRcD
import Derived.Test.YtdepmjgibenejaaGreatDoorBkIntK
import Derived.Test.YtdepmjgibenejaaGreatDoorErrD
section
namespace Go.Proofs.YtdepmjgibenejaaGreatDoor
set_option maxRecDepth 100000
open Go.RowKit
/-- a slice that reads as the list -/
def Ro {α : Type} (F : α → Value) (w : World) (v : Value) (l : List α) : Prop :=
  ∃ (a : Option Addr) (cap : Nat), v = .slice a l.length cap ∧ l.length ≤ cap ∧ cap ≤ maxLen ∧
    (l ≠ [] → ∃ B off, a = some ⟨B, off, none⟩ ∧ B < w.heap.size ∧ ∀ i, (h : i < l.length) → w.cell? ⟨B, off + i, none⟩ = some (F l[i]))
theorem Ro.below {α : Type} {F : α → Value} {w w' : World} {v : Value} {l : List α} (h : Ro F w v l) (k : Below w.heap.size w w') : Ro F w' v l := by
  obtain ⟨a, cap, h1, h2, h3, h4⟩ := h
  refine ⟨a, cap, h1, h2, h3, fun hne => ?_⟩
  obtain ⟨B, off, e1, e2, e3⟩ := h4 hne
  exact ⟨B, off, e1, Nat.lt_of_lt_of_le e2 k.size, fun i hi => (k.cell (p := ⟨B, off + i, none⟩) e2).trans (e3 i hi)⟩
theorem Ro.len {α : Type} {F : α → Value} {w : World} {v : Value} {l : List α} (h : Ro F w v l) : ∃ a cap, v = .slice a l.length cap ∧ l.length ≤ cap ∧ cap ≤ 9223372036854775807 := by
  obtain ⟨a, cap, h1, h2, h3, _⟩ := h
  exact ⟨a, cap, h1, h2, by unfold maxLen at h3; omega⟩
theorem Ro.at {α : Type} {F : α → Value} {w : World} {a : Option Addr} {n cap : Nat} {l : List α} (h : Ro F w (.slice a n cap) l) (i : Nat) (hi : i < l.length) :
    ∃ B off, a = some ⟨B, off, none⟩ ∧ B < w.heap.size ∧ w.cell? ⟨B, off + i, none⟩ = some (F l[i]) := by
  obtain ⟨a', cap', h1, h2, h3, h4⟩ := h
  cases h1
  obtain ⟨B, off, e1, e2, e3⟩ := h4 (fun e => by subst e; simp at hi)
  exact ⟨B, off, e1, e2, e3 i hi⟩
/-- a whole block of such elements -/
def rcells {α : Type} (F : α → Value) (l : List α) : Array Value := (l.map F).toArray
theorem rcells_size {α : Type} (F : α → Value) (l : List α) : (rcells F l).size = l.length := by simp [rcells]
theorem rcells_at {α : Type} (F : α → Value) (l : List α) (i : Nat) (h : i < l.length) : (rcells F l)[i]? = some (F l[i]) := by simp [rcells, h]
theorem rcells_set {α : Type} (F : α → Value) (l : List α) (i : Nat) (x : α) : (rcells F l).setIfInBounds i (F x) = rcells F (l.set i x) := by
  unfold rcells
  rw [List.setIfInBounds_toArray, List.map_set]
theorem rcells_cell {α : Type} {F : α → Value} {w : World} {g : Nat} {T : TypeId} {l : List α} (h : w.heap[g]? = some (.cells (rcells F l) T (0, 0))) (i : Nat) (hi : i < l.length) : w.cell? ⟨g, i, none⟩ = some (F l[i]) := cell_at h i _ (rcells_at F l i hi)
theorem rcells_frozen {α : Type} {F : α → Value} {w : World} {g : Nat} {T : TypeId} {l : List α} (h : w.heap[g]? = some (.cells (rcells F l) T (0, 0))) (i : Nat) : w.frozen? ⟨g, i, none⟩ = false := by simp [World.frozen?, h]
theorem rcells_store {α : Type} {F : α → Value} {w : World} {g : Nat} {T : TypeId} {l : List α} (h : w.heap[g]? = some (.cells (rcells F l) T (0, 0))) (i : Nat) (x : α) : (w.setCell ⟨g, i, none⟩ (F x)).heap[g]? = some (.cells (rcells F (l.set i x)) T (0, 0)) := by
  rw [← rcells_set]
  simp [World.setCell, Array.getElem?_modify, h]
theorem ro_block {α : Type} {F : α → Value} {w : World} {g : Nat} {T : TypeId} {l : List α} (h : w.heap[g]? = some (.cells (rcells F l) T (0, 0))) (n : Nat) (hn : n ≤ l.length) (hl : l.length ≤ maxLen) : Ro F w (.slice (some ⟨g, 0, none⟩) n l.length) (l.take n) := by
  have hlen : (l.take n).length = n := by simp; omega
  refine ⟨_, l.length, by rw [hlen], by rw [hlen]; exact hn, hl, fun _ => ⟨g, 0, rfl, (Array.getElem?_eq_some_iff.1 h).1, fun i hi => ?_⟩⟩
  rw [Nat.zero_add, List.getElem_take]
  exact rcells_cell h i (by omega)
/-- what is written so far, and zeros -/
def fillL {α : Type} (z : α) (ps : List α) (t : Nat) : List α := ps.take t ++ List.replicate (ps.length + 1 - t) z
theorem fillL_length {α : Type} (z : α) (ps : List α) (t : Nat) (h : t ≤ ps.length) : (fillL z ps t).length = ps.length + 1 := by simp [fillL]; omega
theorem fillL_set {α : Type} (z : α) (ps : List α) (t : Nat) (h : t < ps.length) : (fillL z ps t).set t ps[t] = fillL z ps (t + 1) := by
  unfold fillL
  have hl : (ps.take t).length = t := by simp; omega
  obtain ⟨k, hk⟩ : ∃ k, ps.length + 1 - t = k + 1 := ⟨ps.length - t, by omega⟩
  rw [hk, show ps.length + 1 - (t + 1) = k by omega, List.set_append_right _ _ (by omega), hl, Nat.sub_self, List.replicate_succ, List.set_cons_zero, List.take_succ_eq_append_getElem h, List.append_assoc]
  rfl
theorem fillL_last {α : Type} (z m : α) (ps : List α) : (fillL z ps ps.length).set ps.length m = ps ++ [m] := by
  unfold fillL
  rw [List.take_length, show ps.length + 1 - ps.length = 1 by omega, List.set_append_right _ _ (Nat.le_refl _), Nat.sub_self]
  rfl
theorem made_fill {α : Type} (F : α → Value) (z : α) (ps : List α) : madeCells #[F z] (ps.length + 1) = rcells F (fillL z ps 0) := by
  apply Array.ext'
  rw [toList_madeCells_one]
  simp [rcells, fillL]
/-- a copy with its mark behind it, in a block of its own -/
def TwinR {α : Type} (F : α → Value) (T : TypeId) (mk : α) (w : World) (v : Value) (ps : List α) : Prop :=
  ∃ B, v = .slice (some ⟨B, 0, none⟩) ps.length (ps.length + 1) ∧ w.heap[B]? = some (.cells (rcells F (ps ++ [mk])) T (0, 0))
theorem TwinR.below {α : Type} {F : α → Value} {T : TypeId} {mk : α} {w w' : World} {v : Value} {ps : List α} (h : TwinR F T mk w v ps) (k : Below w.heap.size w w') : TwinR F T mk w' v ps := by
  obtain ⟨B, e, h⟩ := h
  exact ⟨B, e, (k.block B (Array.getElem?_eq_some_iff.1 h).1).trans h⟩
theorem TwinR.ro {α : Type} {F : α → Value} {T : TypeId} {mk : α} {w : World} {v : Value} {ps : List α} (h : TwinR F T mk w v ps) (hl : ps.length + 1 ≤ maxLen) : Ro F w v ps := by
  obtain ⟨B, rfl, h⟩ := h
  have := ro_block h ps.length (by simp) (by simpa using hl)
  rwa [List.take_left, List.length_append, List.length_singleton] at this
end Go.Proofs.YtdepmjgibenejaaGreatDoor
end
section
namespace Go.Proofs.YtdepmjgibenejaaGreatDoor
set_option maxRecDepth 100000
open Go.RowKit
def FI (x : Int) : Value := .int .i64 x
theorem ro_own {w : World} {base : Nat} {v : Value} {l : List Int} (h : w.ownsRow base 3 1 v l.length (l.map FI)) : Ro FI w v l := by
  rcases id h.2 with ⟨rfl, h0⟩ | ⟨g, cap, cur, rfl, h1, h2, h3, h4, h5, h6⟩
  · obtain rfl : l = [] := List.length_eq_zero_iff.1 h0
    exact ⟨none, 0, rfl, Nat.le_refl _, by simp [maxLen], fun h => absurd rfl h⟩
  · refine ⟨_, cap, rfl, h3, h4, fun _ => ⟨g, 0, rfl, (Array.getElem?_eq_some_iff.1 h2).1, fun i hi => ?_⟩⟩
    rw [Nat.zero_add]
    refine er_cellAt h2 i _ ?_
    have e1 : (l.map FI)[i]? = some (FI l[i]) := by simp [hi]
    rw [← h6, List.getElem?_take] at e1
    split at e1
    · rwa [Array.getElem?_toList] at e1
    · cases e1
set_option maxHeartbeats 1600000 in
theorem sameI_any (w : World) (v1 v2 : Value) (l : List Int) (h1 : Ro FI w v1 l) (h2 : Ro FI w v2 l) :
    Calls Tryz.prog 19 #[v1, v2] w fun e w' => e = .returned (.bool true) ∧ Below w.heap.size w w' := by
  obtain ⟨a1, c1, rfl, b1, b1'⟩ := h1.len
  obtain ⟨a2, c2, rfl, b2, b2'⟩ := h2.len
  have H1 := Bx.mk h1; have H2 := Bx.mk h2
  clear h1 h2
  go_enter Tryz.func19, Tryz.ntmps19
  obtain ⟨n, hl1⟩ : ∃ n, n = l.length := ⟨_, rfl⟩
  have hlb : n ≤ 9223372036854775807 := by omega
  rw [← hl1]
  have HL1 := Bx.mk hl1
  clear hl1 b1 b1' b2 b2'
  go_wp2_with fail
  go_loopw [5] (fun i wr => ∃ t : Nat, t ≤ n ∧ i = .int .i64 (t : Int) ∧ Below w.heap.size w wr) (fun i _ => n - (intOf i).toNat)
  case atStart => exact ⟨0, Nat.zero_le _, rfl, Below.refl _ _⟩
  case round =>
    obtain ⟨t, ht, rfl, hb⟩ := hrel
    have B0 := Bx.mk hb; clear hb
    by_cases hlt : t < n
    · have htp : t < l.length := by rw [← HL1.out]; exact hlt
      have h1 := H1.out.below B0.out
      have h2 := H2.out.below B0.out
      rw [← HL1.out] at h1 h2
      obtain ⟨B1, o1, rfl, l1, r1⟩ := h1.at t htp
      obtain ⟨B2, o2, rfl, l2, r2⟩ := h2.at t htp
      generalize l[t] = x at r1 r2
      unfold FI at r1 r2
      have TL := Bx.mk hlt
      have f1 : ¬ (n : Int) ≤ (t : Int) := by omega
      have f2 : (t : Int) < (n : Int) := by omega
      clear l1 l2 htp hlt ht h1 h2
      go_upto_region 6 with (fail)
      go_quiet (fail)
      generalize hwq : wr.drewN nq = W2
      have B2 := Bx.mk (show Below w.heap.size w W2 by rw [← hwq]; exact below_drewN B0.out nq)
      clear hwq r1 r2 f1 f2
      go_wp2_with fail
      go_roundw
      case rel => exact ⟨t + 1, TL.out, (by rw [wrap_succB t (by have := TL.out; omega)]), B2.out⟩
      case measure => rw [wrap_succB t (by have := TL.out; omega)]; have := TL.out; simp [intOf]; omega
    · obtain rfl : t = n := by omega
      have f1 : ¬ (t : Int) < (t : Int) := by omega
      clear hlt ht
      go_wp2_with fail
      go_ret
      exact ⟨rfl, B0.out⟩
end Go.Proofs.YtdepmjgibenejaaGreatDoor
end
section
namespace Go.Proofs.YtdepmjgibenejaaGreatDoor
set_option maxRecDepth 100000
open Go.RowKit
set_option maxHeartbeats 6400000 in
theorem apartInt_any (base : Nat) (w : World) (b n : Nat) (l : Nat → Value) (m : Nat) (V : Nat → Value) (N : Nat → Nat) (X : Nat → List Value) (G : Nat → Value) (Kn : Nat → Nat) (h : BkL 1 93 3 1 base w b n l m V N X G Kn) (hz : ∀ i, i ≠ 1 → l i = .slice none 0 0) (hbase : base ≤ w.heap.size) (hm : m ≤ 100000000) (hN : ∀ i, i < m → N i ≤ 100000000 ∧ Kn i ≤ 100000000) :
    Calls Tryz.prog 21 #[.pointer (some ⟨b, 0, none⟩)] w fun e w' => e = .returned (.bool true) ∧ Keep (fun k => (∃ i, i < m ∧ (V i).ownBlock = some k) ∨ (l 1).ownBlock = some k) w w' := by
  have HZ := Bx.mk hz; have HB := Bx.mk hbase

  have B0 := Bx.mk h; have HM := Bx.mk hm; have HN := Bx.mk hN
  have OX : Bx (∀ i, i < m → fillX (mkInt (Kn i)).toList (X i) (N i) = marks (mkInt (Kn i)).toList (N i)) := ⟨fun i hi => fillX_marks _ _ _ (by rw [mkIntL]; exact (h.li i hi).1)⟩
  clear hm hN
  have KK0 : Bx (Keep (fun k => (∃ i, i < m ∧ (V i).ownBlock = some k) ∨ (l 1).ownBlock = some k) w w) := ⟨Keep.refl _ _⟩
  clear hz hbase h
  go_enter Tryz.func21, Tryz.ntmps21
  go_wp2_with fail
  refine (fillInt_any base w b n l m V N X G Kn B0.out (Nat.le_trans HB.out KK0.out.size) HM.out HN.out).mono ?_
  rintro e w1 ⟨rfl, hB, hk⟩
  have C1 := Bx.mk (hB.of OX.out)
  have K1 := Bx.mk (KK0.out.trans (hk.mono (S' := fun k => (∃ i, i < m ∧ (V i).ownBlock = some k) ∨ (l 1).ownBlock = some k) (fun j _ hj => .inl (hj))) (fun _ _ h => h))
  clear hB hk
  go_wp2_with fail
  refine (fillByte_nil w1 b (n : Int) l C1.out.bk (HZ.out 2 (by decide))).mono ?_
  rintro e z1 ⟨rfl, hz1⟩
  rw [hz1]; clear hz1
  go_wp2_with fail
  refine (fillText_nil w1 b (n : Int) l C1.out.bk (HZ.out 3 (by decide))).mono ?_
  rintro e z2 ⟨rfl, hz2⟩
  rw [hz2]; clear hz2
  go_wp2_with fail
  refine (fillNumber_nil w1 b (n : Int) l C1.out.bk (HZ.out 4 (by decide))).mono ?_
  rintro e z3 ⟨rfl, hz3⟩
  rw [hz3]; clear hz3
  go_wp2_with fail
  refine (fillHash_nil w1 b (n : Int) l C1.out.bk (HZ.out 5 (by decide))).mono ?_
  rintro e z4 ⟨rfl, hz4⟩
  rw [hz4]; clear hz4
  go_wp2_with fail
  refine (fillCoord_nil w1 b (n : Int) l C1.out.bk (HZ.out 6 (by decide))).mono ?_
  rintro e z5 ⟨rfl, hz5⟩
  rw [hz5]; clear hz5
  go_wp2_with fail
  refine (fillSpan_nil w1 b (n : Int) l C1.out.bk (HZ.out 7 (by decide))).mono ?_
  rintro e z6 ⟨rfl, hz6⟩
  rw [hz6]; clear hz6
  go_wp2_with fail
  refine (fillNode_nil w1 b (n : Int) l C1.out.bk (HZ.out 8 (by decide))).mono ?_
  rintro e z7 ⟨rfl, hz7⟩
  rw [hz7]; clear hz7
  go_wp2_with fail
  refine (fillTile_nil w1 b (n : Int) l C1.out.bk (HZ.out 9 (by decide))).mono ?_
  rintro e z8 ⟨rfl, hz8⟩
  rw [hz8]; clear hz8
  go_wp2_with fail
  refine (fillEntry_nil w1 b (n : Int) l C1.out.bk (HZ.out 10 (by decide))).mono ?_
  rintro e z9 ⟨rfl, hz9⟩
  rw [hz9]; clear hz9
  go_wp2_with fail
  refine (fillFound_nil w1 b (n : Int) l C1.out.bk (HZ.out 11 (by decide))).mono ?_
  rintro e z10 ⟨rfl, hz10⟩
  rw [hz10]; clear hz10
  go_wp2_with fail
  refine (fillKnown_nil w1 b (n : Int) l C1.out.bk (HZ.out 12 (by decide))).mono ?_
  rintro e z11 ⟨rfl, hz11⟩
  rw [hz11]; clear hz11
  go_wp2_with fail
  refine (fillVote_nil w1 b (n : Int) l C1.out.bk (HZ.out 13 (by decide))).mono ?_
  rintro e z12 ⟨rfl, hz12⟩
  rw [hz12]; clear hz12
  go_wp2_with fail
  refine (fillPart_nil w1 b (n : Int) l C1.out.bk (HZ.out 14 (by decide))).mono ?_
  rintro e z13 ⟨rfl, hz13⟩
  rw [hz13]; clear hz13
  go_wp2_with fail
  refine (fillHashList_nil w1 b (n : Int) l C1.out.bk (HZ.out 15 (by decide))).mono ?_
  rintro e z14 ⟨rfl, hz14⟩
  rw [hz14]; clear hz14
  go_wp2_with fail
  refine (fillQuery_nil w1 b (n : Int) l C1.out.bk (HZ.out 16 (by decide))).mono ?_
  rintro e z15 ⟨rfl, hz15⟩
  rw [hz15]; clear hz15
  go_wp2_with fail
  refine (growInt_any base w1 b n l m V N G Kn C1.out (Nat.le_trans HB.out K1.out.size) HM.out HN.out).mono ?_
  rintro e w2 ⟨rfl, G', hB, hg, hk⟩
  have C2 := Bx.mk hB; have GG := Bx.mk (fun i (hi : i < m) => (hg i hi).1)
  have GL := Bx.mk (fun i (hi : i < m) => (hg i hi).2)
  have LT := Bx.mk K1.out.size
  have K2 := Bx.mk (K1.out.trans (hk.mono (S' := fun k => (∃ i, i < m ∧ (V i).ownBlock = some k) ∨ (l 1).ownBlock = some k) (fun j _ hj => hj.elim (fun hj => .inl (hj)) (fun hj => .inr (hj)))) (fun _ _ h => h))
  clear hB hg hk
  go_wp2_with fail
  refine (growByte_nil w2 b (n : Int) l C2.out.bk (HZ.out 2 (by decide))).mono ?_
  rintro e z16 ⟨rfl, hz16⟩
  rw [hz16]; clear hz16
  go_wp2_with fail
  refine (growText_nil w2 b (n : Int) l C2.out.bk (HZ.out 3 (by decide))).mono ?_
  rintro e z17 ⟨rfl, hz17⟩
  rw [hz17]; clear hz17
  go_wp2_with fail
  refine (growNumber_nil w2 b (n : Int) l C2.out.bk (HZ.out 4 (by decide))).mono ?_
  rintro e z18 ⟨rfl, hz18⟩
  rw [hz18]; clear hz18
  go_wp2_with fail
  refine (growHash_nil w2 b (n : Int) l C2.out.bk (HZ.out 5 (by decide))).mono ?_
  rintro e z19 ⟨rfl, hz19⟩
  rw [hz19]; clear hz19
  go_wp2_with fail
  refine (growCoord_nil w2 b (n : Int) l C2.out.bk (HZ.out 6 (by decide))).mono ?_
  rintro e z20 ⟨rfl, hz20⟩
  rw [hz20]; clear hz20
  go_wp2_with fail
  refine (growSpan_nil w2 b (n : Int) l C2.out.bk (HZ.out 7 (by decide))).mono ?_
  rintro e z21 ⟨rfl, hz21⟩
  rw [hz21]; clear hz21
  go_wp2_with fail
  refine (growNode_nil w2 b (n : Int) l C2.out.bk (HZ.out 8 (by decide))).mono ?_
  rintro e z22 ⟨rfl, hz22⟩
  rw [hz22]; clear hz22
  go_wp2_with fail
  refine (growTile_nil w2 b (n : Int) l C2.out.bk (HZ.out 9 (by decide))).mono ?_
  rintro e z23 ⟨rfl, hz23⟩
  rw [hz23]; clear hz23
  go_wp2_with fail
  refine (growEntry_nil w2 b (n : Int) l C2.out.bk (HZ.out 10 (by decide))).mono ?_
  rintro e z24 ⟨rfl, hz24⟩
  rw [hz24]; clear hz24
  go_wp2_with fail
  refine (growFound_nil w2 b (n : Int) l C2.out.bk (HZ.out 11 (by decide))).mono ?_
  rintro e z25 ⟨rfl, hz25⟩
  rw [hz25]; clear hz25
  go_wp2_with fail
  refine (growKnown_nil w2 b (n : Int) l C2.out.bk (HZ.out 12 (by decide))).mono ?_
  rintro e z26 ⟨rfl, hz26⟩
  rw [hz26]; clear hz26
  go_wp2_with fail
  refine (growVote_nil w2 b (n : Int) l C2.out.bk (HZ.out 13 (by decide))).mono ?_
  rintro e z27 ⟨rfl, hz27⟩
  rw [hz27]; clear hz27
  go_wp2_with fail
  refine (growPart_nil w2 b (n : Int) l C2.out.bk (HZ.out 14 (by decide))).mono ?_
  rintro e z28 ⟨rfl, hz28⟩
  rw [hz28]; clear hz28
  go_wp2_with fail
  refine (growHashList_nil w2 b (n : Int) l C2.out.bk (HZ.out 15 (by decide))).mono ?_
  rintro e z29 ⟨rfl, hz29⟩
  rw [hz29]; clear hz29
  go_wp2_with fail
  refine (growQuery_nil w2 b (n : Int) l C2.out.bk (HZ.out 16 (by decide))).mono ?_
  rintro e z30 ⟨rfl, hz30⟩
  rw [hz30]; clear hz30
  go_wp2_with fail
  refine (lookInt_any base w2 b n l m V N G' Kn C2.out GG.out HM.out HN.out).mono ?_
  rintro e w3 ⟨rfl, hb⟩
  have K3 := Bx.mk (K2.out.trans (Keep.of_below hb (fun k => (∃ i, i < m ∧ (V i).ownBlock = some k) ∨ (l 1).ownBlock = some k)) (fun _ _ h => h))
  have D3Int := Bx.mk (C2.out.keep (Keep.of_below hb (fun _ => False)) (C2.out.bk.below hb) rfl (fun _ _ h => h) (fun _ _ _ _ h => h))
  clear hb
  go_wp2_with fail
  refine (lookByte_nil w3 b (n : Int) l D3Int.out.bk (HZ.out 2 (by decide))).mono ?_
  rintro e z31 ⟨rfl, hz31⟩
  rw [hz31]; clear hz31
  go_wp2_with fail
  refine (lookText_nil w3 b (n : Int) l D3Int.out.bk (HZ.out 3 (by decide))).mono ?_
  rintro e z32 ⟨rfl, hz32⟩
  rw [hz32]; clear hz32
  go_wp2_with fail
  refine (lookNumber_nil w3 b (n : Int) l D3Int.out.bk (HZ.out 4 (by decide))).mono ?_
  rintro e z33 ⟨rfl, hz33⟩
  rw [hz33]; clear hz33
  go_wp2_with fail
  refine (lookHash_nil w3 b (n : Int) l D3Int.out.bk (HZ.out 5 (by decide))).mono ?_
  rintro e z34 ⟨rfl, hz34⟩
  rw [hz34]; clear hz34
  go_wp2_with fail
  refine (lookCoord_nil w3 b (n : Int) l D3Int.out.bk (HZ.out 6 (by decide))).mono ?_
  rintro e z35 ⟨rfl, hz35⟩
  rw [hz35]; clear hz35
  go_wp2_with fail
  refine (lookSpan_nil w3 b (n : Int) l D3Int.out.bk (HZ.out 7 (by decide))).mono ?_
  rintro e z36 ⟨rfl, hz36⟩
  rw [hz36]; clear hz36
  go_wp2_with fail
  refine (lookNode_nil w3 b (n : Int) l D3Int.out.bk (HZ.out 8 (by decide))).mono ?_
  rintro e z37 ⟨rfl, hz37⟩
  rw [hz37]; clear hz37
  go_wp2_with fail
  refine (lookTile_nil w3 b (n : Int) l D3Int.out.bk (HZ.out 9 (by decide))).mono ?_
  rintro e z38 ⟨rfl, hz38⟩
  rw [hz38]; clear hz38
  go_wp2_with fail
  refine (lookEntry_nil w3 b (n : Int) l D3Int.out.bk (HZ.out 10 (by decide))).mono ?_
  rintro e z39 ⟨rfl, hz39⟩
  rw [hz39]; clear hz39
  go_wp2_with fail
  refine (lookFound_nil w3 b (n : Int) l D3Int.out.bk (HZ.out 11 (by decide))).mono ?_
  rintro e z40 ⟨rfl, hz40⟩
  rw [hz40]; clear hz40
  go_wp2_with fail
  refine (lookKnown_nil w3 b (n : Int) l D3Int.out.bk (HZ.out 12 (by decide))).mono ?_
  rintro e z41 ⟨rfl, hz41⟩
  rw [hz41]; clear hz41
  go_wp2_with fail
  refine (lookVote_nil w3 b (n : Int) l D3Int.out.bk (HZ.out 13 (by decide))).mono ?_
  rintro e z42 ⟨rfl, hz42⟩
  rw [hz42]; clear hz42
  go_wp2_with fail
  refine (lookPart_nil w3 b (n : Int) l D3Int.out.bk (HZ.out 14 (by decide))).mono ?_
  rintro e z43 ⟨rfl, hz43⟩
  rw [hz43]; clear hz43
  go_wp2_with fail
  refine (lookHashList_nil w3 b (n : Int) l D3Int.out.bk (HZ.out 15 (by decide))).mono ?_
  rintro e z44 ⟨rfl, hz44⟩
  rw [hz44]; clear hz44
  go_wp2_with fail
  refine (lookQuery_nil w3 b (n : Int) l D3Int.out.bk (HZ.out 16 (by decide))).mono ?_
  rintro e z45 ⟨rfl, hz45⟩
  rw [hz45]; clear hz45
  go_wp2_with fail
  go_ret
  exact ⟨rfl, K3.out⟩
end Go.Proofs.YtdepmjgibenejaaGreatDoor
end
section
namespace Go.Proofs.YtdepmjgibenejaaGreatDoor
set_option maxRecDepth 100000
open Go.RowKit
theorem bints_any (base : Nat) (w : World) (b n : Nat) (l : Nat → Value) (m : Nat) (xs : List Value) (hB : BkP w b (n : Int) l) (hO : w.ownsRow base 93 3 (l 1) m xs) (hm : m ≤ 100000000) (hn : n ≤ 100000000) (hne : ∀ j, (l 1).ownBlock = some j → j ≠ b) (hbase : base ≤ w.heap.size) (va : Option Addr) (vn vc : Nat) :
    Calls Tryz.prog 20 #[.pointer (some ⟨b, 0, none⟩), .slice va vn vc] w fun e w' => e = .returned (.tuple #[]) ∧ ∃ x, BkP w' b ((n + 1 : Nat) : Int) (updK l 1 x) ∧ w'.ownsRow base 93 3 x (m + 1) (xs ++ hdcInt (.slice va vn vc, .slice none 0 0, ((n + 1 : Nat) : Int))) ∧ Keep (fun k => k = b ∨ (l 1).ownBlock = some k) w w' ∧ ∀ k, x.ownBlock = some k → k ≠ b ∧ ((l 1).ownBlock = some k ∨ w.heap.size ≤ k) := by
  have C := Bx.mk (keepInt_any base w b n l m xs hB hO hm hn hne hbase va vn vc)
  clear hB hO hm hn hne hbase
  go_enter Tryz.func20, Tryz.ntmps20
  go_wp2_with fail
  refine C.out.mono ?_
  rintro e w1 ⟨rfl, h⟩
  have H := Bx.mk h; clear h
  go_wp2_with fail
  go_end0
  exact ⟨rfl, H.out⟩
def twoV (a b : Value) : Nat → Value := fun i => if i = 0 then a else b
theorem hdRow2 (a b : Value) : hdRow (twoV a b) (fun _ => .slice none 0 0) (fun i => i + 1) 2 = [a, .slice none 0 0, .int .i64 1, b, .slice none 0 0, .int .i64 2] := rfl
theorem ints_end (u : World) (N : Nat) (hNu : N ≤ u.heap.size) (va vb : Value) (na nb : Nat) (xa xb : List Value) (s1 : Nat)
    (ha : u.ownsRow N 3 1 va na xa) (hbv : u.ownsRow N 3 1 vb nb xb) (h1 : ∀ j, va.ownBlock = some j → j < s1) (h2 : ∀ j, vb.ownBlock = some j → s1 ≤ j)
    (hl : na ≤ 100000000 ∧ nb ≤ 100000000) (b : Nat) (l : Nat → Value) (hB : BkP u b (2 : Int) l) (hR : u.ownsRow N 93 3 (l 1) 2 [va, .slice none 0 0, .int .i64 1, vb, .slice none 0 0, .int .i64 2]) (hz : ∀ i, i ≠ 1 → l i = .slice none 0 0)
    (hnb : ∀ j, (va.ownBlock = some j ∨ vb.ownBlock = some j) → j ≠ b ∧ (l 1).ownBlock ≠ some j) :
    Calls Tryz.prog 21 #[.pointer (some ⟨b, 0, none⟩)] u fun e w' => e = .returned (.bool true) ∧ Below N u w' := by
  have hL : BkL 1 93 3 1 N u b 2 l 2 (twoV va vb) (fun i => if i = 0 then na else nb) (fun i => if i = 0 then xa else xb) (fun _ => .slice none 0 0) (fun i => i + 1) := by
    refine ⟨hB, by rw [hdRow2]; exact hR, fun i hi => ?_, fun i hi j hj hij k e1 e2 => ?_, fun i hi k e => ?_, fun i _ => ⟨none, 0, 0, rfl⟩, by decide⟩
    · rcases (show i = 0 ∨ i = 1 by omega) with rfl | rfl
      · exact ha
      · exact hbv
    · rcases (show i = 0 ∨ i = 1 by omega) with rfl | rfl <;> rcases (show j = 0 ∨ j = 1 by omega) with rfl | rfl
      · exact hij rfl
      · have := h1 k e1; have := h2 k e2; omega
      · have := h2 k e1; have := h1 k e2; omega
      · exact hij rfl
    · rcases (show i = 0 ∨ i = 1 by omega) with rfl | rfl
      · exact hnb k (.inl e)
      · exact hnb k (.inr e)
  refine (apartInt_any N u b 2 l 2 _ _ _ _ _ hL hz hNu (by decide) (fun i hi => by rcases (show i = 0 ∨ i = 1 by omega) with rfl | rfl <;> exact ⟨by first | exact hl.1 | exact hl.2, by decide⟩)).mono ?_
  rintro e w' ⟨rfl, hk⟩
  exact ⟨rfl, hk.below (B := N) hNu (fun k hk => by
    rcases hk with ⟨i, hi, e⟩ | e
    · exact (ownsRow_ge (hL.li i hi) k e)
    · exact (ownsRow_ge hL.row k e))⟩
/-- the two caches of the program and the two of the document -/
structure CW (base : Nat) (w : World) (wb : Nat) (s r most : Nat → Nat) (es : Nat → List (Int × Int)) (B : Nat → Nat → Prop) (L : Nat → Value) : Prop where
  hb : w.heap[wb]? = some (.cells #[.pointer (some ⟨s 0, 0, none⟩), .pointer (some ⟨s 1, 0, none⟩), .pointer (some ⟨r 0, 0, none⟩), .pointer (some ⟨r 1, 0, none⟩)] 29 (0, 0))
  bw : base ≤ wb
  ca : ∀ k, k < 2 → CaXI base w (s k) (most k) (es k) (B k)
  rf : ∀ k, k < 2 → RfM base w (r k) (most k) (es k) (L k)
  dB : ∀ j, B 0 j → ¬ B 1 j
  rr : r 0 ≠ r 1
theorem CW.below {base : Nat} {w w' : World} {wb : Nat} {s r most : Nat → Nat} {es : Nat → List (Int × Int)} {B : Nat → Nat → Prop} {L : Nat → Value} (h : CW base w wb s r most es B L) (k : Below w.heap.size w w') : CW base w' wb s r most es B L :=
  ⟨(k.block wb (Array.getElem?_eq_some_iff.1 h.hb).1).trans h.hb, h.bw, fun i hi => (h.ca i hi).below k, fun i hi => (h.rf i hi).below k, h.dB, h.rr⟩
theorem CW.cS {base : Nat} {w : World} {wb : Nat} {s r most : Nat → Nat} {es : Nat → List (Int × Int)} {B : Nat → Nat → Prop} {L : Nat → Value} (h : CW base w wb s r most es B L) {k : Nat} (hk : k < 2) : w.cell? ⟨wb, k, none⟩ = some (.pointer (some ⟨s k, 0, none⟩)) := by
  rcases (show k = 0 ∨ k = 1 by omega) with rfl | rfl
  · exact er_cellAt h.hb 0 _ rfl
  · exact er_cellAt h.hb 1 _ rfl
theorem CW.cR {base : Nat} {w : World} {wb : Nat} {s r most : Nat → Nat} {es : Nat → List (Int × Int)} {B : Nat → Nat → Prop} {L : Nat → Value} (h : CW base w wb s r most es B L) {k : Nat} (hk : k < 2) : w.cell? ⟨wb, 2 + k, none⟩ = some (.pointer (some ⟨r k, 0, none⟩)) := by
  rcases (show k = 0 ∨ k = 1 by omega) with rfl | rfl
  · exact er_cellAt h.hb 2 _ rfl
  · exact er_cellAt h.hb 3 _ rfl
theorem CaXI.le {base : Nat} {w : World} {r most : Nat} {es : List (Int × Int)} {B : Nat → Prop} (h : CaXI base w r most es B) : es.length ≤ most ∧ most ≤ 1024 ∧ (es.map (·.1)).Nodup := by
  obtain ⟨h0, _, _, _, _, _, _, _, _, _, _, _, v, _⟩ := h
  exact ⟨v.le, h0, v.kd⟩
theorem keycI_map (es : List (Int × Int)) : keycI es = (es.map (·.1)).map FI := by unfold keycI FI; rw [List.map_map]; rfl
set_option maxHeartbeats 3200000 in
theorem looks13_any (base : Nat) (w : World) (wb : Nat) (s r most : Nat → Nat) (es : Nat → List (Int × Int)) (B : Nat → Nat → Prop) (L : Nat → Value) (h : CW base w wb s r most es B L) (k : Nat) (hk : k < 2) :
    Calls Tryz.prog 7 #[.pointer (some ⟨wb, 0, none⟩), .int .i64 (k : Int)] w fun e w' => e = .returned (.bool true) ∧ Below w.heap.size w w' := by
  obtain ⟨sk, hsk⟩ : ∃ x, x = s k := ⟨_, rfl⟩
  obtain ⟨rk, hrk⟩ : ∃ x, x = r k := ⟨_, rfl⟩
  have HA : Bx (∀ u, Below w.heap.size w u → CaXI base u sk (most k) (es k) (B k)) := ⟨fun u hu => by rw [hsk]; exact (h.below hu).ca k hk⟩
  have HR : Bx (∀ u, Below w.heap.size w u → RfM base u rk (most k) (es k) (L k)) := ⟨fun u hu => by rw [hrk]; exact (h.below hu).rf k hk⟩
  have HS : Bx (∀ u, Below w.heap.size w u → u.cell? ⟨wb, k, none⟩ = some (.pointer (some ⟨sk, 0, none⟩))) := ⟨fun u hu => by rw [hsk]; exact (h.below hu).cS hk⟩
  have HT : Bx (∀ u, Below w.heap.size w u → u.cell? ⟨wb, 2 + k, none⟩ = some (.pointer (some ⟨rk, 0, none⟩))) := ⟨fun u hu => by rw [hrk]; exact (h.below hu).cR hk⟩
  have LE := Bx.mk (show (es k).length ≤ 1024 by have := (h.ca k hk).le; omega)
  have k1 : (k : Int) < 2 := by omega
  have k2 : ¬ (2 : Int) ≤ (k : Int) := by omega
  obtain ⟨N, hN⟩ : ∃ N, N = w.heap.size := ⟨_, rfl⟩
  rw [← hN] at HA HR HS HT ⊢
  have HN := Bx.mk hN
  have B0 : Bx (Below N w w) := ⟨by rw [hN]; exact Below.refl _ _⟩
  have N0 := Bx.mk (show N ≤ w.heap.size by rw [hN]; exact Nat.le_refl _)
  obtain ⟨ek, hek⟩ : ∃ x, x = es k := ⟨_, rfl⟩
  obtain ⟨mk, hmk⟩ : ∃ x, x = most k := ⟨_, rfl⟩
  obtain ⟨Bk, hBk⟩ : ∃ x, x = B k := ⟨_, rfl⟩
  obtain ⟨Lk, hLk⟩ : ∃ x, x = L k := ⟨_, rfl⟩
  rw [← hek, ← hmk, ← hBk] at HA
  rw [← hek, ← hmk, ← hLk] at HR
  rw [← hek] at LE
  clear h hk hN hsk hrk hek hmk hBk hLk
  have c0 := HS.out w B0.out
  go_enter Tryz.func7, Tryz.ntmps7
  go_wp2_with fail
  refine (keys_anyI base w sk mk ek Bk (HA.out w B0.out)).mono ?_
  rintro e w1 ⟨v1, rfl, ho, hb⟩
  have O1 := Bx.mk ho; have B1 := Bx.mk (B0.out.trans (hb.mono N0.out)); have N1 := Bx.mk (Nat.le_trans N0.out hb.size)
  clear ho hb c0
  have c0 := HS.out w1 B1.out
  go_wp2_with fail
  refine (keys_anyI base w1 sk mk ek Bk (HA.out w1 B1.out)).mono ?_
  rintro e w2 ⟨v2, rfl, ho, hb⟩
  have O2 := Bx.mk ho; have B2 := Bx.mk (B1.out.trans (hb.mono N1.out)); have N2 := Bx.mk (Nat.le_trans N1.out hb.size)
  have P1 := Bx.mk (ownsRow_keep' O1.out fun j hj => hb.block j (ownsRow_lt O1.out j hj))
  have L1 := Bx.mk (ownsRow_lt O1.out)
  clear ho hb c0 O1
  have c0 := HT.out w2 B2.out
  go_wp2_with fail
  refine (rkeys13_any base w2 rk mk ek Lk (HR.out w2 B2.out) LE.out).mono ?_
  rintro e w3 ⟨v3, rfl, ho, hb⟩
  have O3 := Bx.mk ho; have B3 := Bx.mk (B2.out.trans (hb.mono N2.out)); have N3 := Bx.mk (Nat.le_trans N2.out hb.size)
  have Q1 := Bx.mk (ownsRow_mono (ownsRow_keep' P1.out fun j hj => hb.block j (ownsRow_lt P1.out j hj)) N0.out)
  have Q2 := Bx.mk (ownsRow_keep' O2.out fun j hj => hb.block j (ownsRow_lt O2.out j hj))
  clear ho hb c0 P1
  obtain ⟨a1, c1, rfl, -, -, -⟩ := own_shapeK Q1.out
  obtain ⟨a2, c2, rfl, -, -, -⟩ := own_shapeK Q2.out
  obtain ⟨a3, c3, rfl, -, -, -⟩ := own_shapeK O3.out
  obtain ⟨n, hn⟩ : ∃ n, n = ek.length := ⟨_, rfl⟩
  have HNL := Bx.mk hn
  have SI : Bx (∀ u b1 b2 a1 c1 a2 c2, u.ownsRow b1 3 1 (.slice a1 n c1) n (keycI ek) → u.ownsRow b2 3 1 (.slice a2 n c2) n (keycI ek) → Calls Tryz.prog 19 #[.slice a1 n c1, .slice a2 n c2] u fun e w' => e = .returned (.bool true) ∧ Below u.heap.size u w') := ⟨fun u b1 b2 a1 c1 a2 c2 h1 h2 => by
    have hl : n = (ek.map (·.1)).length := by rw [List.length_map]; exact HNL.out
    rw [keycI_map] at h1 h2
    refine sameI_any u _ _ (ek.map (·.1)) (ro_own (base := b1) ?_) (ro_own (base := b2) ?_)
    · rw [← hl]; exact h1
    · rw [← hl]; exact h2⟩
  rw [← hn] at Q1 Q2 O3 O2 L1 ⊢
  clear hn
  have c0 := HS.out w3 B3.out
  have LA := Bx.mk (len_anyI base w3 sk mk ek Bk (HA.out w3 B3.out))
  rw [← HNL.out] at LA
  have CA := Bx.mk (SI.out w3 _ _ a1 c1 a3 c3 Q1.out O3.out)
  go_wp2_with fail
  refine LA.out.mono ?_
  rintro e w3' ⟨rfl, hw3⟩
  rw [hw3]
  clear hw3 c0
  go_wp2_with fail
  refine CA.out.mono ?_
  rintro e w4 ⟨rfl, hb⟩
  have B4 := Bx.mk (B3.out.trans (hb.mono N3.out)); have N4 := Bx.mk (Nat.le_trans N3.out hb.size)
  have R1 := Bx.mk (ownsRow_keep' Q1.out fun j hj => hb.block j (ownsRow_lt Q1.out j hj))
  have R2 := Bx.mk (ownsRow_mono (ownsRow_keep' Q2.out fun j hj => hb.block j (ownsRow_lt Q2.out j hj)) N1.out)
  have R3 := Bx.mk (ownsRow_keep' O3.out fun j hj => hb.block j (ownsRow_lt O3.out j hj))
  have CB := Bx.mk (SI.out w4 _ _ a2 c2 a3 c3 R2.out R3.out)
  have LO2 := Bx.mk (ownsRow_ge O2.out)
  clear hb CA
  go_wp2_with fail
  refine CB.out.mono ?_
  rintro e w5 ⟨rfl, hb⟩
  have B5 := Bx.mk (B4.out.trans (hb.mono N4.out)); have N5 := Bx.mk (Nat.le_trans N4.out hb.size)
  have T1 := Bx.mk (ownsRow_keep' R1.out fun j hj => hb.block j (ownsRow_lt R1.out j hj))
  have T2 := Bx.mk (ownsRow_keep' R2.out fun j hj => hb.block j (ownsRow_lt R2.out j hj))
  clear hb CB k1 k2
  go_upto_region 7 with (fail)
  have b9 := er_al (Below.refl w5.heap.size w5) (.cells #[.int .i64 0, .slice none 0 0, .slice none 0 0, .slice none 0 0, .slice none 0 0, .slice none 0 0, .slice none 0 0, .slice none 0 0, .slice none 0 0, .slice none 0 0, .slice none 0 0, .slice none 0 0, .slice none 0 0, .slice none 0 0, .slice none 0 0, .slice none 0 0, .slice none 0 0] 77)
  have p9 := heap_alloc_new w5 (.cells #[.int .i64 0, .slice none 0 0, .slice none 0 0, .slice none 0 0, .slice none 0 0, .slice none 0 0, .slice none 0 0, .slice none 0 0, .slice none 0 0, .slice none 0 0, .slice none 0 0, .slice none 0 0, .slice none 0 0, .slice none 0 0, .slice none 0 0, .slice none 0 0, .slice none 0 0] 77)
  change Code.wp _ _ _ _ (w5.alloc (.cells #[.int .i64 0, .slice none 0 0, .slice none 0 0, .slice none 0 0, .slice none 0 0, .slice none 0 0, .slice none 0 0, .slice none 0 0, .slice none 0 0, .slice none 0 0, .slice none 0 0, .slice none 0 0, .slice none 0 0, .slice none 0 0, .slice none 0 0, .slice none 0 0, .slice none 0 0] 77))
  obtain ⟨b, hbk⟩ : ∃ b, b = w5.heap.size := ⟨_, rfl⟩
  rw [← hbk] at p9 ⊢
  generalize w5.alloc (.cells #[.int .i64 0, .slice none 0 0, .slice none 0 0, .slice none 0 0, .slice none 0 0, .slice none 0 0, .slice none 0 0, .slice none 0 0, .slice none 0 0, .slice none 0 0, .slice none 0 0, .slice none 0 0, .slice none 0 0, .slice none 0 0, .slice none 0 0, .slice none 0 0, .slice none 0 0] 77) = W5 at b9 p9 ⊢
  have K5 := Bx.mk (B5.out.trans (b9.mono N5.out)); have M5 := Bx.mk (Nat.le_trans N5.out b9.size)
  have OA5 := Bx.mk (ownsRow_keep' T1.out fun j hj => b9.block j (ownsRow_lt T1.out j hj))
  have OB5 := Bx.mk (ownsRow_keep' T2.out fun j hj => b9.block j (ownsRow_lt T2.out j hj))
  have P5 : Bx (BkP W5 b ((0 : Nat) : Int) (fun _ => .slice none 0 0)) := ⟨⟨p9⟩⟩
  have BK := Bx.mk hbk
  have BL := Bx.mk (Array.getElem?_eq_some_iff.1 p9).1
  have GAL := Bx.mk (ownsRow_lt T1.out); have GBL := Bx.mk (ownsRow_lt T2.out)
  clear b9 p9 hbk
  go_wp2_with fail
  refine (bints_any N W5 b 0 (fun _ => .slice none 0 0) 0 [] P5.out (show W5.ownsRow N 93 3 ((fun _ => .slice none 0 0 : Nat → Value) 1) 0 [] from World.ownsRow_nil _ _ _ _) (by decide) (by decide) (fun j hj => by cases hj) M5.out _ _ _).mono ?_
  rintro e W6 ⟨rfl, x6, hP, hO, hk, hx⟩
  have N6 := Bx.mk (Nat.le_trans M5.out hk.size)
  have K6 := Bx.mk (K5.out.trans (hk.below (B := N) M5.out (fun k hk => by
    rcases hk with rfl | e
    · have h1 := BK.out; have h2 := N5.out; omega
    · cases e)))
  have OA6 := Bx.mk (ownsRow_keep' OA5.out fun j hj => hk.block j (ownsRow_lt OA5.out j hj) (fun e => by
    rcases e with e | e
    · have h1 := BK.out; have h2 := GAL.out j hj; omega
    · cases e))
  have OB6 := Bx.mk (ownsRow_keep' OB5.out fun j hj => hk.block j (ownsRow_lt OB5.out j hj) (fun e => by
    rcases e with e | e
    · have h1 := BK.out; have h2 := GBL.out j hj; omega
    · cases e))
  have P6 := Bx.mk hP; have O6 := Bx.mk hO
  have X6 := Bx.mk (fun k hk => And.intro (hx k hk).1 (show w5.heap.size < k by
    rcases (hx k hk).2 with h | h
    · cases h
    · have h1 := BK.out; have h2 := BL.out; omega))
  have KS := Bx.mk hk.size
  clear hP hO hk hx
  go_wp2_with fail
  refine (bints_any N W6 b 1 (updK (fun _ => .slice none 0 0) 1 x6) 1 _ P6.out O6.out (by decide) (by decide) (fun j hj => (X6.out j hj).1) N6.out _ _ _).mono ?_
  rintro e W7 ⟨rfl, x7, hP, hO, hk, hx⟩
  have N7 := Bx.mk (Nat.le_trans N6.out hk.size)
  have K7 := Bx.mk (K6.out.trans (hk.below (B := N) N6.out (fun k hk => by
    rcases hk with rfl | e
    · have h1 := BK.out; have h2 := N5.out; omega
    · exact ownsRow_ge O6.out k e)))
  have OA7 := Bx.mk (ownsRow_keep' OA6.out fun j hj => hk.block j (ownsRow_lt OA6.out j hj) (fun e => by
    have h2 := GAL.out j hj
    rcases e with e | e
    · have h1 := BK.out; omega
    · have := (X6.out _ e).2; omega))
  have OB7 := Bx.mk (ownsRow_keep' OB6.out fun j hj => hk.block j (ownsRow_lt OB6.out j hj) (fun e => by
    have h2 := GBL.out j hj
    rcases e with e | e
    · have h1 := BK.out; omega
    · have := (X6.out _ e).2; omega))
  have X7 := Bx.mk (fun k hk => And.intro (hx k hk).1 (show w5.heap.size < k by
    rcases (hx k hk).2 with h | h
    · exact (X6.out k h).2
    · have h1 := BK.out; have h2 := BL.out; have h3 := KS.out; omega))
  have NL := Bx.mk (show n ≤ 100000000 by have h1 := LE.out; have h2 := HNL.out; omega)
  have CE := Bx.mk (ints_end W7 N N7.out (.slice a1 n c1) (.slice a2 n c2) n n _ _ w1.heap.size OA7.out OB7.out (fun j hj => L1.out j hj) (fun j hj => LO2.out j hj) ⟨NL.out, NL.out⟩ b (updK (updK (fun _ => .slice none 0 0) 1 x6) 1 x7) hP hO
    (fun i hi => by unfold updK; rw [if_neg hi, if_neg hi])
    (fun j hj => by
      have hlt : j < w5.heap.size := by
        rcases hj with hj | hj
        · exact ownsRow_lt T1.out j hj
        · exact ownsRow_lt T2.out j hj
      have h1 := BK.out
      exact ⟨by omega, fun e => by have := (X7.out j e).2; omega⟩))
  clear hP hO hk hx
  go_wp2_with fail
  refine CE.out.mono ?_
  rintro e W8 ⟨rfl, hb⟩
  have KE := Bx.mk (K7.out.trans hb)
  clear hb
  go_wp2_with fail
  go_ret
  exact ⟨rfl, KE.out⟩
end Go.Proofs.YtdepmjgibenejaaGreatDoor
end
section
namespace Go.Proofs.YtdepmjgibenejaaGreatDoor
set_option maxRecDepth 100000
open Go.RowKit
theorem CaXI.notT {base : Nat} {w : World} {r most : Nat} {es : List (Int × Int)} {B : Nat → Prop} (h : CaXI base w r most es B) {j : Nat} {cs : Array Value} {T : TypeId} {fr : Nat × Nat} (hj : w.heap[j]? = some (.cells cs T fr))
    (h1 : 47 ≠ T) (h2 : 82 ≠ T) (h3 : 3 ≠ T) : ¬ B j := by
  obtain ⟨_, bm, its, g, n, c, cur, fr', sf, D, o, m, v, hB⟩ := h
  intro hb
  rcases (hB j).1 hb with rfl | rfl | rfl | e
  · rw [m.hb] at hj; injection hj with hj; injection hj with _ hj; exact h1 hj
  · obtain ⟨es', clock, hm, _⟩ := m.map
    rw [hm] at hj; cases hj
  · rw [m.row.hb] at hj; injection hj with hj; injection hj with _ hj; exact h2 hj
  · exact rel_blkI m.fre hj h3 j e rfl
theorem RfM.notL {base base' : Nat} {w : World} {r most r2 most2 : Nat} {es es2 : List (Int × Int)} {L : Value} {B : Nat → Prop} (h : RfM base w r most es L) (hX : CaXI base' w r2 most2 es2 B) (j : Nat) (hj : L.ownBlock = some j) : ¬ B j := by
  rcases h.row.2 with ⟨e, _⟩ | ⟨g, c, cur, e, _, hg, _⟩
  · rw [e] at hj; cases hj
  · obtain rfl : g = j := by rw [e] at hj; simpa [Value.ownBlock] using hj
    exact hX.notT hg (by decide) (by decide) (by decide)
def updF {α : Type} (f : Nat → α) (k : Nat) (x : α) : Nat → α := fun i => if i = k then x else f i
theorem updF_at {α : Type} (f : Nat → α) (k : Nat) (x : α) : updF f k x k = x := if_pos rfl
theorem updF_ne {α : Type} (f : Nat → α) {k i : Nat} (x : α) (h : i ≠ k) : updF f k x i = f i := if_neg h
section
variable {base : Nat} {w : World} {wb : Nat} {s r most : Nat → Nat} {es : Nat → List (Int × Int)} {B : Nat → Nat → Prop} {L : Nat → Value}
theorem CW.dis (h : CW base w wb s r most es B L) {k i : Nat} (hk : k < 2) (hi : i < 2) (hn : i ≠ k) (j : Nat) (hj : B i j) : ¬ B k j := fun h2 => by
  rcases (show (i = 0 ∧ k = 1) ∨ (i = 1 ∧ k = 0) by omega) with ⟨rfl, rfl⟩ | ⟨rfl, rfl⟩
  · exact h.dB j hj h2
  · exact h.dB j h2 hj
theorem CW.wr (h : CW base w wb s r most es B L) {k : Nat} (hk : k < 2) : wb ≠ r k := fun e => by
  have h1 := h.hb
  rw [e, (h.rf k hk).hb] at h1
  injection h1 with h1; injection h1 with _ h1; exact absurd h1 (by decide)
theorem CW.turn (h : CW base w wb s r most es B L) {k : Nat} (hk : k < 2) {w2 : World} {es' : List (Int × Int)} {B' : Nat → Prop} {L' : Value} (kp : Keep (fun j => B k j ∨ j = r k) w w2)
    (hX : CaXI base w2 (s k) (most k) es' B') (hN : ∀ j, B' j → B k j ∨ w.heap.size ≤ j) (hM : RfM base w2 (r k) (most k) es' L') : CW base w2 wb s r most (updF es k es') (updF B k B') (updF L k L') := by
  refine ⟨(kp.block wb (Array.getElem?_eq_some_iff.1 h.hb).1 (fun e => e.elim ((h.ca k hk).notT h.hb (by decide) (by decide) (by decide)) (h.wr hk))).trans h.hb, h.bw, fun i hi => ?_, fun i hi => ?_, fun j h0 h1 => ?_, h.rr⟩
  · by_cases e : i = k
    · subst e; rw [updF_at, updF_at]; exact hX
    · rw [updF_ne _ _ e, updF_ne _ _ e]
      exact (h.ca i hi).kept kp (fun j hj h2 => h2.elim (h.dis hk hi e j hj) (fun e2 => by subst e2; exact (h.ca i hi).notT (h.rf k hk).hb (by decide) (by decide) (by decide) hj))
  · by_cases e : i = k
    · subst e; rw [updF_at, updF_at]; exact hM
    · rw [updF_ne _ _ e, updF_ne _ _ e]
      refine (h.rf i hi).kept kp (fun h2 => h2.elim ((h.ca k hk).notT (h.rf i hi).hb (by decide) (by decide) (by decide)) (fun e2 => ?_)) (fun j hj h2 => h2.elim ((h.rf i hi).notL (h.ca k hk) j hj) (fun e2 => ?_))
      · rcases (show (i = 0 ∧ k = 1) ∨ (i = 1 ∧ k = 0) by omega) with ⟨rfl, rfl⟩ | ⟨rfl, rfl⟩
        · exact h.rr e2
        · exact h.rr e2.symm
      · subst e2
        exact rel_blkI (h.rf i hi).row (h.rf k hk).hb (by decide) _ hj rfl
  · rcases (show k = 0 ∨ k = 1 by omega) with rfl | rfl
    · rw [updF_at] at h0
      rw [updF_ne _ _ (by decide)] at h1
      rcases hN j h0 with h2 | h2
      · exact h.dB j h2 h1
      · have := (h.ca 1 (by decide)).lt j h1; omega
    · rw [updF_at] at h1
      rw [updF_ne _ _ (by decide)] at h0
      rcases hN j h1 with h2 | h2
      · exact h.dB j h0 h2
      · have := (h.ca 0 (by decide)).lt j h0; omega
/-- first the program's, then the document's -/
theorem CW.turn2 (h : CW base w wb s r most es B L) {k : Nat} (hk : k < 2) {w1 w2 : World} {es' : List (Int × Int)} {B' : Nat → Prop} {L' : Value} (k1 : Keep (B k) w w1)
    (hX : CaXI base w1 (s k) (most k) es' B') (hN : ∀ j, B' j → B k j ∨ w.heap.size ≤ j) (hM : RfM base w2 (r k) (most k) es' L') (k2 : Keep (fun j => j = r k) w1 w2) : CW base w2 wb s r most (updF es k es') (updF B k B') (updF L k L') ∧ Keep (fun j => B k j ∨ j = r k) w w2 := by
  have kp : Keep (fun j => B k j ∨ j = r k) w w2 := (k1.mono (S' := fun j => B k j ∨ j = r k) (fun j _ h => .inl h)).trans (k2.mono (S' := fun j => B k j ∨ j = r k) (fun j _ h => .inr h)) (fun _ _ h => h)
  refine ⟨h.turn hk kp (hX.kept k2 (fun j hj e => ?_)) hN hM, kp⟩
  subst e
  have h1 := (k1.block (r k) (Array.getElem?_eq_some_iff.1 (h.rf k hk).hb).1 ((h.ca k hk).notT (h.rf k hk).hb (by decide) (by decide) (by decide))).trans (h.rf k hk).hb
  exact hX.notT h1 (by decide) (by decide) (by decide) hj
theorem CW.fresh (h : CW base w wb s r most es B L) {k : Nat} (hk : k < 2) (j : Nat) (hj : B k j ∨ j = r k) : base ≤ j := hj.elim ((h.ca k hk).ge j) (fun e => by rw [e]; exact (h.rf k hk).br)
/-- a new cache in place of one, and the document's in place of its own -/
theorem CW.new (h : CW base w wb s r most es B L) {k : Nat} (hk : k < 2) {w2 : World} {x y n : Nat} {Bx' : Nat → Prop} (kb : Below w.heap.size w w2) (hX : CaXI base w2 x n [] Bx') (hN : ∀ j, Bx' j → w.heap.size ≤ j) (hM : RfM base w2 y n [] (.slice none 0 0)) (hy : w.heap.size ≤ y) :
    CW base ((w2.setCell ⟨wb, k, none⟩ (.pointer (some ⟨x, 0, none⟩))).setCell ⟨wb, 2 + k, none⟩ (.pointer (some ⟨y, 0, none⟩))) wb (updF s k x) (updF r k y) (updF most k n) (updF es k []) (updF B k Bx') (updF L k (.slice none 0 0)) := by
  have h2 := h.below kb
  have ks : Keep (fun j => j = wb) w2 ((w2.setCell ⟨wb, k, none⟩ (.pointer (some ⟨x, 0, none⟩))).setCell ⟨wb, 2 + k, none⟩ (.pointer (some ⟨y, 0, none⟩))) := ((Keep.setCell w2 ⟨wb, k, none⟩ _).mono (S' := fun j => j = wb) (fun j _ e => e)).trans ((Keep.setCell _ ⟨wb, 2 + k, none⟩ _).mono (S' := fun j => j = wb) (fun j _ e => e)) (fun _ _ e => e)
  have hlt := (Array.getElem?_eq_some_iff.1 h.hb).1
  have rl : ∀ i, i < 2 → r i < w.heap.size := fun i hi => (Array.getElem?_eq_some_iff.1 (h.rf i hi).hb).1
  refine ⟨?_, h.bw, fun i hi => ?_, fun i hi => ?_, fun j h0 h1 => ?_, ?_⟩
  · rcases (show k = 0 ∨ k = 1 by omega) with rfl | rfl <;> simp [World.setCell, Array.getElem?_modify, h2.hb, updF]
  · by_cases e : i = k
    · subst e; simp only [updF_at]
      exact hX.kept ks (fun j hj e => by subst e; exact hX.notT h2.hb (by decide) (by decide) (by decide) hj)
    · simp only [updF_ne _ _ e]
      exact (h2.ca i hi).kept ks (fun j hj e => by subst e; exact (h2.ca i hi).notT h2.hb (by decide) (by decide) (by decide) hj)
  · by_cases e : i = k
    · subst e; simp only [updF_at]
      exact hM.kept ks (fun e => by omega) (fun j hj => by cases hj)
    · simp only [updF_ne _ _ e]
      exact (h2.rf i hi).kept ks (fun e => h2.wr hi e.symm) (fun j hj e => by subst e; exact rel_blkI (h2.rf i hi).row h2.hb (by decide) _ hj rfl)
  · rcases (show k = 0 ∨ k = 1 by omega) with rfl | rfl
    · rw [updF_at] at h0
      rw [updF_ne _ _ (by decide)] at h1
      have := hN j h0; have := (h.ca 1 (by decide)).lt j h1; omega
    · rw [updF_at] at h1
      rw [updF_ne _ _ (by decide)] at h0
      have := hN j h1; have := (h.ca 0 (by decide)).lt j h0; omega
  · rcases (show k = 0 ∨ k = 1 by omega) with rfl | rfl
    · rw [updF_at, updF_ne _ _ (by decide)]; have := rl 1 (by decide); omega
    · rw [updF_at, updF_ne _ _ (by decide)]; have := rl 0 (by decide); omega
end
theorem and1 (x : Int) : ∃ k : Nat, k < 2 ∧ bits .and .i64 x 1 = (k : Int) := by
  refine ⟨(BitVec.ofInt 64 x).toNat % 2, by omega, ?_⟩
  show IntKind.i64.wrap (((BitVec.ofInt 64 x) &&& (BitVec.ofInt 64 1)).toNat : Int) = _
  have e2 : (BitVec.ofInt 64 1).toNat = 2 ^ 1 - 1 := by decide
  rw [BitVec.toNat_and, e2, Nat.and_two_pow_sub_one_eq_mod]
  simp [IntKind.wrap, IntKind.bits, IntKind.signed]
  omega
theorem cnew_badI (A : Nat → Addr) (w : World) (c : Int) (hc : c < 0 ∨ 1024 < c) (hE : Errs w A) :
    Calls Tryz.prog 4 #[.int .i64 c] w fun e w' => e = .returned (.tuple #[.pointer none, .iface 247 (.pointer (some (A 1)))]) ∧ Below w.heap.size w w' := by
  have gE : w.cell? ⟨0, 0, none⟩ = some (.iface 247 (.pointer (some (A 1)))) := hE.glob 1 (by decide)
  clear hE
  go_enter Tryz.func4, Tryz.ntmps4
  by_cases h0 : c < 0
  · clear hc
    go_upto_region 2 with (fail)
    go_quiet (fail)
    go_wp2_with fail
    go_ret2
    exact ⟨rfl, below_drewN (Below.refl _ _) _⟩
  · have h1 : 1024 < c := by omega
    clear hc
    go_upto_region 2 with (fail)
    go_quiet (fail)
    go_wp2_with fail
    go_ret2
    exact ⟨rfl, below_drewN (Below.refl _ _) _⟩
end Go.Proofs.YtdepmjgibenejaaGreatDoor
end
