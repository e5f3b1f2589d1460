/- cartularylaw01.Book of Hash alone: Apart. -/
import Derived.Test.YtohifpomdanmkaaGreatDoorBkHashI
namespace Go.Proofs.YtohifpomdanmkaaGreatDoor
set_option maxRecDepth 100000
open Go.RowKit
set_option maxHeartbeats 6400000 in
theorem apartHash_any (base : Nat) (w : World) (b n : Nat) (l : Nat → Value) (m : Nat) (V : Nat → Value) (N : Nat → Nat) (X : Nat → List Value) (G : Nat → Value) (Kn : Nat → Nat) (h : BkL 5 71 23 32 base w b n l m V N X G Kn) (hz : ∀ i, i ≠ 5 → l i = .slice none 0 0) (hbase : base ≤ w.heap.size) (hm : m ≤ 100000000) (hN : ∀ i, i < m → N i ≤ 100000000 ∧ Kn i ≤ 100000000) :
    Calls Tryz.prog 10 #[.pointer (some ⟨b, 0, none⟩)] w fun e w' => e = .returned (.bool true) ∧ Keep (fun k => (∃ i, i < m ∧ (V i).ownBlock = some k) ∨ (l 5).ownBlock = some k) w w' := by
  have HZ := Bx.mk hz; have HB := Bx.mk hbase

  have B0 := Bx.mk h; have HM := Bx.mk hm; have HN := Bx.mk hN
  have OX : Bx (∀ i, i < m → fillX (mkHash (Kn i)).toList (X i) (N i) = marks (mkHash (Kn i)).toList (N i)) := ⟨fun i hi => fillX_marks _ _ _ (by rw [mkHashL]; exact (h.li i hi).1)⟩
  clear hm hN
  have KK0 : Bx (Keep (fun k => (∃ i, i < m ∧ (V i).ownBlock = some k) ∨ (l 5).ownBlock = some k) w w) := ⟨Keep.refl _ _⟩
  clear hz hbase h
  go_enter Tryz.func10, Tryz.ntmps10
  go_wp2_with fail
  refine (fillInt_nil w b (n : Int) l B0.out.bk (HZ.out 1 (by decide))).mono ?_
  rintro e z1 ⟨rfl, hz1⟩
  rw [hz1]; clear hz1
  go_wp2_with fail
  refine (fillByte_nil w b (n : Int) l B0.out.bk (HZ.out 2 (by decide))).mono ?_
  rintro e z2 ⟨rfl, hz2⟩
  rw [hz2]; clear hz2
  go_wp2_with fail
  refine (fillText_nil w b (n : Int) l B0.out.bk (HZ.out 3 (by decide))).mono ?_
  rintro e z3 ⟨rfl, hz3⟩
  rw [hz3]; clear hz3
  go_wp2_with fail
  refine (fillNumber_nil w b (n : Int) l B0.out.bk (HZ.out 4 (by decide))).mono ?_
  rintro e z4 ⟨rfl, hz4⟩
  rw [hz4]; clear hz4
  go_wp2_with fail
  refine (fillHash_any base w b n l m V N X G Kn B0.out (Nat.le_trans HB.out KK0.out.size) HM.out HN.out).mono ?_
  rintro e w1 ⟨rfl, hB, hk⟩
  have C1 := Bx.mk (hB.of OX.out)
  have K1 := Bx.mk (KK0.out.trans (hk.mono (S' := fun k => (∃ i, i < m ∧ (V i).ownBlock = some k) ∨ (l 5).ownBlock = some k) (fun j _ hj => .inl (hj))) (fun _ _ h => h))
  clear hB hk
  go_wp2_with fail
  refine (fillCoord_nil w1 b (n : Int) l C1.out.bk (HZ.out 6 (by decide))).mono ?_
  rintro e z5 ⟨rfl, hz5⟩
  rw [hz5]; clear hz5
  go_wp2_with fail
  refine (fillSpan_nil w1 b (n : Int) l C1.out.bk (HZ.out 7 (by decide))).mono ?_
  rintro e z6 ⟨rfl, hz6⟩
  rw [hz6]; clear hz6
  go_wp2_with fail
  refine (fillNode_nil w1 b (n : Int) l C1.out.bk (HZ.out 8 (by decide))).mono ?_
  rintro e z7 ⟨rfl, hz7⟩
  rw [hz7]; clear hz7
  go_wp2_with fail
  refine (fillTile_nil w1 b (n : Int) l C1.out.bk (HZ.out 9 (by decide))).mono ?_
  rintro e z8 ⟨rfl, hz8⟩
  rw [hz8]; clear hz8
  go_wp2_with fail
  refine (fillEntry_nil w1 b (n : Int) l C1.out.bk (HZ.out 10 (by decide))).mono ?_
  rintro e z9 ⟨rfl, hz9⟩
  rw [hz9]; clear hz9
  go_wp2_with fail
  refine (fillFound_nil w1 b (n : Int) l C1.out.bk (HZ.out 11 (by decide))).mono ?_
  rintro e z10 ⟨rfl, hz10⟩
  rw [hz10]; clear hz10
  go_wp2_with fail
  refine (fillKnown_nil w1 b (n : Int) l C1.out.bk (HZ.out 12 (by decide))).mono ?_
  rintro e z11 ⟨rfl, hz11⟩
  rw [hz11]; clear hz11
  go_wp2_with fail
  refine (fillVote_nil w1 b (n : Int) l C1.out.bk (HZ.out 13 (by decide))).mono ?_
  rintro e z12 ⟨rfl, hz12⟩
  rw [hz12]; clear hz12
  go_wp2_with fail
  refine (fillPart_nil w1 b (n : Int) l C1.out.bk (HZ.out 14 (by decide))).mono ?_
  rintro e z13 ⟨rfl, hz13⟩
  rw [hz13]; clear hz13
  go_wp2_with fail
  refine (fillHashList_nil w1 b (n : Int) l C1.out.bk (HZ.out 15 (by decide))).mono ?_
  rintro e z14 ⟨rfl, hz14⟩
  rw [hz14]; clear hz14
  go_wp2_with fail
  refine (fillQuery_nil w1 b (n : Int) l C1.out.bk (HZ.out 16 (by decide))).mono ?_
  rintro e z15 ⟨rfl, hz15⟩
  rw [hz15]; clear hz15
  go_wp2_with fail
  refine (growInt_nil w1 b (n : Int) l C1.out.bk (HZ.out 1 (by decide))).mono ?_
  rintro e z16 ⟨rfl, hz16⟩
  rw [hz16]; clear hz16
  go_wp2_with fail
  refine (growByte_nil w1 b (n : Int) l C1.out.bk (HZ.out 2 (by decide))).mono ?_
  rintro e z17 ⟨rfl, hz17⟩
  rw [hz17]; clear hz17
  go_wp2_with fail
  refine (growText_nil w1 b (n : Int) l C1.out.bk (HZ.out 3 (by decide))).mono ?_
  rintro e z18 ⟨rfl, hz18⟩
  rw [hz18]; clear hz18
  go_wp2_with fail
  refine (growNumber_nil w1 b (n : Int) l C1.out.bk (HZ.out 4 (by decide))).mono ?_
  rintro e z19 ⟨rfl, hz19⟩
  rw [hz19]; clear hz19
  go_wp2_with fail
  refine (growHash_any base w1 b n l m V N G Kn C1.out (Nat.le_trans HB.out K1.out.size) HM.out HN.out).mono ?_
  rintro e w2 ⟨rfl, G', hB, hg, hk⟩
  have C2 := Bx.mk hB; have GG := Bx.mk (fun i (hi : i < m) => (hg i hi).1)
  have GL := Bx.mk (fun i (hi : i < m) => (hg i hi).2)
  have LT := Bx.mk K1.out.size
  have K2 := Bx.mk (K1.out.trans (hk.mono (S' := fun k => (∃ i, i < m ∧ (V i).ownBlock = some k) ∨ (l 5).ownBlock = some k) (fun j _ hj => hj.elim (fun hj => .inl (hj)) (fun hj => .inr (hj)))) (fun _ _ h => h))
  clear hB hg hk
  go_wp2_with fail
  refine (growCoord_nil w2 b (n : Int) l C2.out.bk (HZ.out 6 (by decide))).mono ?_
  rintro e z20 ⟨rfl, hz20⟩
  rw [hz20]; clear hz20
  go_wp2_with fail
  refine (growSpan_nil w2 b (n : Int) l C2.out.bk (HZ.out 7 (by decide))).mono ?_
  rintro e z21 ⟨rfl, hz21⟩
  rw [hz21]; clear hz21
  go_wp2_with fail
  refine (growNode_nil w2 b (n : Int) l C2.out.bk (HZ.out 8 (by decide))).mono ?_
  rintro e z22 ⟨rfl, hz22⟩
  rw [hz22]; clear hz22
  go_wp2_with fail
  refine (growTile_nil w2 b (n : Int) l C2.out.bk (HZ.out 9 (by decide))).mono ?_
  rintro e z23 ⟨rfl, hz23⟩
  rw [hz23]; clear hz23
  go_wp2_with fail
  refine (growEntry_nil w2 b (n : Int) l C2.out.bk (HZ.out 10 (by decide))).mono ?_
  rintro e z24 ⟨rfl, hz24⟩
  rw [hz24]; clear hz24
  go_wp2_with fail
  refine (growFound_nil w2 b (n : Int) l C2.out.bk (HZ.out 11 (by decide))).mono ?_
  rintro e z25 ⟨rfl, hz25⟩
  rw [hz25]; clear hz25
  go_wp2_with fail
  refine (growKnown_nil w2 b (n : Int) l C2.out.bk (HZ.out 12 (by decide))).mono ?_
  rintro e z26 ⟨rfl, hz26⟩
  rw [hz26]; clear hz26
  go_wp2_with fail
  refine (growVote_nil w2 b (n : Int) l C2.out.bk (HZ.out 13 (by decide))).mono ?_
  rintro e z27 ⟨rfl, hz27⟩
  rw [hz27]; clear hz27
  go_wp2_with fail
  refine (growPart_nil w2 b (n : Int) l C2.out.bk (HZ.out 14 (by decide))).mono ?_
  rintro e z28 ⟨rfl, hz28⟩
  rw [hz28]; clear hz28
  go_wp2_with fail
  refine (growHashList_nil w2 b (n : Int) l C2.out.bk (HZ.out 15 (by decide))).mono ?_
  rintro e z29 ⟨rfl, hz29⟩
  rw [hz29]; clear hz29
  go_wp2_with fail
  refine (growQuery_nil w2 b (n : Int) l C2.out.bk (HZ.out 16 (by decide))).mono ?_
  rintro e z30 ⟨rfl, hz30⟩
  rw [hz30]; clear hz30
  go_wp2_with fail
  refine (lookInt_nil w2 b (n : Int) l C2.out.bk (HZ.out 1 (by decide))).mono ?_
  rintro e z31 ⟨rfl, hz31⟩
  rw [hz31]; clear hz31
  go_wp2_with fail
  refine (lookByte_nil w2 b (n : Int) l C2.out.bk (HZ.out 2 (by decide))).mono ?_
  rintro e z32 ⟨rfl, hz32⟩
  rw [hz32]; clear hz32
  go_wp2_with fail
  refine (lookText_nil w2 b (n : Int) l C2.out.bk (HZ.out 3 (by decide))).mono ?_
  rintro e z33 ⟨rfl, hz33⟩
  rw [hz33]; clear hz33
  go_wp2_with fail
  refine (lookNumber_nil w2 b (n : Int) l C2.out.bk (HZ.out 4 (by decide))).mono ?_
  rintro e z34 ⟨rfl, hz34⟩
  rw [hz34]; clear hz34
  go_wp2_with fail
  refine (lookHash_any base w2 b n l m V N G' Kn C2.out GG.out HM.out HN.out).mono ?_
  rintro e w3 ⟨rfl, hb⟩
  have K3 := Bx.mk (K2.out.trans (Keep.of_below hb (fun k => (∃ i, i < m ∧ (V i).ownBlock = some k) ∨ (l 5).ownBlock = some k)) (fun _ _ h => h))
  have D3Hash := Bx.mk (C2.out.keep (Keep.of_below hb (fun _ => False)) (C2.out.bk.below hb) rfl (fun _ _ h => h) (fun _ _ _ _ h => h))
  clear hb
  go_wp2_with fail
  refine (lookCoord_nil w3 b (n : Int) l D3Hash.out.bk (HZ.out 6 (by decide))).mono ?_
  rintro e z35 ⟨rfl, hz35⟩
  rw [hz35]; clear hz35
  go_wp2_with fail
  refine (lookSpan_nil w3 b (n : Int) l D3Hash.out.bk (HZ.out 7 (by decide))).mono ?_
  rintro e z36 ⟨rfl, hz36⟩
  rw [hz36]; clear hz36
  go_wp2_with fail
  refine (lookNode_nil w3 b (n : Int) l D3Hash.out.bk (HZ.out 8 (by decide))).mono ?_
  rintro e z37 ⟨rfl, hz37⟩
  rw [hz37]; clear hz37
  go_wp2_with fail
  refine (lookTile_nil w3 b (n : Int) l D3Hash.out.bk (HZ.out 9 (by decide))).mono ?_
  rintro e z38 ⟨rfl, hz38⟩
  rw [hz38]; clear hz38
  go_wp2_with fail
  refine (lookEntry_nil w3 b (n : Int) l D3Hash.out.bk (HZ.out 10 (by decide))).mono ?_
  rintro e z39 ⟨rfl, hz39⟩
  rw [hz39]; clear hz39
  go_wp2_with fail
  refine (lookFound_nil w3 b (n : Int) l D3Hash.out.bk (HZ.out 11 (by decide))).mono ?_
  rintro e z40 ⟨rfl, hz40⟩
  rw [hz40]; clear hz40
  go_wp2_with fail
  refine (lookKnown_nil w3 b (n : Int) l D3Hash.out.bk (HZ.out 12 (by decide))).mono ?_
  rintro e z41 ⟨rfl, hz41⟩
  rw [hz41]; clear hz41
  go_wp2_with fail
  refine (lookVote_nil w3 b (n : Int) l D3Hash.out.bk (HZ.out 13 (by decide))).mono ?_
  rintro e z42 ⟨rfl, hz42⟩
  rw [hz42]; clear hz42
  go_wp2_with fail
  refine (lookPart_nil w3 b (n : Int) l D3Hash.out.bk (HZ.out 14 (by decide))).mono ?_
  rintro e z43 ⟨rfl, hz43⟩
  rw [hz43]; clear hz43
  go_wp2_with fail
  refine (lookHashList_nil w3 b (n : Int) l D3Hash.out.bk (HZ.out 15 (by decide))).mono ?_
  rintro e z44 ⟨rfl, hz44⟩
  rw [hz44]; clear hz44
  go_wp2_with fail
  refine (lookQuery_nil w3 b (n : Int) l D3Hash.out.bk (HZ.out 16 (by decide))).mono ?_
  rintro e z45 ⟨rfl, hz45⟩
  rw [hz45]; clear hz45
  go_wp2_with fail
  go_ret
  exact ⟨rfl, K3.out⟩
end Go.Proofs.YtohifpomdanmkaaGreatDoor
