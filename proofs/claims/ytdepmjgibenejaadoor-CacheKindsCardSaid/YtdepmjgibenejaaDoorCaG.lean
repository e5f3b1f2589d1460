/- cartularylaw13.alive. -/
import Derived.Test.YtdepmjgibenejaaDoorCaSF
import Derived.Test.YtdepmjgibenejaaDoorTwT
namespace Go.Proofs.YtdepmjgibenejaaDoor
set_option maxRecDepth 100000
open Go.RowKit Go.Maps
theorem ro_own {w : World} {base : Nat} {a : Option Addr} {c n : Nat} {xs : List Value} (l : List ByteArray) (hn : n = l.length) (hx : xs = l.map FT) (h : w.ownsRow base 9 1 (.slice a n c) n xs) : Ro FT w (.slice a n c) l := by
  subst hn hx
  rcases id h.2 with ⟨h0, h1⟩ | ⟨g, cap, cur, e, hb, hg, hnc, hcm, hcs, htk⟩
  · obtain rfl : l = [] := List.length_eq_zero_iff.1 h1
    cases h0
    exact ⟨none, 0, rfl, Nat.le_refl _, Nat.zero_le _, fun hx => absurd rfl hx⟩
  · cases e
    refine ⟨_, _, rfl, hnc, hcm, fun _ => ⟨g, 0, rfl, (Array.getElem?_eq_some_iff.1 hg).1, fun i hi => ?_⟩⟩
    rw [Nat.zero_add]
    refine (RowG.mk hg hb hnc hcm hcs htk h.1).cell ?_
    rw [List.getElem?_map, List.getElem?_eq_getElem hi]; rfl
theorem ro_built {own : Nat → Option Nat} {w : World} {v : Value} {n : Nat} {Z : Array Value} (l : List ByteArray) (h : BuiltV own w v n 9 Z) (hZ : Z.toList = l.map FT) (hn : n = l.length) (hm : n ≤ 1024) : ∃ g, v = .slice (some ⟨g, 0, none⟩) n n ∧ Ro FT w (.slice (some ⟨g, 0, none⟩) n n) l := by
  obtain ⟨g, rfl, _, hg⟩ := h
  have hs : Z.size = n * 1 := by rw [← Array.length_toList, hZ, List.length_map, hn]; omega
  refine ⟨g, rfl, ro_own l hn hZ (base := 0) ⟨by rw [Array.length_toList]; exact hs, .inr ⟨g, n, Z, rfl, Nat.zero_le _, hg, Nat.le_refl _, by unfold maxLen; omega, hs, by rw [← hs, ← Array.length_toList, List.take_length]⟩⟩⟩
def kA : ByteArray := ⟨#[97]⟩
def kB : ByteArray := ⟨#[98]⟩
def kC : ByteArray := ⟨#[99]⟩
theorem kABC : kwS kA ∧ kwS kB ∧ kwS kC ∧ kA ≠ kB ∧ kA ≠ kC ∧ kB ≠ kC := ⟨by unfold kwS maxLen; decide, by unfold kwS maxLen; decide, by unfold kwS maxLen; decide, by decide, by decide, by decide⟩
def VCg8 (r : Nat) (oi : Nat) (v : Value) (own : Nat → Option Nat) (w : World) : Prop :=
  match oi with
  | 0 => v = .bool false
  | 1 => v = .bool true
  | 2 => v = .bool true
  | 3 => v = .bool false
  | 4 => v = .bool true
  | 5 => v = .bool true
  | 6 => v = .bool true
  | 7 => v = .int .i64 1
  | 8 => v = .bool true
  | 9 => v = .bool true
  | 10 => v = .bool true
  | 11 => v = .bool true
  | 12 => v = .bool true
  | 13 => v = .bool true
  | 14 => v = .string ⟨#[98]⟩
  | 15 => v = .bool true
  | 16 => v = .bool true
  | 17 => v = .bool true
  | 18 => v = .bool true
  | 19 => v = .bool true
  | 20 => v = .bool true
  | 21 => v = .pointer (some ⟨r, 0, none⟩)
  | 22 => RowN own w v 0 9 1 2 [.string kC, .string kA]
  | 23 => BuiltV own w v 2 9 #[.string kC, .string kA]
  | 24 => v = .bool true
  | 25 => v = .bool true
  | 26 => v = .bool true
  | 27 => v = .pointer (some ⟨r, 0, none⟩)
  | 28 => v = .int .i64 2
  | 29 => v = .bool true
  | 30 => v = .bool true
  | 31 => v = .bool true
  | _ => True
def VCg8mk : Nat → Option Nat := fun _ => none
theorem VCg8_mono (r : Nat) (oi oj : Nat) (v : Value) (own : Nat → Option Nat) (w : World) (own' : Nat → Option Nat) (w' : World) (hij : oi ≠ oj)   (h : VCg8 r oj v own w) (r1 : Rel VCg8mk oi own w own' w') : VCg8 r oj v own' w' := by
  unfold VCg8 at h ⊢
  split at h
  · exact h
  · exact h
  · exact h
  · exact h
  · exact h
  · exact h
  · exact h
  · exact h
  · exact h
  · exact h
  · exact h
  · exact h
  · exact h
  · exact h
  · exact h
  · exact h
  · exact h
  · exact h
  · exact h
  · exact h
  · exact h
  · exact h
  · exact h.stable r1
  · exact h.stable r1
  · exact h
  · exact h
  · exact h
  · exact h
  · exact h
  · exact h
  · exact h
  · exact h
  · trivial

set_option maxHeartbeats 4000000 in
theorem alive13_any (w : World) : Calls Tryd.prog 8 #[] w fun e w' => e = .returned (.bool true) ∧ Below w.heap.size w w' := by
  have cn := cnew_anyS w 2 (by decide)
  rw [show ((2 : Nat) : Int) = 2 from rfl] at cn
  have CN := Bx.mk cn; clear cn
  obtain ⟨qa, qb, qc, nab, nac, nbc⟩ := kABC
  have QA := Bx.mk qa; have QB := Bx.mk qb; have QC := Bx.mk qc; have NAB := Bx.mk nab; have NAC := Bx.mk nac; have NBC := Bx.mk nbc
  clear qa qb qc nab nac nbc
  go_enter Tryd.func8, Tryd.ntmps8
  go_wp2_with fail
  refine CN.out.mono ?_
  rintro e w1 ⟨r, rfl, B1, hX, hB, hb⟩
  have X1 := Bx.mk hX; have L1 := Bx.mk hB; have K1 := Bx.mk hb
  clear hX hB hb CN
  have cs := put_newS w.heap.size w1 r 2 [] B1 K1.out.size X1.out kA QA.out 1 (by simp) (by decide)
  have CS := Bx.mk cs; clear cs
  go_wp2_with fail
  refine CS.out.mono ?_
  rintro e w2 ⟨rfl, B2, hX, hk, hB⟩
  have X2 := Bx.mk (show CaXS w.heap.size w2 r 2 [(kA, 1)] B2 from hX); have L2 : Bx (∀ k, B2 k → w.heap.size ≤ k) := ⟨fun k hk2 => by rcases hB k hk2 with h | h; exact L1.out k h; exact Nat.le_trans K1.out.size h⟩
  have K2 := Bx.mk (K1.out.trans (hk.below (B := w.heap.size) K1.out.size (fun k h => L1.out k h)))
  clear hX hk hB CS X1
  have cs := put_newS w.heap.size w2 r 2 [(kA, 1)] B2 K2.out.size X2.out kB QB.out 2 (by simp; exact fun h => NAB.out h.symm) (by decide)
  have CS := Bx.mk cs; clear cs
  go_wp2_with fail
  refine CS.out.mono ?_
  rintro e w3 ⟨rfl, B3, hX, hk, hB⟩
  have X3 := Bx.mk (show CaXS w.heap.size w3 r 2 [(kB, 2), (kA, 1)] B3 from hX); have L3 : Bx (∀ k, B3 k → w.heap.size ≤ k) := ⟨fun k hk2 => by rcases hB k hk2 with h | h; exact L2.out k h; exact Nat.le_trans K2.out.size h⟩
  have K3 := Bx.mk (K2.out.trans (hk.below (B := w.heap.size) K2.out.size (fun k h => L2.out k h)))
  clear hX hk hB CS X2
  have cs := get_hitS w.heap.size w3 r 2 [(kB, 2), (kA, 1)] B3 X3.out kA QA.out 1 (by decide) rfl
  have CS := Bx.mk cs; clear cs
  go_wp2_with fail
  refine CS.out.mono ?_
  rintro e w4 ⟨rfl, B4, hX, hk, hB⟩
  have X4 := Bx.mk (show CaXS w.heap.size w4 r 2 [(kA, 1), (kB, 2)] B4 from hX); have L4 : Bx (∀ k, B4 k → w.heap.size ≤ k) := ⟨fun k hk2 => by rcases hB k hk2 with h | h; exact L3.out k h; exact Nat.le_trans K3.out.size h⟩
  have K4 := Bx.mk (K3.out.trans (hk.below (B := w.heap.size) K3.out.size (fun k h => L3.out k h)))
  clear hX hk hB CS X3
  have cs := put_fullS w.heap.size w4 r 2 [(kA, 1)] (kB, 2) B4 K4.out.size X4.out kC QC.out 3 (by simp; exact ⟨fun h => NAC.out h.symm, fun h => NBC.out h.symm⟩) rfl
  have CS := Bx.mk cs; clear cs
  go_wp2_with fail
  refine CS.out.mono ?_
  rintro e w5 ⟨rfl, B5, hX, hk, hB⟩
  have X5 := Bx.mk (show CaXS w.heap.size w5 r 2 [(kC, 3), (kA, 1)] B5 from hX); have L5 : Bx (∀ k, B5 k → w.heap.size ≤ k) := ⟨fun k hk2 => by rcases hB k hk2 with h | h; exact L4.out k h; exact Nat.le_trans K4.out.size h⟩
  have K5 := Bx.mk (K4.out.trans (hk.below (B := w.heap.size) K4.out.size (fun k h => L4.out k h)))
  clear hX hk hB CS X4
  go_upto_region 8 with (fail)
  refine wp_region_seq8 (n := 72) VCg8mk (fun _ => none) (VCg8 r) (by kernel_rfl) rfl (fun _ _ => rfl) (fun j i hj _ => by cases hj) ?_ ?_ ?_
  · exact fun oi oj v own w own' w' hij h r1 => VCg8_mono r oi oj v own w own' w' (by omega)  h r1
  · intro oi o hi f u own hsame hsn hfr hlate hkeep8 hdep
    have hkeep := hkeep8 _ (Nat.le_refl _)
    have hb6 := hsn.below (B := w5.heap.size) (fun _ _ => rfl) (Nat.le_refl _)
    match oi, hi with
    | 0, hi =>
      cases (show some _ = some o from hi)
      have e4 : f.tmps.getD 4 undef = .bool false := hlate 4 (earlyS (by kernel_rfl))
      clear hdep hsame hi hlate hfr hkeep
      exact .inl ⟨wanted_none rfl, showsO_move hsn rfl _ rfl e4⟩
    | 1, hi =>
      cases (show some _ = some o from hi)
      have e41 : (f.tmps.getD 41 undef) = .bool false := depS (V := (VCg8 r)) hdep 0 41 (by decide) (by kernel_rfl)
      clear hdep hsame hi hlate hfr hkeep
      exact .inl ⟨wanted_none rfl, showsO_pure hsn rfl (.bool true) (by simp only [execOp, Act.eval]; go_simp) rfl⟩
    | 2, hi =>
      cases (show some _ = some o from hi)
      have e42 : (f.tmps.getD 42 undef) = .bool true := depS (V := (VCg8 r)) hdep 1 42 (by decide) (by kernel_rfl)
      clear hdep hsame hi hlate hfr hkeep
      exact .inl ⟨wanted_none rfl, showsO_move hsn rfl _ rfl e42⟩
    | 3, hi =>
      cases (show some _ = some o from hi)
      have e6 : f.tmps.getD 6 undef = .bool false := hlate 6 (earlyS (by kernel_rfl))
      have eg : f.tmps.getD 43 undef = .bool true := depS (V := (VCg8 r)) hdep 2 43 (by decide) (by kernel_rfl)
      clear hdep hsame hi hlate hfr hkeep
      exact .inl ⟨wanted_of 2 rfl eg (by kernel_rfl), showsO_move hsn rfl _ rfl e6⟩
    | 4, hi =>
      cases (show some _ = some o from hi)
      have e44 : (f.tmps.getD 44 undef) = .bool false := depS (V := (VCg8 r)) hdep 3 44 (by decide) (by kernel_rfl)
      have eg : f.tmps.getD 43 undef = .bool true := depS (V := (VCg8 r)) hdep 2 43 (by decide) (by kernel_rfl)
      clear hdep hsame hi hlate hfr hkeep
      exact .inl ⟨wanted_of 2 rfl eg (by kernel_rfl), showsO_pure hsn rfl (.bool true) (by simp only [execOp, Act.eval]; go_simp) rfl⟩
    | 5, hi =>
      cases (show some _ = some o from hi)
      have e43 : (f.tmps.getD 43 undef) = .bool true := depS (V := (VCg8 r)) hdep 2 43 (by decide) (by kernel_rfl)
      have e45 : (f.tmps.getD 45 undef) = .bool true := depS (V := (VCg8 r)) hdep 4 45 (by decide) (by kernel_rfl)
      clear hdep hsame hi hlate hfr hkeep
      exact .inl ⟨wanted_none rfl, showsO_pure hsn rfl (.bool true) (by simp only [execOp, Act.eval]; go_simp) rfl⟩
    | 6, hi =>
      cases (show some _ = some o from hi)
      have e46 : (f.tmps.getD 46 undef) = .bool true := depS (V := (VCg8 r)) hdep 5 46 (by decide) (by kernel_rfl)
      clear hdep hsame hi hlate hfr hkeep
      exact .inl ⟨wanted_none rfl, showsO_move hsn rfl _ rfl e46⟩
    | 7, hi =>
      cases (show some _ = some o from hi)
      have e7 : f.tmps.getD 7 undef = .int .i64 1 := hlate 7 (earlyS (by kernel_rfl))
      have eg : f.tmps.getD 47 undef = .bool true := depS (V := (VCg8 r)) hdep 6 47 (by decide) (by kernel_rfl)
      clear hdep hsame hi hlate hfr hkeep
      exact .inl ⟨wanted_of 6 rfl eg (by kernel_rfl), showsO_move hsn rfl _ rfl e7⟩
    | 8, hi =>
      cases (show some _ = some o from hi)
      have e48 : (f.tmps.getD 48 undef) = .int .i64 1 := depS (V := (VCg8 r)) hdep 7 48 (by decide) (by kernel_rfl)
      have eg : f.tmps.getD 47 undef = .bool true := depS (V := (VCg8 r)) hdep 6 47 (by decide) (by kernel_rfl)
      clear hdep hsame hi hlate hfr hkeep
      exact .inl ⟨wanted_of 6 rfl eg (by kernel_rfl), showsO_pure hsn rfl (.bool true) (by simp only [execOp, Act.eval]; go_simp) rfl⟩
    | 9, hi =>
      cases (show some _ = some o from hi)
      have e47 : (f.tmps.getD 47 undef) = .bool true := depS (V := (VCg8 r)) hdep 6 47 (by decide) (by kernel_rfl)
      have e49 : (f.tmps.getD 49 undef) = .bool true := depS (V := (VCg8 r)) hdep 8 49 (by decide) (by kernel_rfl)
      clear hdep hsame hi hlate hfr hkeep
      exact .inl ⟨wanted_none rfl, showsO_pure hsn rfl (.bool true) (by simp only [execOp, Act.eval]; go_simp) rfl⟩
    | 10, hi =>
      cases (show some _ = some o from hi)
      have e50 : (f.tmps.getD 50 undef) = .bool true := depS (V := (VCg8 r)) hdep 9 50 (by decide) (by kernel_rfl)
      clear hdep hsame hi hlate hfr hkeep
      exact .inl ⟨wanted_none rfl, showsO_move hsn rfl _ rfl e50⟩
    | 11, hi =>
      cases (show some _ = some o from hi)
      have e8 : f.tmps.getD 8 undef = .bool true := hlate 8 (earlyS (by kernel_rfl))
      have eg : f.tmps.getD 51 undef = .bool true := depS (V := (VCg8 r)) hdep 10 51 (by decide) (by kernel_rfl)
      clear hdep hsame hi hlate hfr hkeep
      exact .inl ⟨wanted_of 10 rfl eg (by kernel_rfl), showsO_move hsn rfl _ rfl e8⟩
    | 12, hi =>
      cases (show some _ = some o from hi)
      have e51 : (f.tmps.getD 51 undef) = .bool true := depS (V := (VCg8 r)) hdep 10 51 (by decide) (by kernel_rfl)
      have e52 : (f.tmps.getD 52 undef) = .bool true := depS (V := (VCg8 r)) hdep 11 52 (by decide) (by kernel_rfl)
      clear hdep hsame hi hlate hfr hkeep
      exact .inl ⟨wanted_none rfl, showsO_pure hsn rfl (.bool true) (by simp only [execOp, Act.eval]; go_simp) rfl⟩
    | 13, hi =>
      cases (show some _ = some o from hi)
      have e53 : (f.tmps.getD 53 undef) = .bool true := depS (V := (VCg8 r)) hdep 12 53 (by decide) (by kernel_rfl)
      clear hdep hsame hi hlate hfr hkeep
      exact .inl ⟨wanted_none rfl, showsO_move hsn rfl _ rfl e53⟩
    | 14, hi =>
      cases (show some _ = some o from hi)
      have e9 : f.tmps.getD 9 undef = .string ⟨#[98]⟩ := hlate 9 (earlyS (by kernel_rfl))
      have eg : f.tmps.getD 54 undef = .bool true := depS (V := (VCg8 r)) hdep 13 54 (by decide) (by kernel_rfl)
      clear hdep hsame hi hlate hfr hkeep
      exact .inl ⟨wanted_of 13 rfl eg (by kernel_rfl), showsO_move hsn rfl _ rfl e9⟩
    | 15, hi =>
      cases (show some _ = some o from hi)
      have e55 : (f.tmps.getD 55 undef) = .string ⟨#[98]⟩ := depS (V := (VCg8 r)) hdep 14 55 (by decide) (by kernel_rfl)
      have eg : f.tmps.getD 54 undef = .bool true := depS (V := (VCg8 r)) hdep 13 54 (by decide) (by kernel_rfl)
      clear hdep hsame hi hlate hfr hkeep
      exact .inl ⟨wanted_of 13 rfl eg (by kernel_rfl), showsO_pure hsn rfl (.bool true) (by simp only [execOp, Act.eval]; go_simp) rfl⟩
    | 16, hi =>
      cases (show some _ = some o from hi)
      have e54 : (f.tmps.getD 54 undef) = .bool true := depS (V := (VCg8 r)) hdep 13 54 (by decide) (by kernel_rfl)
      have e56 : (f.tmps.getD 56 undef) = .bool true := depS (V := (VCg8 r)) hdep 15 56 (by decide) (by kernel_rfl)
      clear hdep hsame hi hlate hfr hkeep
      exact .inl ⟨wanted_none rfl, showsO_pure hsn rfl (.bool true) (by simp only [execOp, Act.eval]; go_simp) rfl⟩
    | 17, hi =>
      cases (show some _ = some o from hi)
      have e57 : (f.tmps.getD 57 undef) = .bool true := depS (V := (VCg8 r)) hdep 16 57 (by decide) (by kernel_rfl)
      clear hdep hsame hi hlate hfr hkeep
      exact .inl ⟨wanted_none rfl, showsO_move hsn rfl _ rfl e57⟩
    | 18, hi =>
      cases (show some _ = some o from hi)
      have e10 : f.tmps.getD 10 undef = .bool true := hlate 10 (earlyS (by kernel_rfl))
      have eg : f.tmps.getD 58 undef = .bool true := depS (V := (VCg8 r)) hdep 17 58 (by decide) (by kernel_rfl)
      clear hdep hsame hi hlate hfr hkeep
      exact .inl ⟨wanted_of 17 rfl eg (by kernel_rfl), showsO_move hsn rfl _ rfl e10⟩
    | 19, hi =>
      cases (show some _ = some o from hi)
      have e58 : (f.tmps.getD 58 undef) = .bool true := depS (V := (VCg8 r)) hdep 17 58 (by decide) (by kernel_rfl)
      have e59 : (f.tmps.getD 59 undef) = .bool true := depS (V := (VCg8 r)) hdep 18 59 (by decide) (by kernel_rfl)
      clear hdep hsame hi hlate hfr hkeep
      exact .inl ⟨wanted_none rfl, showsO_pure hsn rfl (.bool true) (by simp only [execOp, Act.eval]; go_simp) rfl⟩
    | 20, hi =>
      cases (show some _ = some o from hi)
      have e60 : (f.tmps.getD 60 undef) = .bool true := depS (V := (VCg8 r)) hdep 19 60 (by decide) (by kernel_rfl)
      clear hdep hsame hi hlate hfr hkeep
      exact .inl ⟨wanted_none rfl, showsO_move hsn rfl _ rfl e60⟩
    | 21, hi =>
      cases (show some _ = some o from hi)
      have e1 : f.tmps.getD 1 undef = .pointer (some ⟨r, 0, none⟩) := hlate 1 (earlyS (by kernel_rfl))
      have eg : f.tmps.getD 61 undef = .bool true := depS (V := (VCg8 r)) hdep 20 61 (by decide) (by kernel_rfl)
      clear hdep hsame hi hlate hfr hkeep
      exact .inl ⟨wanted_of 20 rfl eg (by kernel_rfl), showsO_move hsn rfl _ rfl e1⟩
    | 22, hi =>
      cases (show some _ = some o from hi)
      have e62 : (f.tmps.getD 62 undef) = .pointer (some ⟨r, 0, none⟩) := depS (V := (VCg8 r)) hdep 21 62 (by decide) (by kernel_rfl)
      have eg : f.tmps.getD 61 undef = .bool true := depS (V := (VCg8 r)) hdep 20 61 (by decide) (by kernel_rfl)
      clear hdep hsame hi hlate hfr hkeep
      have c := (keys_anyS _ u _ _ _ _ (X5.out.below hb6)).mono (fun e w' ⟨v, h1, h2, h3⟩ => (⟨v, h1, ⟨ownsRow_mono h2 (Nat.zero_le _), fun k hk => ownsRow_fresh h2 k hk⟩, h3⟩ : ∃ v, e = Ending.returned v ∧ (w'.ownsRow 0 9 1 v 2 [.string kC, .string kA] ∧ ∀ k, v.ownBlock = some k → u.heap.size ≤ k) ∧ Below u.heap.size u w'))
      exact .inl ⟨wanted_of 20 rfl eg (by kernel_rfl), showsO_call (R := fun v w' => w'.ownsRow 0 9 1 v 2 [.string kC, .string kA] ∧ ∀ k, v.ownBlock = some k → u.heap.size ≤ k) hsn rfl 17 #[.pointer (some ⟨r, 0, none⟩)] (by simp only [execOp, Act.eval]; go_simp) c (fun v w' h _ => ⟨h.1, fun k hk => hsn.top k (h.2 k hk)⟩)⟩
    | 23, hi =>
      cases (show some _ = some o from hi)
      have eg : f.tmps.getD 61 undef = .bool true := depS (V := (VCg8 r)) hdep 20 61 (by decide) (by kernel_rfl)
      clear hdep hsame hi hlate hfr hkeep
      exact .inl ⟨wanted_of 20 rfl eg (by kernel_rfl), showsO_built hsn rfl 2 9 #[.string kC, .string kA] (by simp only [execOp, Act.eval]; go_simp; rfl) (fun h => h)⟩
    | 24, hi =>
      cases (show some _ = some o from hi)
      have e63 : RowN own u (f.tmps.getD 63 undef) 0 9 1 2 [.string kC, .string kA] := depS (V := (VCg8 r)) hdep 22 63 (by decide) (by kernel_rfl)
      have e64 : BuiltV own u (f.tmps.getD 64 undef) 2 9 #[.string kC, .string kA] := depS (V := (VCg8 r)) hdep 23 64 (by decide) (by kernel_rfl)
      have eg : f.tmps.getD 61 undef = .bool true := depS (V := (VCg8 r)) hdep 20 61 (by decide) (by kernel_rfl)
      clear hdep hsame hi hlate hfr hkeep
      obtain ⟨hr1, _⟩ := e63
      obtain ⟨ax, cx, e63⟩ := own_shapeC hr1
      rw [e63] at hr1
      obtain ⟨gb, eb, hnb⟩ := ro_built [kC, kA] e64 rfl rfl (by decide)
      clear e64
      have e64 := eb
      have c := sameT_any u _ _ _ [kC, kA] _ _ _ [kC, kA] (ro_own [kC, kA] rfl rfl hr1) hnb
      rw [decide_eq_true rfl] at c
      exact .inl ⟨wanted_of 20 rfl eg (by kernel_rfl), showsO_call1 hsn rfl 20 #[.slice ax 2 cx, .slice (some ⟨gb, 0, none⟩) 2 2] (by simp only [execOp, Act.eval]; go_simp) (c) (fun _ => rfl)⟩
    | 25, hi =>
      cases (show some _ = some o from hi)
      have e61 : (f.tmps.getD 61 undef) = .bool true := depS (V := (VCg8 r)) hdep 20 61 (by decide) (by kernel_rfl)
      have e65 : (f.tmps.getD 65 undef) = .bool true := depS (V := (VCg8 r)) hdep 24 65 (by decide) (by kernel_rfl)
      clear hdep hsame hi hlate hfr hkeep
      exact .inl ⟨wanted_none rfl, showsO_pure hsn rfl (.bool true) (by simp only [execOp, Act.eval]; go_simp) rfl⟩
    | 26, hi =>
      cases (show some _ = some o from hi)
      have e66 : (f.tmps.getD 66 undef) = .bool true := depS (V := (VCg8 r)) hdep 25 66 (by decide) (by kernel_rfl)
      clear hdep hsame hi hlate hfr hkeep
      exact .inl ⟨wanted_none rfl, showsO_move hsn rfl _ rfl e66⟩
    | 27, hi =>
      cases (show some _ = some o from hi)
      have e1 : f.tmps.getD 1 undef = .pointer (some ⟨r, 0, none⟩) := hlate 1 (earlyS (by kernel_rfl))
      have eg : f.tmps.getD 67 undef = .bool true := depS (V := (VCg8 r)) hdep 26 67 (by decide) (by kernel_rfl)
      clear hdep hsame hi hlate hfr hkeep
      exact .inl ⟨wanted_of 26 rfl eg (by kernel_rfl), showsO_move hsn rfl _ rfl e1⟩
    | 28, hi =>
      cases (show some _ = some o from hi)
      have e68 : (f.tmps.getD 68 undef) = .pointer (some ⟨r, 0, none⟩) := depS (V := (VCg8 r)) hdep 27 68 (by decide) (by kernel_rfl)
      have eg : f.tmps.getD 67 undef = .bool true := depS (V := (VCg8 r)) hdep 26 67 (by decide) (by kernel_rfl)
      clear hdep hsame hi hlate hfr hkeep
      have c := (len_anyS _ u _ _ _ _ (X5.out.below hb6)).mono (fun e w' h => (⟨h.1, h.2 ▸ Below.refl _ _⟩ : e = Ending.returned (.int .i64 2) ∧ Below u.heap.size u w'))
      exact .inl ⟨wanted_of 26 rfl eg (by kernel_rfl), showsO_call1 hsn rfl 16 #[.pointer (some ⟨r, 0, none⟩)] (by simp only [execOp, Act.eval]; go_simp) (c) (fun _ => rfl)⟩
    | 29, hi =>
      cases (show some _ = some o from hi)
      have e69 : (f.tmps.getD 69 undef) = .int .i64 2 := depS (V := (VCg8 r)) hdep 28 69 (by decide) (by kernel_rfl)
      have eg : f.tmps.getD 67 undef = .bool true := depS (V := (VCg8 r)) hdep 26 67 (by decide) (by kernel_rfl)
      clear hdep hsame hi hlate hfr hkeep
      exact .inl ⟨wanted_of 26 rfl eg (by kernel_rfl), showsO_pure hsn rfl (.bool true) (by simp only [execOp, Act.eval]; go_simp) rfl⟩
    | 30, hi =>
      cases (show some _ = some o from hi)
      have e67 : (f.tmps.getD 67 undef) = .bool true := depS (V := (VCg8 r)) hdep 26 67 (by decide) (by kernel_rfl)
      have e70 : (f.tmps.getD 70 undef) = .bool true := depS (V := (VCg8 r)) hdep 29 70 (by decide) (by kernel_rfl)
      clear hdep hsame hi hlate hfr hkeep
      exact .inl ⟨wanted_none rfl, showsO_pure hsn rfl (.bool true) (by simp only [execOp, Act.eval]; go_simp) rfl⟩
    | 31, hi =>
      cases (show some _ = some o from hi)
      have e71 : (f.tmps.getD 71 undef) = .bool true := depS (V := (VCg8 r)) hdep 30 71 (by decide) (by kernel_rfl)
      clear hdep hsame hi hlate hfr hkeep
      exact .inl ⟨wanted_none rfl, showsO_assign hsn rfl _ rfl e71⟩
    | n + 32, hi => exact absurd hi (by simp)
  intro fr w6 own hsame hsn hall
  have q41 : fr.tmps.getD 41 undef = .bool false := finO (V := (VCg8 r)) hall 0 41 rfl
  have q42 : fr.tmps.getD 42 undef = .bool true := finO (V := (VCg8 r)) hall 1 42 rfl
  have q43 : fr.tmps.getD 43 undef = .bool true := finO (V := (VCg8 r)) hall 2 43 rfl
  have q44 : fr.tmps.getD 44 undef = .bool false := finO (V := (VCg8 r)) hall 3 44 rfl
  have q45 : fr.tmps.getD 45 undef = .bool true := finO (V := (VCg8 r)) hall 4 45 rfl
  have q46 : fr.tmps.getD 46 undef = .bool true := finO (V := (VCg8 r)) hall 5 46 rfl
  have q47 : fr.tmps.getD 47 undef = .bool true := finO (V := (VCg8 r)) hall 6 47 rfl
  have q48 : fr.tmps.getD 48 undef = .int .i64 1 := finO (V := (VCg8 r)) hall 7 48 rfl
  have q49 : fr.tmps.getD 49 undef = .bool true := finO (V := (VCg8 r)) hall 8 49 rfl
  have q50 : fr.tmps.getD 50 undef = .bool true := finO (V := (VCg8 r)) hall 9 50 rfl
  have q51 : fr.tmps.getD 51 undef = .bool true := finO (V := (VCg8 r)) hall 10 51 rfl
  have q52 : fr.tmps.getD 52 undef = .bool true := finO (V := (VCg8 r)) hall 11 52 rfl
  have q53 : fr.tmps.getD 53 undef = .bool true := finO (V := (VCg8 r)) hall 12 53 rfl
  have q54 : fr.tmps.getD 54 undef = .bool true := finO (V := (VCg8 r)) hall 13 54 rfl
  have q55 : fr.tmps.getD 55 undef = .string ⟨#[98]⟩ := finO (V := (VCg8 r)) hall 14 55 rfl
  have q56 : fr.tmps.getD 56 undef = .bool true := finO (V := (VCg8 r)) hall 15 56 rfl
  have q57 : fr.tmps.getD 57 undef = .bool true := finO (V := (VCg8 r)) hall 16 57 rfl
  have q58 : fr.tmps.getD 58 undef = .bool true := finO (V := (VCg8 r)) hall 17 58 rfl
  have q59 : fr.tmps.getD 59 undef = .bool true := finO (V := (VCg8 r)) hall 18 59 rfl
  have q60 : fr.tmps.getD 60 undef = .bool true := finO (V := (VCg8 r)) hall 19 60 rfl
  have q61 : fr.tmps.getD 61 undef = .bool true := finO (V := (VCg8 r)) hall 20 61 rfl
  have q62 : fr.tmps.getD 62 undef = .pointer (some ⟨r, 0, none⟩) := finO (V := (VCg8 r)) hall 21 62 rfl
  have m63 := finO (V := (VCg8 r)) hall 22 63 rfl
  obtain ⟨r63, q63⟩ : ∃ r, fr.tmps.getD 63 undef = r := ⟨_, rfl⟩
  rw [q63] at m63
  obtain ⟨g64, q64, o64, m64⟩ : BuiltV own w6 (fr.tmps.getD 64 undef) 2 9 #[.string kC, .string kA] := finO (V := (VCg8 r)) hall 23 64 rfl
  have q65 : fr.tmps.getD 65 undef = .bool true := finO (V := (VCg8 r)) hall 24 65 rfl
  have q66 : fr.tmps.getD 66 undef = .bool true := finO (V := (VCg8 r)) hall 25 66 rfl
  have q67 : fr.tmps.getD 67 undef = .bool true := finO (V := (VCg8 r)) hall 26 67 rfl
  have q68 : fr.tmps.getD 68 undef = .pointer (some ⟨r, 0, none⟩) := finO (V := (VCg8 r)) hall 27 68 rfl
  have q69 : fr.tmps.getD 69 undef = .int .i64 2 := finO (V := (VCg8 r)) hall 28 69 rfl
  have q70 : fr.tmps.getD 70 undef = .bool true := finO (V := (VCg8 r)) hall 29 70 rfl
  have q71 : fr.tmps.getD 71 undef = .bool true := finO (V := (VCg8 r)) hall 30 71 rfl
  have q0 : fr.tmps.getD 0 undef = .bool true := finO (V := (VCg8 r)) hall 31 0 rfl
  obtain rfl := frame_eq hsame [(41, .bool false), (42, .bool true), (43, .bool true), (44, .bool false), (45, .bool true), (46, .bool true), (47, .bool true), (48, .int .i64 1), (49, .bool true), (50, .bool true), (51, .bool true), (52, .bool true), (53, .bool true), (54, .bool true), (55, .string ⟨#[98]⟩), (56, .bool true), (57, .bool true), (58, .bool true), (59, .bool true), (60, .bool true), (61, .bool true), (62, .pointer (some ⟨r, 0, none⟩)), (63, r63), (64, .slice (some ⟨g64, 0, none⟩) 2 2), (65, .bool true), (66, .bool true), (67, .bool true), (68, .pointer (some ⟨r, 0, none⟩)), (69, .int .i64 2), (70, .bool true), (71, .bool true), (0, .bool true)] (by kernel_rfl) ⟨q41, q42, q43, q44, q45, q46, q47, q48, q49, q50, q51, q52, q53, q54, q55, q56, q57, q58, q59, q60, q61, q62, q63, q64, q65, q66, q67, q68, q69, q70, q71, q0, trivial⟩
  clear hall hsame q41 q42 q43 q44 q45 q46 q47 q48 q49 q50 q51 q52 q53 q54 q55 q56 q57 q58 q59 q60 q61 q62 q63 q64 q65 q66 q67 q68 q69 q70 q71 q0
  simp only [List.foldl, List.setIfInBounds_toArray, List.set_cons_succ, List.set_cons_zero]
  have hb := hsn.below (B := w5.heap.size) (fun _ _ => rfl) (Nat.le_refl _)
  have K6 := Bx.mk (K5.out.trans (hb.mono K5.out.size))
  clear hb hsn m63 o64 m64
  go_wp2_with fail
  go_ret
  exact ⟨rfl, K6.out⟩
end Go.Proofs.YtdepmjgibenejaaDoor
