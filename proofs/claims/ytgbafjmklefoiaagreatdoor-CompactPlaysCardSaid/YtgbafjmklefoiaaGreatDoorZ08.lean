/- Slices of hashes: what reads as a list of hashes. A slice of one hash, built; rows of hashes of one's own. A struct built of parts of any size. cartularylaw01.SameHashes, TwinHashes, LeftHashes. -/
import Derived.Test.YtgbafjmklefoiaaGreatDoorZ05
import Derived.Deep.MidRow
import Derived.Deep.Slices
import Derived.OpenShut
import Derived.Below
import Derived.Test.YtgbafjmklefoiaaGreatDoorZ03
import Derived.Great.BuildSlice
import Derived.Lib.TrailingZeros
import Derived.Test.YtgbafjmklefoiaaGreatDoorZ06
import Derived.Laws.MakeOwn
section
namespace Go.Proofs.YtgbafjmklefoiaaGreatDoor
set_option maxRecDepth 100000
open Go.RowKit
theorem underHs : Tryz.prog.underlying 55 = some (.slice 81) := by kernel_rfl
theorem vcellsH : Tryz.prog.cellsOf 81 = 32 := by kernel_rfl
theorem vcellsU8 : Tryz.prog.cellsOf 5 = 1 := by kernel_rfl
theorem vunderU8 : Tryz.prog.underlying 5 = some (.int .u8) := by kernel_rfl
/-- a value that reads as hashes -/
def Hss (w : World) (v : Value) (hs : List (List UInt8)) : Prop :=
  (∀ h ∈ hs, h.length = 32) ∧ ∃ (a : Option Addr) (cap : Nat), v = .slice a hs.length cap ∧ hs.length ≤ cap ∧ cap ≤ maxLen ∧
    (hs ≠ [] → ∃ B off, a = some ⟨B, off, none⟩ ∧ B < w.heap.size ∧ ∀ i, (h : i < hs.length) → w.rangeAt B (off + i * 32) (bcells hs[i]))
theorem rangeAt_below {w w' : World} {B o : Nat} {cs : List Value} (h : w.rangeAt B o cs) (hB : B < w.heap.size) (k : Below w.heap.size w w') : w'.rangeAt B o cs := fun j v hv =>
  (k.cell (p := ⟨B, o + j, none⟩) hB).trans (h j v hv)
theorem Hss.below {w w' : World} {v : Value} {hs : List (List UInt8)} (h : Hss w v hs) (k : Below w.heap.size w w') : Hss w' v hs := by
  obtain ⟨h0, a, cap, h1, h2, h3, h4⟩ := h
  refine ⟨h0, a, cap, h1, h2, h3, fun hne => ?_⟩
  obtain ⟨B, off, e1, e2, e3⟩ := h4 hne
  exact ⟨B, off, e1, Nat.lt_of_lt_of_le e2 k.size, fun i hi => rangeAt_below (e3 i hi) e2 k⟩
theorem Hss.len {w : World} {v : Value} {hs : List (List UInt8)} (h : Hss w v hs) : ∃ a cap, v = .slice a hs.length cap ∧ hs.length ≤ cap ∧ cap ≤ 9223372036854775807 := by
  obtain ⟨_, a, cap, h1, h2, h3, _⟩ := h
  exact ⟨a, cap, h1, h2, by unfold maxLen at h3; omega⟩
/-- one hash of such a slice, as the walk meets it -/
theorem Hss.at {w : World} {a : Option Addr} {n cap : Nat} {hs : List (List UInt8)} (h : Hss w (.slice a n cap) hs) (i : Nat) (hi : i < hs.length) :
    n = hs.length ∧ hs.length ≤ cap ∧ cap ≤ 9223372036854775807 ∧ ∃ B off, a = some ⟨B, off, none⟩ ∧ B < w.heap.size ∧ w.rangeAt B (off + i * 32) (bcells hs[i]) ∧ hs[i].length = 32 := by
  obtain ⟨h0, a', cap', h1, h2, h3, h4⟩ := h
  cases h1
  have hne : hs ≠ [] := fun e => by subst e; simp at hi
  obtain ⟨B, off, e1, e2, e3⟩ := h4 hne
  exact ⟨rfl, h2, by unfold maxLen at h3; omega, B, off, e1, e2, e3 i hi, h0 _ (List.getElem_mem hi)⟩
/-- hashes without the last ones -/
theorem Hss.take {w : World} {a : Option Addr} {n cap : Nat} {hs : List (List UInt8)} (h : Hss w (.slice a n cap) hs) (k : Nat) (hk : k ≤ hs.length) : Hss w (.slice a k cap) (hs.take k) := by
  obtain ⟨h0, a', cap', h1, h2, h3, h4⟩ := h
  cases h1
  have hl : (hs.take k).length = k := by simp; omega
  refine ⟨fun x hx => h0 x (List.mem_of_mem_take hx), a, cap, by rw [hl], by omega, h3, fun hne => ?_⟩
  obtain ⟨B, off, e1, e2, e3⟩ := h4 (fun e => hne (by rw [e]; simp))
  refine ⟨B, off, e1, e2, fun i hi => ?_⟩
  rw [List.getElem_take]
  exact e3 i (by omega)
/-- the cells of one hash, out of a reading -/
theorem hash_cells {H : Type} {enc : TypeId × Value → H} {W : World} {base n : Nat} {spare : Nat → Bool} {held : Bool} {cs : List Value} {x : DataW H × List MemPlace}
    (hf : DataW.trod enc Tryz.prog W base spare held n 81 cs = some x) : ∃ l : List UInt8, l.length = 32 ∧ cs = bcells l := by
  obtain ⟨xs, m, _, _, hlen, hl, hel⟩ := DataW.trod_array underH hf
  rw [vcellsH] at hlen
  have hcell : ∀ i, (hi : i < cs.length) → ∃ b : UInt8, cs[i] = bcell b := by
    intro i hi
    have hE := hel i (by omega)
    rw [vcellsU8, Nat.mul_one, List.getElem?_eq_getElem (by omega)] at hE
    obtain ⟨z, e1, _, wz⟩ := DataW.trod_int vunderU8 hE
    have hb : 0 ≤ z ∧ z ≤ 255 := by simpa [Lit.wf, IntKind.min, IntKind.max, IntKind.signed, IntKind.bits] using wz
    have h0 : ((cs.drop i).take 1)[0]? = some (.int .u8 z) := by rw [e1]; rfl
    refine ⟨UInt8.ofNat z.toNat, ?_⟩
    simp [hi] at h0
    rw [h0]
    unfold bcell
    congr 1
    simp
    omega
  refine ⟨(List.finRange cs.length).map fun i => Classical.choose (hcell i.1 i.2), by simp [hlen], ?_⟩
  apply List.ext_getElem
  · simp [bcells]
  · intro i h1 h2
    simp [bcells]
    exact Classical.choose_spec (hcell i h1)
/-- hashes that came in -/
theorem hss_of_trod {H : Type} {enc : TypeId × Value → H} {W : World} {fuel : Nat} {cs : List Value} {x : DataW H × List MemPlace}
    (h : DataW.trod enc Tryz.prog W 0 (fun _ => true) true fuel 55 cs = some x) : ∃ v hs, cs = [v] ∧ Hss W v hs := by
  rcases Deep.open_slice underHs h with ⟨hcs, _⟩ | ⟨y, l, c, m, n, D, Pl, hcs, _, hl, hm, hmm, _, hel⟩
  · exact ⟨_, [], hcs, ⟨fun x hx => (by cases hx), none, 0, rfl, Nat.le_refl _, by unfold maxLen; decide, fun h => absurd rfl h⟩⟩
  · have hmc : m = c := by simpa using hmm
    subst hmc
    rw [vcellsH] at hel
    have key : ∀ i, i < l → ∃ u : List UInt8, u.length = 32 ∧ W.cells? 0 (y.add (i * 32)) 32 = some (bcells u) := fun i hi => by
      obtain ⟨cs', h1, h2⟩ := hel i (by omega)
      obtain ⟨u, hu, rfl⟩ := hash_cells h2
      exact ⟨u, hu, h1⟩
    refine ⟨_, (List.finRange l).map fun i => Classical.choose (key i.1 i.2), hcs, ⟨fun x hx => ?_, some y, m, by simp, by simpa using hl, hm, fun hne => ?_⟩⟩
    · obtain ⟨i, _, rfl⟩ := List.mem_map.1 hx
      exact (Classical.choose_spec (key i.1 i.2)).1
    · have hpos : 0 < l := by
        rcases Nat.eq_zero_or_pos l with h0 | h0
        · subst h0; simp at hne
        · exact h0
      obtain ⟨u0, hu0, hc0⟩ := key 0 hpos
      obtain ⟨_, _, g0⟩ := World.cells?_some hc0
      have c0 := g0 0 (by decide)
      rw [show (y.add (0 * 32)).add 0 = y by rw [show 0 * 32 = 0 from rfl]; rfl] at c0
      have c0' : W.cell? y = some (bcell (u0[0]'(by omega))) := by rw [c0]; exact bcells_get _ _ (by omega)
      obtain ⟨B, off, sp⟩ := y
      have hsp : sp = none := by
        unfold World.cell? at c0'
        split at c0'
        · cases sp with
          | none => rfl
          | some _ => simp at c0'
        · cases c0'
      subst hsp
      refine ⟨B, off, rfl, block_lt_of_cell c0', fun i hi j v hv => ?_⟩
      have hi' : i < l := by simpa using hi
      obtain ⟨e1, e2⟩ := Classical.choose_spec (key i hi')
      obtain ⟨_, _, g⟩ := World.cells?_some e2
      have hj : j < 32 := by
        have := (List.getElem?_eq_some_iff.1 hv).1
        simp only [List.getElem_map, List.getElem_finRange, bcells_length] at this
        exact Nat.lt_of_lt_of_le this (Nat.le_of_eq e1)
      have gj := g j hj
      have ha : ((⟨B, off, none⟩ : Addr).add (i * 32)).add j = ⟨B, off + i * 32 + j, none⟩ := by rw [Addr.add_mid, Addr.add_mid]
      have gj' : W.cell? ⟨B, off + i * 32 + j, none⟩ = _ := (congrArg W.cell? ha).symm.trans gj
      rw [gj', ← hv]
      simp
end Go.Proofs.YtgbafjmklefoiaaGreatDoor
end
section
namespace Go.Proofs.YtgbafjmklefoiaaGreatDoor
set_option maxRecDepth 100000
open Go.RowKit
theorem fold_fill (off : Nat) : ∀ (l : List Value) (k : Nat) (cs : Array Value) (i : Nat),
    ((l.zipIdx k).foldl (fun cs p => cs.setIfInBounds (off + p.2) p.1) cs)[i]? = if off + k ≤ i ∧ i < off + k + l.length ∧ i < cs.size then l[i - (off + k)]? else cs[i]?
  | [], k, cs, i => by rw [if_neg (by simp; omega)]; rfl
  | x :: l, k, cs, i => by
    rw [List.zipIdx_cons, List.foldl_cons, fold_fill off l (k + 1)]
    simp only [List.length_cons, Array.size_setIfInBounds]
    by_cases h : off + (k + 1) ≤ i ∧ i < off + (k + 1) + l.length ∧ i < cs.size
    · rw [if_pos h, if_pos (by omega), show i - (off + k) = (i - (off + (k + 1))) + 1 by omega, List.getElem?_cons_succ]
    · rw [if_neg h, Array.getElem?_setIfInBounds]
      by_cases h2 : off + k = i
      · subst h2
        by_cases h3 : off + k < cs.size
        · simp [h3]
        · simp [h3]
      · rw [if_neg h2, if_neg (by omega)]
theorem size_fill (off : Nat) : ∀ (l : List Value) (k : Nat) (cs : Array Value), ((l.zipIdx k).foldl (fun cs p => cs.setIfInBounds (off + p.2) p.1) cs).size = cs.size
  | [], _, _ => rfl
  | x :: l, k, cs => by rw [List.zipIdx_cons, List.foldl_cons, size_fill off l (k + 1)]; simp
theorem fill_step {n : Nat} (pl : Nat → Option (Nat × Nat)) (Z X : Array Value) (i off : Nat) (r : List (Nat × Value)) (hp : pl i = some (off, n)) (hX : X.size = n) (hZ : off + n ≤ Z.size) :
    Instr.fill pl Z ((i, .agg X) :: r) = Instr.fill pl ((X.toList.zipIdx 0).foldl (fun cs p => cs.setIfInBounds (off + p.2) p.1) Z) r := by
  have e : (Value.agg X).cells = X := rfl
  rw [Instr.fill, hp]
  simp only [e, hX]
  rw [if_neg (by simp; omega), ← Array.foldl_toList, Array.toList_zipIdx]
theorem infoHz : ∃ ie z, Tryz.prog.info? 81 = some ie ∧ ie.zero = some z ∧ ie.size = 32 := by
  have h : (Tryz.prog.info? 81).map (fun i => (i.zero.isSome, i.size)) = some (true, 32) := by kernel_rfl
  obtain ⟨i, hi, hi2⟩ := Option.map_eq_some_iff.1 h
  simp only [Prod.mk.injEq] at hi2
  obtain ⟨z, hz⟩ := Option.isSome_iff_exists.1 hi2.1
  exact ⟨i, z, hi, hz, hi2.2⟩
theorem fill_one {n : Nat} (pl : Nat → Option (Nat × Nat)) (Z : Array Value) (hZ : Z.size = n) (h0 : pl 0 = some (0, n)) (A : Array Value) (sa : A.size = n) : Instr.fill pl Z [(0, .agg A)] = some A := by
  rw [fill_step pl Z A 0 0 _ h0 sa (by omega)]
  show some _ = some _
  congr 1
  apply Array.ext
  · rw [size_fill, sa, hZ]
  · intro j h1 h2
    apply Option.some.inj
    rw [← Array.getElem?_eq_getElem, ← Array.getElem?_eq_getElem, fold_fill, if_pos ⟨by omega, by rw [Array.length_toList, sa]; omega, by rw [hZ]; omega⟩]
    simp
theorem bs_one (w : World) (a : List UInt8) (ha : a.length = 32) : (Instr.buildSlice 55 1 #[(0, .agg (ocells a))]).run Tryz.prog w = .ok (.slice (some ⟨w.heap.size, 0, none⟩) 1 1) (w.alloc (.cells (ocells a) 81)) := by
  obtain ⟨ie, z, hie, hz, hs⟩ := infoHz
  refine run_buildSlice w _ _ 1 _ (ocells a) ie z underHs hie hz (by rw [hs]; decide) (by rw [hs]; decide) ?_
  rw [hs]
  exact fill_one _ _ (by simp) rfl _ (by rw [ocells_size, ha])
theorem run_bs_one {o : Oper} {a : Act} (w : World) (x : Operand) (ho : o.op = .buildSlice 55 1 #[(0, x)]) (p : List UInt8) (hp : p.length = 32) (hx : a.eval x = .agg (ocells p)) :
    (execOp a.eval o).run Tryz.prog w = .ok (.value (.slice (some ⟨w.heap.size, 0, none⟩) 1 1)) (w.alloc (.cells (ocells p) 81)) := by
  have hr := bs_one w p hp
  unfold execOp
  simp only [ho, List.map_toArray, List.map_cons, List.map_nil, hx, Sem.run_bind, hr, Result.andThen_ok, Sem.run_pure]
/-- the cells of hashes side by side -/
def hcells (ls : List (List UInt8)) : List Value := ls.flatMap bcells
theorem hcells_push (ls : List (List UInt8)) (c : List UInt8) : hcells ls ++ (ocells c).toList = hcells (ls ++ [c]) := by simp [hcells, ocells]
theorem hcells_length {ls : List (List UInt8)} (h : ∀ x ∈ ls, x.length = 32) : (hcells ls).length = ls.length * 32 := by
  induction ls with
  | nil => rfl
  | cons x l ih =>
    have h1 := ih fun y hy => h y (List.mem_cons_of_mem _ hy)
    have h2 := h x (List.mem_cons_self)
    unfold hcells at h1 ⊢
    rw [List.flatMap_cons, List.length_append, h1, bcells_length, h2, List.length_cons]
    omega
theorem hcells_get {ls : List (List UInt8)} (h : ∀ x ∈ ls, x.length = 32) (i : Nat) (hi : i < ls.length) (j : Nat) (hj : j < 32) : (hcells ls)[i * 32 + j]? = (bcells ls[i])[j]? := by
  induction ls generalizing i with
  | nil => exact absurd hi (Nat.not_lt_zero _)
  | cons x l ih =>
    have h2 := h x (List.mem_cons_self)
    unfold hcells
    rw [List.flatMap_cons]
    cases i with
    | zero =>
      rw [List.getElem?_append_left (by rw [bcells_length]; omega)]
      simp
    | succ i =>
      rw [List.getElem?_append_right (by rw [bcells_length]; omega), bcells_length, h2, show (i + 1) * 32 + j - 32 = i * 32 + j by omega]
      exact ih (fun y hy => h y (List.mem_cons_of_mem _ hy)) i (by simpa using hi)
/-- a row of one's own reads as its hashes -/
theorem hss_own {w : World} {base n : Nat} {v : Value} {ls : List (List UInt8)} (h : w.ownsRow base 81 32 v n (hcells ls)) (hl : ∀ x ∈ ls, x.length = 32) (hn : n = ls.length) : Hss w v ls := by
  subst hn
  rcases id h.2 with ⟨rfl, h0⟩ | ⟨g, cap, cur, rfl, hb, hg, h1, h2, h3, h4⟩
  · obtain rfl : ls = [] := List.length_eq_zero_iff.1 h0
    exact ⟨(fun _ h => (by cases h)), none, 0, rfl, Nat.le_refl _, (by unfold maxLen; decide), fun h => absurd rfl h⟩
  · refine ⟨hl, _, cap, rfl, h1, h2, fun _ => ⟨g, 0, rfl, (Array.getElem?_eq_some_iff.1 hg).1, fun i hi => ?_⟩⟩
    intro j x hx
    have hj : j < 32 := by
      have := (List.getElem?_eq_some_iff.1 hx).1
      rwa [bcells_length, hl _ (List.getElem_mem hi)] at this
    rw [Nat.zero_add, h.cellAt (i * 32 + j) (by omega), hcells_get hl i hi j hj]
    exact hx
end Go.Proofs.YtgbafjmklefoiaaGreatDoor
end
section
namespace Go.Proofs.YtgbafjmklefoiaaGreatDoor
set_option maxRecDepth 100000
open Go.RowKit
theorem fold_put (d l r : List Value) (h : l.length ≤ r.length) : ((l.zipIdx 0).foldl (fun (cs : Array Value) p => cs.setIfInBounds (d.length + p.2) p.1) (d ++ r).toArray) = (d ++ l ++ r.drop l.length).toArray := by
  apply Array.ext
  · rw [size_fill]; simp; omega
  · intro i h1 h2
    apply Option.some.inj
    rw [← Array.getElem?_eq_getElem, ← Array.getElem?_eq_getElem, fold_fill]
    simp only [List.size_toArray, List.getElem?_toArray, List.length_append, Nat.add_zero]
    by_cases h3 : d.length ≤ i ∧ i < d.length + l.length
    · rw [if_pos ⟨h3.1, h3.2, by omega⟩, List.append_assoc, List.getElem?_append_right h3.1, List.getElem?_append_left (by omega)]
    · rw [if_neg (by omega)]
      rcases Nat.lt_or_ge i d.length with h4 | h4
      · rw [List.getElem?_append_left h4, List.append_assoc, List.getElem?_append_left h4]
      · rw [List.getElem?_append_right h4, List.append_assoc, List.getElem?_append_right h4, List.getElem?_append_right (by omega), List.getElem?_drop]
        congr 1
        omega
theorem fill_put (pl : Nat → Option (Nat × Nat)) (d r : List Value) (i n : Nat) (v : Value) (l : List Value) (rest : List (Nat × Value)) (hp : pl i = some (d.length, n)) (hv : v.cells = l.toArray) (hl : l.length = n) (hn : n ≤ r.length) :
    Instr.fill pl (d ++ r).toArray ((i, v) :: rest) = Instr.fill pl ((d ++ l) ++ r.drop n).toArray rest := by
  rw [Instr.fill, hp]
  simp only [hv, List.size_toArray, hl]
  rw [if_neg (by simp; omega), ← Array.foldl_toList, Array.toList_zipIdx]
  have := fold_put d l r (by omega)
  rw [hl] at this
  rw [← this]
end Go.Proofs.YtgbafjmklefoiaaGreatDoor
end
section
namespace Go.Proofs.YtgbafjmklefoiaaGreatDoor
set_option maxRecDepth 100000
open Go.RowKit
theorem hszB' {L : List UInt8} (h : L.length = 32) : (Tryz.prog.info? 81).map (·.size) = some (bcells L).length := by rw [bcells_length]; have := hszL h; rwa [ocells_size] at this
theorem hv_neq (w : World) (a b : List UInt8) (ha : a.length = 32) (hb : b.length = 32) : (binOp .neq 81 (hv a) (hv b)).run Tryz.prog w = .ok (.bool (!(a == b))) w := by
  rw [hv_agg, hv_agg]
  show (binOp .neq 81 (.agg (a.map Extern.Stop.cell).toArray) (.agg (b.map Extern.Stop.cell).toArray)).run Tryz.prog w = _
  rw [run_neq_struct, run_equalIn_bytes w 9998 81 5 32 underH (by kernel_rfl) (fun _ => by kernel_rfl) a b ha hb]
  rfl
theorem below_setCells {B b : Nat} {w : World} (hb : B ≤ b) : ∀ (vs : List Value) (o : Nat) (W : World), Below B w W → Below B w (W.setCells b o vs)
  | [], _, _, h => h
  | v :: vs, o, W, h => by rw [World.setCells]; exact below_setCells hb vs (o + 1) _ (h.setCell hb v)
theorem size_setCells (b : Nat) : ∀ (vs : List Value) (o : Nat) (W : World), (W.setCells b o vs).heap.size = W.heap.size
  | [], _, _ => rfl
  | v :: vs, o, W => by rw [World.setCells, size_setCells b vs (o + 1)]; simp
def VSm (B1 o1 c1 B2 o2 c2 l t : Nat) (x y : List UInt8) (oi : Nat) (v : Value) (_own : Nat → Option Nat) (_w : World) : Prop :=
  match oi with
  | 0 => v = .slice (some ⟨B1, o1, none⟩) l c1
  | 1 => v = .int .i64 (t : Int)
  | 2 => v = .pointer (some ⟨B1, o1 + t * 32, none⟩)
  | 3 => v = .agg (ocells x)
  | 4 => v = .slice (some ⟨B2, o2, none⟩) l c2
  | 5 => v = .int .i64 (t : Int)
  | 6 => v = .pointer (some ⟨B2, o2 + t * 32, none⟩)
  | 7 => v = .agg (ocells y)
  | 8 => v = .bool (!(x == y))
  | _ => True
def VSmmk : Nat → Option Nat := fun _ => none
theorem VSm_mono (B1 o1 c1 B2 o2 c2 l t : Nat) (x y : List UInt8) (oi oj : Nat) (v : Value) (own : Nat → Option Nat) (w : World) (own' : Nat → Option Nat) (w' : World) (hij : oi ≠ oj) (h : VSm B1 o1 c1 B2 o2 c2 l t x y oj v own w) (_r : Rel VSmmk oi own w own' w') : VSm B1 o1 c1 B2 o2 c2 l t x y oj v own' w' := by
  unfold VSm at h ⊢
  split at h
  · exact h
  · exact h
  · exact h
  · exact h
  · exact h
  · exact h
  · exact h
  · exact h
  · exact h
  · trivial

theorem getElem_ne {a b : List (List UInt8)} {t : Nat} (ha : t < a.length) (hb : t < b.length) (h : (a[t] == b[t]) = false) : (a == b) = false := by
  rw [beq_eq_false_iff_ne] at h ⊢
  intro e
  subst e
  exact h rfl
set_option maxHeartbeats 1600000 in
theorem same_any (w : World) (a1 : Option Addr) (n1 c1 : Nat) (ps : List (List UInt8)) (a2 : Option Addr) (n2 c2 : Nat) (qs : List (List UInt8)) (h1 : Hss w (.slice a1 n1 c1) ps) (h2 : Hss w (.slice a2 n2 c2) qs) :
    Calls Tryz.prog 29 #[.slice a1 n1 c1, .slice a2 n2 c2] w fun e w' => e = .returned (.bool (ps == qs)) ∧ Below w.heap.size w w' := by
  obtain ⟨_, _, e1, b1, b1'⟩ := h1.len
  obtain ⟨_, _, e2, b2, b2'⟩ := h2.len
  have hn1 : n1 = ps.length := by cases e1; rfl
  have hn2 : n2 = qs.length := by cases e2; rfl
  subst hn1; subst hn2
  have H1 := Bx.mk h1; have H2 := Bx.mk h2
  clear h1 h2 e1 e2
  go_enter Tryz.func29, Tryz.ntmps29
  by_cases hl : ps.length = qs.length
  · obtain ⟨l, hl1⟩ : ∃ l, l = ps.length := ⟨_, rfl⟩
    have hlb : l ≤ 9223372036854775807 := by omega
    rw [← hl, ← hl1]
    have HL := Bx.mk hl; have HL1 := Bx.mk hl1
    clear hl hl1
    go_wp2_with fail
    go_loopw [5] (fun i wr => ∃ t : Nat, t ≤ l ∧ i = .int .i64 (t : Int) ∧ ps.take t = qs.take t ∧ Below w.heap.size w wr) (fun i _ => l - (intOf i).toNat)
    case atStart => exact ⟨0, Nat.zero_le _, rfl, rfl, Below.refl _ _⟩
    case round =>
      obtain ⟨t, ht, rfl, heq, hb⟩ := hrel
      have HE := Bx.mk heq; have B0 := Bx.mk hb; clear heq hb
      by_cases hlt : t < l
      · have htp : t < ps.length := by rw [← HL1.out]; exact hlt
        have htq : t < qs.length := by rw [← HL.out, ← HL1.out]; exact hlt
        obtain ⟨_, hc1, hc1', B1, o1, rfl, l1, r1, x1⟩ := (H1.out.below B0.out).at t htp
        obtain ⟨_, hc2, hc2', B2, o2, rfl, l2, r2, x2⟩ := (H2.out.below B0.out).at t htq
        have hne := getElem_ne (a := ps) (b := qs) htp htq
        have htk1 : ps.take (t + 1) = ps.take t ++ [ps[t]] := List.take_succ_eq_append_getElem htp
        have htk2 : qs.take (t + 1) = qs.take t ++ [qs[t]] := List.take_succ_eq_append_getElem htq
        generalize ps[t] = x at r1 x1 hne htk1
        generalize qs[t] = y at r2 x2 hne htk2
        have R1 := Bx.mk r1; have R2 := Bx.mk r2; have L1 := Bx.mk l1; have L2 := Bx.mk l2; have XL := Bx.mk x1; have YL := Bx.mk x2; have NE := Bx.mk hne; have T1 := Bx.mk htk1; have T2 := Bx.mk htk2
        clear r1 r2 l1 l2 x1 x2 hne htk1 htk2 htp htq hc1 hc2 hc1' hc2'
        go_upto_region 6 with (fail)
        refine wp_region_own (n := 26) VSmmk (fun _ => none) (VSm B1 o1 c1 B2 o2 c2 l t x y) (by kernel_rfl) (by kernel_rfl) rfl ?_ ?_ (VSm_mono B1 o1 c1 B2 o2 c2 l t x y) ?_ ?_
        · exact fun _ _ => rfl
        · exact fun _ _ h => by cases h
        · intro oi o hi f u own hsame hsn hfr hdep
          have hb := hsn.below (B := wr.heap.size) (fun _ _ => rfl) (Nat.le_refl _)
          have hr1 := rangeAt_below R1.out L1.out hb
          have hr2 := rangeAt_below R2.out L2.out hb
          match oi, hi with
          | 0, hi =>
            cases (show some _ = some o from hi)
            have e0 : f.tmps.getD 0 undef = .slice (some ⟨B1, o1, none⟩) l c1 := hsame.slot 0 (fun i o h => invB2_not 0 (by kernel_rfl) h)
            clear hdep hsame hi hfr
            exact ⟨wanted_none rfl, showsO_move hsn rfl _ rfl e0⟩
          | 1, hi =>
            cases (show some _ = some o from hi)
            have e5 : f.tmps.getD 5 undef = .int .i64 (t : Int) := hsame.slot 5 (fun i o h => invB2_not 5 (by kernel_rfl) h)
            clear hdep hsame hi hfr
            exact ⟨wanted_none rfl, showsO_move hsn rfl _ rfl e5⟩
          | 2, hi =>
            cases (show some _ = some o from hi)
            have e17 : f.tmps.getD 17 undef = .slice (some ⟨B1, o1, none⟩) l c1 := depO (V := (VSm B1 o1 c1 B2 o2 c2 l t x y)) hdep 0 17 (by kernel_rfl) (by kernel_rfl)
            have e18 : f.tmps.getD 18 undef = .int .i64 (t : Int) := depO (V := (VSm B1 o1 c1 B2 o2 c2 l t x y)) hdep 1 18 (by kernel_rfl) (by kernel_rfl)
            clear hdep hsame hi hfr
            have f1 : ¬ (l : Int) ≤ (t : Int) := by omega
            have f2 : (t : Int) < (l : Int) := by omega
            exact ⟨wanted_none rfl, showsO_pure hsn rfl (.pointer (some ⟨B1, o1 + t * 32, none⟩)) (by simp only [execOp, Act.eval]; go_simp) rfl⟩
          | 3, hi =>
            cases (show some _ = some o from hi)
            have e19 : f.tmps.getD 19 undef = .pointer (some ⟨B1, o1 + t * 32, none⟩) := depO (V := (VSm B1 o1 c1 B2 o2 c2 l t x y)) hdep 2 19 (by kernel_rfl) (by kernel_rfl)
            clear hdep hsame hi hfr
            exact ⟨wanted_none rfl, showsO_mid hsn rfl 81 (.tmp 19) rfl B1 (o1 + t * 32) e19 (bcells x) hr1 underH rfl (hszB' XL.out) rfl⟩
          | 4, hi =>
            cases (show some _ = some o from hi)
            have e1 : f.tmps.getD 1 undef = .slice (some ⟨B2, o2, none⟩) l c2 := hsame.slot 1 (fun i o h => invB2_not 1 (by kernel_rfl) h)
            clear hdep hsame hi hfr
            exact ⟨wanted_none rfl, showsO_move hsn rfl _ rfl e1⟩
          | 5, hi =>
            cases (show some _ = some o from hi)
            have e5 : f.tmps.getD 5 undef = .int .i64 (t : Int) := hsame.slot 5 (fun i o h => invB2_not 5 (by kernel_rfl) h)
            clear hdep hsame hi hfr
            exact ⟨wanted_none rfl, showsO_move hsn rfl _ rfl e5⟩
          | 6, hi =>
            cases (show some _ = some o from hi)
            have e21 : f.tmps.getD 21 undef = .slice (some ⟨B2, o2, none⟩) l c2 := depO (V := (VSm B1 o1 c1 B2 o2 c2 l t x y)) hdep 4 21 (by kernel_rfl) (by kernel_rfl)
            have e22 : f.tmps.getD 22 undef = .int .i64 (t : Int) := depO (V := (VSm B1 o1 c1 B2 o2 c2 l t x y)) hdep 5 22 (by kernel_rfl) (by kernel_rfl)
            clear hdep hsame hi hfr
            have f1 : ¬ (l : Int) ≤ (t : Int) := by omega
            have f2 : (t : Int) < (l : Int) := by omega
            exact ⟨wanted_none rfl, showsO_pure hsn rfl (.pointer (some ⟨B2, o2 + t * 32, none⟩)) (by simp only [execOp, Act.eval]; go_simp) rfl⟩
          | 7, hi =>
            cases (show some _ = some o from hi)
            have e23 : f.tmps.getD 23 undef = .pointer (some ⟨B2, o2 + t * 32, none⟩) := depO (V := (VSm B1 o1 c1 B2 o2 c2 l t x y)) hdep 6 23 (by kernel_rfl) (by kernel_rfl)
            clear hdep hsame hi hfr
            exact ⟨wanted_none rfl, showsO_mid hsn rfl 81 (.tmp 23) rfl B2 (o2 + t * 32) e23 (bcells y) hr2 underH rfl (hszB' YL.out) rfl⟩
          | 8, hi =>
            cases (show some _ = some o from hi)
            have e20 : f.tmps.getD 20 undef = .agg (ocells x) := depO (V := (VSm B1 o1 c1 B2 o2 c2 l t x y)) hdep 3 20 (by kernel_rfl) (by kernel_rfl)
            have e24 : f.tmps.getD 24 undef = .agg (ocells y) := depO (V := (VSm B1 o1 c1 B2 o2 c2 l t x y)) hdep 7 24 (by kernel_rfl) (by kernel_rfl)
            clear hdep hsame hi hfr
            have q := fun u => hv_neq u x y XL.out YL.out
            simp only [hv_agg] at q
            exact ⟨wanted_none rfl, showsO_pure hsn rfl (.bool (!(x == y))) (by simp only [execOp, Act.eval]; go_simp) rfl⟩
          | n + 9, hi => exact absurd hi (by simp)
        · intro f u own hsame hsn hall
          have hb := hsn.below (B := wr.heap.size) (fun _ _ => rfl) (Nat.le_refl _)
          have q17 : f.tmps.getD 17 undef = .slice (some ⟨B1, o1, none⟩) l c1 := finO (V := (VSm B1 o1 c1 B2 o2 c2 l t x y)) hall 0 17 rfl
          have q18 : f.tmps.getD 18 undef = .int .i64 (t : Int) := finO (V := (VSm B1 o1 c1 B2 o2 c2 l t x y)) hall 1 18 rfl
          have q19 : f.tmps.getD 19 undef = .pointer (some ⟨B1, o1 + t * 32, none⟩) := finO (V := (VSm B1 o1 c1 B2 o2 c2 l t x y)) hall 2 19 rfl
          have q20 : f.tmps.getD 20 undef = .agg (ocells x) := finO (V := (VSm B1 o1 c1 B2 o2 c2 l t x y)) hall 3 20 rfl
          have q21 : f.tmps.getD 21 undef = .slice (some ⟨B2, o2, none⟩) l c2 := finO (V := (VSm B1 o1 c1 B2 o2 c2 l t x y)) hall 4 21 rfl
          have q22 : f.tmps.getD 22 undef = .int .i64 (t : Int) := finO (V := (VSm B1 o1 c1 B2 o2 c2 l t x y)) hall 5 22 rfl
          have q23 : f.tmps.getD 23 undef = .pointer (some ⟨B2, o2 + t * 32, none⟩) := finO (V := (VSm B1 o1 c1 B2 o2 c2 l t x y)) hall 6 23 rfl
          have q24 : f.tmps.getD 24 undef = .agg (ocells y) := finO (V := (VSm B1 o1 c1 B2 o2 c2 l t x y)) hall 7 24 rfl
          have q25 : f.tmps.getD 25 undef = .bool (!(x == y)) := finO (V := (VSm B1 o1 c1 B2 o2 c2 l t x y)) hall 8 25 rfl
          obtain rfl := frame_eq hsame [(17, .slice (some ⟨B1, o1, none⟩) l c1), (18, .int .i64 (t : Int)), (19, .pointer (some ⟨B1, o1 + t * 32, none⟩)), (20, .agg (ocells x)), (21, .slice (some ⟨B2, o2, none⟩) l c2), (22, .int .i64 (t : Int)), (23, .pointer (some ⟨B2, o2 + t * 32, none⟩)), (24, .agg (ocells y)), (25, .bool (!(x == y)))] (by kernel_rfl) ⟨q17, q18, q19, q20, q21, q22, q23, q24, q25, trivial⟩
          clear hall hsame q17 q18 q19 q20 q21 q22 q23 q24 q25
          simp only [List.foldl, List.setIfInBounds_toArray, List.set_cons_succ, List.set_cons_zero]
          have HB := Bx.mk (B0.out.trans (hb.mono B0.out.size))
          clear hb hsn
          by_cases hxy : (x == y) = true
          · rw [hxy]
            have HXY := Bx.mk (eq_of_beq hxy); clear hxy
            go_wp2_with fail
            go_roundw
            case rel => exact ⟨t + 1, hlt, by go_num, by rw [T1.out, T2.out, HE.out, HXY.out], HB.out⟩
            case measure => simp [intOf]; omega
          · rw [show (x == y) = false by simpa using hxy]
            have HXY := Bx.mk (NE.out (by simpa using hxy)); clear hxy
            go_wp2_with fail
            go_ret
            exact ⟨by rw [HXY.out]; rfl, HB.out⟩
      · obtain rfl : t = l := by omega
        have hv : (ps == qs) = true := by
          have := HE.out
          rw [HL1.out, List.take_length, HL.out, List.take_length] at this
          rw [this]; simp
        have HV := Bx.mk hv; clear hv
        go_wp2_with fail
        go_ret
        exact ⟨by rw [HV.out]; rfl, B0.out⟩
  · have hv : (ps == qs) = false := by rw [beq_eq_false_iff_ne]; exact fun e => hl (by rw [e])
    have HV := Bx.mk hv; clear hv
    have hl' : ¬ (ps.length : Int) = (qs.length : Int) := by omega
    have hl'' : ((ps.length : Int) == (qs.length : Int)) = false := beq_eq_false_iff_ne.2 hl'
    have hl3 : (ps.length == qs.length) = false := beq_eq_false_iff_ne.2 hl
    go_wp2_with fail
    go_ret
    exact ⟨by rw [HV.out]; rfl, Below.refl _ _⟩
theorem there_row {w : World} {g : Nat} {cs : Array Value} {T : TypeId} (h : w.heap[g]? = some (.cells cs T (0, 0))) : w.there g 0 cs.size := fun j hj =>
  ⟨by rw [cell_of_row w g (0 + j) cs T _ h]; simp [hj], by simp [World.frozen?, h]⟩
theorem infoH : (Tryz.prog.info? 81).map (fun i => (i.zero, i.size, i.bytes)) = some (some (.agg zeros32), 32, 32) := by kernel_rfl
/-- the mark behind a copy -/
def markH : List UInt8 := [97, 30, 0, 0, 0, 0, 0, 0, 0, 0, 0, 0, 0, 0, 0, 0, 0, 0, 0, 0, 0, 0, 0, 0, 0, 0, 0, 0, 0, 0, 0, 201]
theorem markH_length : markH.length = 32 := rfl
theorem built_mark : Tryz.prog.built 81 [(0, .int .u8 97), (1, .int .u8 30), (2, .int .u8 0), (31, .int .u8 201)] = some (ocells markH) := by kernel_rfl
/-- a copy with its mark -/
def TwinAt (w : World) (v : Value) (ps : List (List UInt8)) : Prop :=
  Hss w v ps ∧ ∃ B, v = .slice (some ⟨B, 0, none⟩) ps.length (ps.length + 1) ∧ B < w.heap.size ∧ w.rangeAt B (ps.length * 32) (bcells markH)
theorem TwinAt.below {w w' : World} {v : Value} {ps : List (List UInt8)} (h : TwinAt w v ps) (k : Below w.heap.size w w') : TwinAt w' v ps := by
  obtain ⟨h1, B, e, hB, hr⟩ := h
  exact ⟨h1.below k, B, e, Nat.lt_of_lt_of_le hB k.size, rangeAt_below hr hB k⟩
set_option maxHeartbeats 800000 in
theorem mark_any (w : World) : Calls Tryz.prog 81 #[.int .i64 7777] w fun e w' => e = .returned (.agg (ocells markH)) ∧ Below w.heap.size w w' := by
  have hb := built_mark
  have r0 : (w.alloc (.cells zeros32 81)).heap[w.heap.size]? = some (.cells zeros32 81 (0, 0)) := heap_alloc_new _ _
  have k0 := er_al (Below.refl w.heap.size w) (.cells zeros32 81)
  go_enter Tryz.func81, Tryz.ntmps81
  go_upto_region 1 with (fail)
  change Code.wp _ _ _ _ (w.alloc (.cells zeros32 81))
  generalize w.alloc (.cells zeros32 81) = W at r0 k0 ⊢
  have R0' := Bx.mk r0; have K0 := Bx.mk k0; clear r0 k0 hb
  go_wp2_with (guard_target =~ wpList _ _ _ (⟨none, _, _, _, _, _⟩ :: _) _ _; refine wpList_store_row rfl 81 (.tmp 2) (.tmp 11) rfl w.heap.size (ocells markH) rfl rfl _ _ R0'.out (hszL markH_length) (hsoL markH_length) (ocells_one _) ?_)
  exact bodyPost_ret (results_cell_row rfl _ _ w.heap.size _ (ocells markH) _ _ rfl (setRow_heap _ _ _ _ _ _ R0'.out) underH rfl (hszL markH_length)) rfl ⟨rfl, below_setRow K0.out (Nat.le_refl _) _⟩
end Go.Proofs.YtgbafjmklefoiaaGreatDoor
end
