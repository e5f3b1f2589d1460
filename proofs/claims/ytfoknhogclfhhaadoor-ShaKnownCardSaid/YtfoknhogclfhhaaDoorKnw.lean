/- cartularylaw04.ShaKnown walked. -/
import Derived.Test.YtfoknhogclfhhaaDoorNone
import Derived.Test.YtfoknhogclfhhaaDoorInv
import Derived.Test.YtfoknhogclfhhaaDoorOwn
import Derived.Test.YtfoknhogclfhhaaDoorKnP
import Derived.Laws.MakeOwn
import Derived.Laws.OwnMore
namespace Go.Proofs.YtfoknhogclfhhaaDoor
set_option maxRecDepth 100000
open Go.RowKit
theorem er_cellAt {w : World} {g : Nat} {cs : Array Value} {T : TypeId} {fr : Nat × Nat} (h : w.heap[g]? = some (.cells cs T fr)) (j : Nat) (v : Value) (hv : cs[j]? = some v) : w.cell? ⟨g, j, none⟩ = some v := cell_at h j v hv
theorem er_al {W w : World} (h : Below W.heap.size W w) (o : Obj) : Below W.heap.size W (w.alloc o) := h.alloc h.size o
structure TabK (w : World) : Prop where
  tab : Tab w
  lt : 0 < w.heap.size
theorem TabK.below {w w' : World} (h : TabK w) (k : Below w.heap.size w w') : TabK w' := ⟨h.tab.kept (Keep.of_below k (fun _ => False)) h.lt (fun h => h), Nat.lt_of_lt_of_le h.lt k.size⟩
theorem strs_of (w : World) (ss : List ByteArray) (n : Nat) (hn : n = w.heap.size) (hm : ss.length ≤ 1000) : Strs (w.alloc (.cells (ss.map Value.string).toArray 9)) (.slice (some ⟨n, 0, none⟩) ss.length ss.length) ss := by
  subst hn
  refine ⟨_, ss.length, rfl, Nat.le_refl _, by unfold maxLen; omega, fun _ => ⟨w.heap.size, 0, rfl, by simp, fun i hi => ?_⟩⟩
  rw [Nat.zero_add]
  exact er_cellAt (heap_alloc_new _ _) i _ (by simp [hi])
theorem strs_nil (w : World) : Strs w (.slice none 0 0) [] := ⟨none, 0, rfl, Nat.le_refl _, by unfold maxLen; decide, fun h => absurd rfl h⟩
theorem wpList_load_row_wk {P : Program} {ops : Array Oper} {rest : List Oper} {o : Oper} {a : Act} {w : World} {Q : Exit → Act → World → Prop} (hw : Region.wanted o (yielded ops a.tmps) = true) (ty : TypeId) (x : Operand) (ho : o.op = .load ty x)
    (g : Nat) (hx : a.eval x = .pointer (some ⟨g, 0, none⟩)) (t : TypeId) (cs : Array Value) (fr : Nat × Nat) (d : TypeDesc) (hg : w.heap[g]? = some (.cells cs t fr))
    (hu : P.underlying ty = some d) (hd : (match d with | .struct _ | .array _ _ => true | _ => false) = true) (hi : (P.info? ty).map (·.size) = some cs.size)
    (h : wpList P ops Q rest (a.put o.dst (.agg cs)) w) : wpList P ops Q (o :: rest) a w :=
  wpList_step fun K hK => by rw [if_pos hw]; exact wp_load_row ty x ho g hx t cs fr d hg hu hd hi (hK _ _ h)
theorem hsz' {L : List UInt8} (h : L.length = 32) : (Tryd.prog.info? 38).map (·.size) = some (ocells L).size := by rw [sizeH, ocells_size, h]
theorem hso' {L : List UInt8} (h : L.length = 32) : zeros32.size = (ocells L).size := by unfold zeros32; rw [ocells_size, ocells_size, h]; rfl
def kstr (l : List UInt8) : ByteArray := ⟨l.toArray⟩
theorem sb_kstr (l : List UInt8) : sb (kstr l) = l := by simp [sb, kstr]
theorem kstr_size (l : List UInt8) : (kstr l).size = l.length := by simp [kstr, ByteArray.size]
/-- the text behind so many rounds -/
def kt (t : Nat) : List UInt8 := (List.range t).map fun i => UInt8.ofNat (i * 7 % 256)
theorem kt_length (t : Nat) : (kt t).length = t := by simp [kt]
theorem kt_succ (t : Nat) : kt (t + 1) = kt t ++ [UInt8.ofNat (t * 7 % 256)] := by simp [kt, List.range_succ]
theorem kstr_app (a b : List UInt8) : kstr a ++ kstr b = kstr (a ++ b) := by simp [kstr]; rfl
theorem byte_str (w : World) (x : Nat) (_hx : x < 256) (g : Nat) (hc : w.cell? ⟨g, 0, none⟩ = some (.int .u8 (x : Int))) : (convert 30 9 (.slice (some ⟨g, 0, none⟩) 1 1)).run Tryd.prog w = .ok (.string (kstr [UInt8.ofNat x])) w := by
  rw [run_convert_bytes_arg w 30 5 underB (by kernel_rfl) g 0 1 1 [(x : Int)] (by simp) (fun i hi => by
    obtain rfl : i = 0 := by simpa using hi
    simpa using hc) 9 (by kernel_rfl)]
  congr 2
theorem sha_none : sha [] = [227, 176, 196, 66, 152, 252, 28, 20, 154, 251, 244, 200, 153, 111, 185, 36, 39, 174, 65, 228, 100, 155, 147, 76, 164, 149, 153, 27, 120, 82, 184, 85] := by decide +kernel
def t56 : List UInt8 := [97, 98, 99, 100, 98, 99, 100, 101, 99, 100, 101, 102, 100, 101, 102, 103, 101, 102, 103, 104, 102, 103, 104, 105, 103, 104, 105, 106, 104, 105, 106, 107, 105, 106, 107, 108, 106, 107, 108, 109, 107, 108, 109, 110, 108, 109, 110, 111, 109, 110, 111, 112, 110, 111, 112, 113]
def two : List UInt8 := [36, 141, 106, 97, 210, 6, 56, 184, 229, 192, 38, 147, 12, 62, 96, 57, 163, 60, 228, 89, 100, 255, 33, 103, 246, 236, 237, 212, 25, 219, 6, 193]
theorem sha_two : sha t56 = two := by decide +kernel
/-- a row of a thousand letters of which the first ones are written -/
def aL (t : Nat) : List UInt8 := List.replicate t 97 ++ List.replicate (1000 - t) 0
theorem aL_length (t : Nat) (h : t ≤ 1000) : (aL t).length = 1000 := by simp [aL]; omega
theorem aL_set (t : Nat) (h : t < 1000) : (aL t).set t 97 = aL (t + 1) := by
  unfold aL
  obtain ⟨k, hk⟩ : ∃ k, 1000 - t = k + 1 := ⟨999 - t, by omega⟩
  rw [hk, show 1000 - (t + 1) = k by omega, List.set_append_right _ _ (by simp), List.length_replicate, Nat.sub_self, List.replicate_succ, List.set_cons_zero, List.replicate_succ', List.append_assoc]
  rfl
theorem ocells_set2 (l : List UInt8) (i : Nat) (x : UInt8) : (ocells l).setIfInBounds i (bcell x) = ocells (l.set i x) := by
  unfold ocells bcells
  rw [List.setIfInBounds_toArray, List.map_set]
theorem src_row {w : World} {g : Nat} {l : List UInt8} {T : TypeId} {fr : Nat × Nat} (h : w.heap[g]? = some (.cells (ocells l) T fr)) (hl : l.length ≤ 1000) : Src w (.slice (some ⟨g, 0, none⟩) l.length l.length) l :=
  ⟨_, l.length, rfl, Nat.le_refl _, by unfold maxLen; omega, (fun h => by cases h), fun _ => ⟨g, 0, rfl, (Array.getElem?_eq_some_iff.1 h).1, fun i hi => by rw [Nat.zero_add]; exact er_cellAt h i _ (by simp [ocells, bcells, bcell, hi])⟩⟩
theorem made_u8 (u : World) : (Instr.makeSlice 30 (.int .i64 1000) (.int .i64 1000)).run Tryd.prog u = .ok (.slice (some ⟨u.heap.size, 0, none⟩) 1000 1000) (u.alloc (.cells (ocells (aL 0)) 5)) := by
  obtain ⟨im, hi1, hi2⟩ := Option.map_eq_some_iff.1 info8
  simp only [Prod.mk.injEq] at hi2
  obtain ⟨hz, hsz, hby⟩ := hi2
  have := run_make (P := Tryd.prog) u 30 5 im (.int .u8 0) underB hi1 hz .i64 .i64 1000 1000 (by decide) (Int.le_refl _) (by rw [hby]; decide) (by decide)
  rw [this, hsz]
  have e : madeCells (Value.int .u8 0).cells ((1000 : Int).toNat * 1) = ocells (aL 0) := by
    apply Array.ext'
    show (madeCells #[Value.int .u8 0] 1000).toList = _
    rw [toList_madeCells_one]
    simp [ocells, bcells, bcell, aL]
  rw [e]
  rfl
theorem Strs.below {w w' : World} {v : Value} {ss : List ByteArray} (h : Strs w v ss) (k : Below w.heap.size w w') : Strs w' v ss := by
  obtain ⟨a, c, h1, h2, h3, h4⟩ := h
  refine ⟨a, c, h1, h2, h3, fun hn => ?_⟩
  obtain ⟨B, off, e, hB, hc⟩ := h4 hn
  exact ⟨B, off, e, Nat.lt_of_lt_of_le hB k.size, fun i hi => (k.cell (p := ⟨B, off + i, none⟩) hB).trans (hc i hi)⟩
def VK3 (n1 n2 : Nat) (ha hn : List UInt8) (sl : Nat) (v : Value) (w : World) : Prop :=
  match sl with
  | 14 => v = .agg (ocells (ha))
  | 15 => Strs w v [⟨#[97]⟩, ⟨#[]⟩, ⟨#[98, 99]⟩]
  | 16 => v = .agg (ocells (ha))
  | 17 => v = .bool false
  | 18 => v = .bool false
  | 19 => v = .agg (ocells (hn))
  | 20 => Strs w v [⟨#[]⟩, ⟨#[]⟩]
  | 21 => v = .agg (ocells (hn))
  | 22 => v = .bool false
  | 23 => v = .bool false
  | 24 => v = .bool false
  | 25 => v = .pointer (some ⟨n1, 0, none⟩)
  | 26 => v = .int .u8 186
  | 27 => v = .bool false
  | 28 => v = .bool false
  | 29 => v = .bool false
  | 30 => v = .pointer (some ⟨n1, 31, none⟩)
  | 31 => v = .int .u8 173
  | 32 => v = .bool false
  | 33 => v = .bool false
  | 34 => v = .bool false
  | 35 => v = .pointer (some ⟨n2, 0, none⟩)
  | 36 => v = .int .u8 227
  | 37 => v = .bool false
  | 38 => v = .bool false
  | 39 => v = .bool false
  | 40 => v = .pointer (some ⟨n2, 31, none⟩)
  | 41 => v = .int .u8 85
  | 42 => v = .bool false
  | 43 => v = .bool false
  | _ => True
theorem VK3_mono (n1 n2 : Nat) (ha hn : List UInt8) (sl : Nat) (v : Value) (w w' : World) (h : VK3 n1 n2 ha hn sl v w) (k : Below w.heap.size w w') : VK3 n1 n2 ha hn sl v w' := by
  unfold VK3 at h ⊢
  split at h
  · exact h
  · exact Strs.below h k
  · exact h
  · exact h
  · exact h
  · exact h
  · exact Strs.below h k
  · exact h
  · exact h
  · exact h
  · exact h
  · exact h
  · exact h
  · exact h
  · exact h
  · exact h
  · exact h
  · exact h
  · exact h
  · exact h
  · exact h
  · exact h
  · exact h
  · exact h
  · exact h
  · exact h
  · exact h
  · exact h
  · exact h
  · exact h
  · trivial

set_option maxHeartbeats 6400000 in
theorem known_any (w : World) (hT : Tab w) (hgs : 0 < w.heap.size) : Calls Tryd.prog 4 #[] w fun e w' => e = .returned (.bool true) ∧ Below w.heap.size w w' := by
  have TK := Bx.mk (TabK.mk hT hgs)
  clear hT hgs
  have ka := er_al (Below.refl w.heap.size w) (.cells #[.string ⟨#[97, 98, 99]⟩] 9)
  have c1 := sum_any (w.alloc (.cells #[.string ⟨#[97, 98, 99]⟩] 9)) _ [⟨#[97, 98, 99]⟩] (strs_one w _ _ rfl) (TK.out.below ka).tab (TK.out.below ka).lt (by simp [cat, sb])
  rw [show cat [⟨#[97, 98, 99]⟩] = abc by simp [cat, sb, abc]] at c1
  obtain ⟨ha, hha⟩ : ∃ l, sha abc = l := ⟨_, rfl⟩
  obtain ⟨hn, hhn⟩ : ∃ l, sha [] = l := ⟨_, rfl⟩
  have HAL := Bx.mk (show ha.length = 32 by rw [← hha]; exact sha_length _)
  have HNL := Bx.mk (show hn.length = 32 by rw [← hhn]; exact sha_length _)
  have EA := Bx.mk (hha.symm.trans sha_abc); have EN := Bx.mk (hhn.symm.trans sha_none)
  have HA := Bx.mk hha; have HNN := Bx.mk hhn
  rw [hha, hv_agg] at c1
  have C1 := Bx.mk c1; have KA := Bx.mk ka
  clear c1 ka hha hhn
  go_enter Tryd.func4, Tryd.ntmps4
  go_wp2_with fail
  refine C1.out.mono ?_
  rintro e w1 ⟨rfl, hb⟩
  have K0 := Bx.mk (KA.out.trans (hb.mono KA.out.size))
  clear hb C1 KA
  go_upto_region 2 with (guard_target =~ wpList _ _ _ (⟨none, _, _, _, _, _⟩ :: _) _ _; refine wpList_store_row rfl 38 (.tmp 1) (.tmp 12) rfl w1.heap.size (ocells (ha)) rfl rfl _ zeros32 (heap_alloc_new _ _) (hsz' HAL.out) (hso' HAL.out) (ocells_one _) ?_; rw [setRow_alloc_new _ _ _ _ _ rfl])
  have x1 := heap_alloc_new w1 (.cells (ocells ha) 38)
  have b1 := er_al (Below.refl w1.heap.size w1) (.cells (ocells ha) 38)
  generalize w1.alloc (.cells (ocells ha) 38) = w2 at x1 b1 ⊢
  obtain ⟨n1, hn1⟩ : ∃ n, n = w1.heap.size := ⟨_, rfl⟩
  rw [← hn1] at x1 ⊢
  have B1 := Bx.mk x1; have K1 := Bx.mk (K0.out.trans (b1.mono K0.out.size))
  clear x1 b1 hn1 K0
  have c2 := sum_any w2 _ [] (strs_nil w2) (TK.out.below K1.out).tab (TK.out.below K1.out).lt (by simp [cat])
  rw [show cat [] = [] from rfl, HNN.out, hv_agg] at c2
  go_wp2_with fail
  refine c2.mono ?_
  clear c2
  rintro e w3 ⟨rfl, hb⟩
  have B1' := Bx.mk ((hb.block _ (Array.getElem?_eq_some_iff.1 B1.out).1).trans B1.out); have K1' := Bx.mk (K1.out.trans (hb.mono K1.out.size))
  clear hb B1 K1
  go_upto_region 3 with (guard_target =~ wpList _ _ _ (⟨none, _, _, _, _, _⟩ :: _) _ _; refine wpList_store_row rfl 38 (.tmp 2) (.tmp 13) rfl w3.heap.size (ocells (hn)) rfl rfl _ zeros32 (heap_alloc_new _ _) (hsz' HNL.out) (hso' HNL.out) (ocells_one _) ?_; rw [setRow_alloc_new _ _ _ _ _ rfl])
  have x2 := heap_alloc_new w3 (.cells (ocells hn) 38)
  have b2 := er_al (Below.refl w3.heap.size w3) (.cells (ocells hn) 38)
  generalize w3.alloc (.cells (ocells hn) 38) = w4 at x2 b2 ⊢
  obtain ⟨n2, hn2⟩ : ∃ n, n = w3.heap.size := ⟨_, rfl⟩
  rw [← hn2] at x2 ⊢
  have B2 := Bx.mk x2; have B1 := Bx.mk ((b2.block _ (Array.getElem?_eq_some_iff.1 B1'.out).1).trans B1'.out); have K2 := Bx.mk (K1'.out.trans (b2.mono K1'.out.size))
  clear x2 b2 hn2 B1' K1'
  have cellA : ∀ (j : Nat) (x : UInt8), ha[j]? = some x → ∀ u, Below w4.heap.size w4 u → u.cell? ⟨n1, j, none⟩ = some (.int .u8 (x.toNat : Int)) := fun j x hx u hu =>
    er_cellAt ((hu.block n1 (Array.getElem?_eq_some_iff.1 B1.out).1).trans B1.out) j _ (by simp [ocells, bcells, bcell, hx])
  have cellN : ∀ (j : Nat) (x : UInt8), hn[j]? = some x → ∀ u, Below w4.heap.size w4 u → u.cell? ⟨n2, j, none⟩ = some (.int .u8 (x.toNat : Int)) := fun j x hx u hu =>
    er_cellAt ((hu.block n2 (Array.getElem?_eq_some_iff.1 B2.out).1).trans B2.out) j _ (by simp [ocells, bcells, bcell, hx])
  have CA0 := Bx.mk (cellA 0 186 (by rw [EA.out]; rfl)); have CA31 := Bx.mk (cellA 31 173 (by rw [EA.out]; rfl)); have CN0 := Bx.mk (cellN 0 227 (by rw [EN.out]; rfl)); have CN31 := Bx.mk (cellN 31 85 (by rw [EN.out]; rfl))
  have qa := fun u => hv_ne u ha ha HAL.out HAL.out
  have qn := fun u => hv_ne u hn hn HNL.out HNL.out
  simp only [bne_self_eq_false, hv_agg] at qa qn
  have HQA := Bx.mk qa; have HQN := Bx.mk qn
  clear cellA cellN qa qn EA EN
  simp only [Act.put]
  refine wp_region_inv (n := 91) (VK3 n1 n2 ha hn) (by kernel_rfl) (by kernel_rfl) rfl (VK3_mono n1 n2 ha hn) ?_ ?_
  · intro oi o hi f u hsame hbel hdep
    have hu := TK.out.below (K2.out.trans (hbel.mono K2.out.size))
    match oi, hi with
    | 0, hi =>
      cases (show some _ = some o from hi)
      have e1 : f.tmps.getD 1 undef = .pointer (some ⟨n1, 0, none⟩) := hsame.slot 1 (fun _ _ h => invB_not (n := 91) (by kernel_rfl) 1 (by kernel_rfl) h)
      clear hdep hsame hi
      exact ⟨wanted_none rfl, shows_row rfl 38 (.tmp 1) rfl n1 e1 (ocells ha) ((hbel.block n1 (Array.getElem?_eq_some_iff.1 B1.out).1).trans B1.out) underH rfl (hsz' HAL.out) rfl⟩
    | 1, hi =>
      cases (show some _ = some o from hi)
      clear hdep hsame hi
      exact ⟨wanted_none rfl, shows_run rfl (.slice (some ⟨u.heap.size, 0, none⟩) 3 3) (w' := u.alloc (.cells #[.string ⟨#[97]⟩, .string ⟨#[]⟩, .string ⟨#[98, 99]⟩] 9)) (by simp only [execOp, Act.eval]; go_simp) (er_al (Below.refl _ _) _) (strs_of u [⟨#[97]⟩, ⟨#[]⟩, ⟨#[98, 99]⟩] _ rfl (by decide))⟩
    | 2, hi =>
      cases (show some _ = some o from hi)
      have e15 : Strs u (f.tmps.getD 15 undef) [⟨#[97]⟩, ⟨#[]⟩, ⟨#[98, 99]⟩] := dep_of (V := (VK3 n1 n2 ha hn)) hdep 1 15 (by kernel_rfl) (by kernel_rfl)
      clear hdep hsame hi
      obtain ⟨vx, hx⟩ : ∃ vx, f.tmps.getD 15 undef = vx := ⟨_, rfl⟩
      rw [hx] at e15
      have c := sum_any u vx [⟨#[97]⟩, ⟨#[]⟩, ⟨#[98, 99]⟩] e15 hu.tab hu.lt (by simp [cat, sb])
      rw [show cat [⟨#[97]⟩, ⟨#[]⟩, ⟨#[98, 99]⟩] = abc by simp [cat, sb, abc], HA.out, hv_agg] at c
      exact ⟨wanted_none rfl, shows_call rfl 13 #[vx] (by simp only [execOp, Act.eval]; go_simp) (c) (fun _ => rfl)⟩
    | 3, hi =>
      cases (show some _ = some o from hi)
      have e14 : f.tmps.getD 14 undef = .agg (ocells (ha)) := dep_of (V := (VK3 n1 n2 ha hn)) hdep 0 14 (by kernel_rfl) (by kernel_rfl)
      have e16 : f.tmps.getD 16 undef = .agg (ocells (ha)) := dep_of (V := (VK3 n1 n2 ha hn)) hdep 2 16 (by kernel_rfl) (by kernel_rfl)
      clear hdep hsame hi
      have q := HQA.out
      exact ⟨wanted_none rfl, shows_run rfl (.bool false) (by simp only [execOp, Act.eval]; go_simp) (Below.refl _ _) rfl⟩
    | 4, hi =>
      cases (show some _ = some o from hi)
      have e17 : f.tmps.getD 17 undef = .bool false := dep_of (V := (VK3 n1 n2 ha hn)) hdep 3 17 (by kernel_rfl) (by kernel_rfl)
      clear hdep hsame hi
      exact ⟨wanted_none rfl, shows_move rfl _ rfl e17⟩
    | 5, hi =>
      cases (show some _ = some o from hi)
      have e2 : f.tmps.getD 2 undef = .pointer (some ⟨n2, 0, none⟩) := hsame.slot 2 (fun _ _ h => invB_not (n := 91) (by kernel_rfl) 2 (by kernel_rfl) h)
      have eg : f.tmps.getD 18 undef = .bool false := dep_of (V := (VK3 n1 n2 ha hn)) hdep 4 18 (by kernel_rfl) (by kernel_rfl)
      clear hdep hsame hi
      exact ⟨wanted_of 4 rfl eg (by kernel_rfl), shows_row rfl 38 (.tmp 2) rfl n2 e2 (ocells hn) ((hbel.block n2 (Array.getElem?_eq_some_iff.1 B2.out).1).trans B2.out) underH rfl (hsz' HNL.out) rfl⟩
    | 6, hi =>
      cases (show some _ = some o from hi)
      have eg : f.tmps.getD 18 undef = .bool false := dep_of (V := (VK3 n1 n2 ha hn)) hdep 4 18 (by kernel_rfl) (by kernel_rfl)
      clear hdep hsame hi
      exact ⟨wanted_of 4 rfl eg (by kernel_rfl), shows_run rfl (.slice (some ⟨u.heap.size, 0, none⟩) 2 2) (w' := u.alloc (.cells #[.string ⟨#[]⟩, .string ⟨#[]⟩] 9)) (by simp only [execOp, Act.eval]; go_simp) (er_al (Below.refl _ _) _) (strs_of u [⟨#[]⟩, ⟨#[]⟩] _ rfl (by decide))⟩
    | 7, hi =>
      cases (show some _ = some o from hi)
      have e20 : Strs u (f.tmps.getD 20 undef) [⟨#[]⟩, ⟨#[]⟩] := dep_of (V := (VK3 n1 n2 ha hn)) hdep 6 20 (by kernel_rfl) (by kernel_rfl)
      have eg : f.tmps.getD 18 undef = .bool false := dep_of (V := (VK3 n1 n2 ha hn)) hdep 4 18 (by kernel_rfl) (by kernel_rfl)
      clear hdep hsame hi
      obtain ⟨vx, hx⟩ : ∃ vx, f.tmps.getD 20 undef = vx := ⟨_, rfl⟩
      rw [hx] at e20
      have c := sum_any u vx [⟨#[]⟩, ⟨#[]⟩] e20 hu.tab hu.lt (by simp [cat, sb])
      rw [show cat [⟨#[]⟩, ⟨#[]⟩] = [] by simp [cat, sb], HNN.out, hv_agg] at c
      exact ⟨wanted_of 4 rfl eg (by kernel_rfl), shows_call rfl 13 #[vx] (by simp only [execOp, Act.eval]; go_simp) (c) (fun _ => rfl)⟩
    | 8, hi =>
      cases (show some _ = some o from hi)
      have e19 : f.tmps.getD 19 undef = .agg (ocells (hn)) := dep_of (V := (VK3 n1 n2 ha hn)) hdep 5 19 (by kernel_rfl) (by kernel_rfl)
      have e21 : f.tmps.getD 21 undef = .agg (ocells (hn)) := dep_of (V := (VK3 n1 n2 ha hn)) hdep 7 21 (by kernel_rfl) (by kernel_rfl)
      have eg : f.tmps.getD 18 undef = .bool false := dep_of (V := (VK3 n1 n2 ha hn)) hdep 4 18 (by kernel_rfl) (by kernel_rfl)
      clear hdep hsame hi
      have q := HQN.out
      exact ⟨wanted_of 4 rfl eg (by kernel_rfl), shows_run rfl (.bool false) (by simp only [execOp, Act.eval]; go_simp) (Below.refl _ _) rfl⟩
    | 9, hi =>
      cases (show some _ = some o from hi)
      have e18 : f.tmps.getD 18 undef = .bool false := dep_of (V := (VK3 n1 n2 ha hn)) hdep 4 18 (by kernel_rfl) (by kernel_rfl)
      have e22 : f.tmps.getD 22 undef = .bool false := dep_of (V := (VK3 n1 n2 ha hn)) hdep 8 22 (by kernel_rfl) (by kernel_rfl)
      clear hdep hsame hi
      exact ⟨wanted_none rfl, shows_run rfl (.bool false) (by simp only [execOp, Act.eval]; go_simp) (Below.refl _ _) rfl⟩
    | 10, hi =>
      cases (show some _ = some o from hi)
      have e23 : f.tmps.getD 23 undef = .bool false := dep_of (V := (VK3 n1 n2 ha hn)) hdep 9 23 (by kernel_rfl) (by kernel_rfl)
      clear hdep hsame hi
      exact ⟨wanted_none rfl, shows_move rfl _ rfl e23⟩
    | 11, hi =>
      cases (show some _ = some o from hi)
      have e1 : f.tmps.getD 1 undef = .pointer (some ⟨n1, 0, none⟩) := hsame.slot 1 (fun _ _ h => invB_not (n := 91) (by kernel_rfl) 1 (by kernel_rfl) h)
      have eg : f.tmps.getD 24 undef = .bool false := dep_of (V := (VK3 n1 n2 ha hn)) hdep 10 24 (by kernel_rfl) (by kernel_rfl)
      clear hdep hsame hi
      exact ⟨wanted_of 10 rfl eg (by kernel_rfl), shows_run rfl (.pointer (some ⟨n1, 0, none⟩)) (by simp only [execOp, Act.eval]; go_simp) (Below.refl _ _) rfl⟩
    | 12, hi =>
      cases (show some _ = some o from hi)
      have e25 : f.tmps.getD 25 undef = .pointer (some ⟨n1, 0, none⟩) := dep_of (V := (VK3 n1 n2 ha hn)) hdep 11 25 (by kernel_rfl) (by kernel_rfl)
      have eg : f.tmps.getD 24 undef = .bool false := dep_of (V := (VK3 n1 n2 ha hn)) hdep 10 24 (by kernel_rfl) (by kernel_rfl)
      clear hdep hsame hi
      have hc := CA0.out u hbel
      exact ⟨wanted_of 10 rfl eg (by kernel_rfl), shows_run rfl (.int .u8 186) (by simp only [execOp, Act.eval]; go_simp) (Below.refl _ _) rfl⟩
    | 13, hi =>
      cases (show some _ = some o from hi)
      have e26 : f.tmps.getD 26 undef = .int .u8 186 := dep_of (V := (VK3 n1 n2 ha hn)) hdep 12 26 (by kernel_rfl) (by kernel_rfl)
      have eg : f.tmps.getD 24 undef = .bool false := dep_of (V := (VK3 n1 n2 ha hn)) hdep 10 24 (by kernel_rfl) (by kernel_rfl)
      clear hdep hsame hi
      exact ⟨wanted_of 10 rfl eg (by kernel_rfl), shows_run rfl (.bool false) (by simp only [execOp, Act.eval]; go_simp) (Below.refl _ _) rfl⟩
    | 14, hi =>
      cases (show some _ = some o from hi)
      have e24 : f.tmps.getD 24 undef = .bool false := dep_of (V := (VK3 n1 n2 ha hn)) hdep 10 24 (by kernel_rfl) (by kernel_rfl)
      have e27 : f.tmps.getD 27 undef = .bool false := dep_of (V := (VK3 n1 n2 ha hn)) hdep 13 27 (by kernel_rfl) (by kernel_rfl)
      clear hdep hsame hi
      exact ⟨wanted_none rfl, shows_run rfl (.bool false) (by simp only [execOp, Act.eval]; go_simp) (Below.refl _ _) rfl⟩
    | 15, hi =>
      cases (show some _ = some o from hi)
      have e28 : f.tmps.getD 28 undef = .bool false := dep_of (V := (VK3 n1 n2 ha hn)) hdep 14 28 (by kernel_rfl) (by kernel_rfl)
      clear hdep hsame hi
      exact ⟨wanted_none rfl, shows_move rfl _ rfl e28⟩
    | 16, hi =>
      cases (show some _ = some o from hi)
      have e1 : f.tmps.getD 1 undef = .pointer (some ⟨n1, 0, none⟩) := hsame.slot 1 (fun _ _ h => invB_not (n := 91) (by kernel_rfl) 1 (by kernel_rfl) h)
      have eg : f.tmps.getD 29 undef = .bool false := dep_of (V := (VK3 n1 n2 ha hn)) hdep 15 29 (by kernel_rfl) (by kernel_rfl)
      clear hdep hsame hi
      exact ⟨wanted_of 15 rfl eg (by kernel_rfl), shows_run rfl (.pointer (some ⟨n1, 31, none⟩)) (by simp only [execOp, Act.eval]; go_simp) (Below.refl _ _) rfl⟩
    | 17, hi =>
      cases (show some _ = some o from hi)
      have e30 : f.tmps.getD 30 undef = .pointer (some ⟨n1, 31, none⟩) := dep_of (V := (VK3 n1 n2 ha hn)) hdep 16 30 (by kernel_rfl) (by kernel_rfl)
      have eg : f.tmps.getD 29 undef = .bool false := dep_of (V := (VK3 n1 n2 ha hn)) hdep 15 29 (by kernel_rfl) (by kernel_rfl)
      clear hdep hsame hi
      have hc := CA31.out u hbel
      exact ⟨wanted_of 15 rfl eg (by kernel_rfl), shows_run rfl (.int .u8 173) (by simp only [execOp, Act.eval]; go_simp) (Below.refl _ _) rfl⟩
    | 18, hi =>
      cases (show some _ = some o from hi)
      have e31 : f.tmps.getD 31 undef = .int .u8 173 := dep_of (V := (VK3 n1 n2 ha hn)) hdep 17 31 (by kernel_rfl) (by kernel_rfl)
      have eg : f.tmps.getD 29 undef = .bool false := dep_of (V := (VK3 n1 n2 ha hn)) hdep 15 29 (by kernel_rfl) (by kernel_rfl)
      clear hdep hsame hi
      exact ⟨wanted_of 15 rfl eg (by kernel_rfl), shows_run rfl (.bool false) (by simp only [execOp, Act.eval]; go_simp) (Below.refl _ _) rfl⟩
    | 19, hi =>
      cases (show some _ = some o from hi)
      have e29 : f.tmps.getD 29 undef = .bool false := dep_of (V := (VK3 n1 n2 ha hn)) hdep 15 29 (by kernel_rfl) (by kernel_rfl)
      have e32 : f.tmps.getD 32 undef = .bool false := dep_of (V := (VK3 n1 n2 ha hn)) hdep 18 32 (by kernel_rfl) (by kernel_rfl)
      clear hdep hsame hi
      exact ⟨wanted_none rfl, shows_run rfl (.bool false) (by simp only [execOp, Act.eval]; go_simp) (Below.refl _ _) rfl⟩
    | 20, hi =>
      cases (show some _ = some o from hi)
      have e33 : f.tmps.getD 33 undef = .bool false := dep_of (V := (VK3 n1 n2 ha hn)) hdep 19 33 (by kernel_rfl) (by kernel_rfl)
      clear hdep hsame hi
      exact ⟨wanted_none rfl, shows_move rfl _ rfl e33⟩
    | 21, hi =>
      cases (show some _ = some o from hi)
      have e2 : f.tmps.getD 2 undef = .pointer (some ⟨n2, 0, none⟩) := hsame.slot 2 (fun _ _ h => invB_not (n := 91) (by kernel_rfl) 2 (by kernel_rfl) h)
      have eg : f.tmps.getD 34 undef = .bool false := dep_of (V := (VK3 n1 n2 ha hn)) hdep 20 34 (by kernel_rfl) (by kernel_rfl)
      clear hdep hsame hi
      exact ⟨wanted_of 20 rfl eg (by kernel_rfl), shows_run rfl (.pointer (some ⟨n2, 0, none⟩)) (by simp only [execOp, Act.eval]; go_simp) (Below.refl _ _) rfl⟩
    | 22, hi =>
      cases (show some _ = some o from hi)
      have e35 : f.tmps.getD 35 undef = .pointer (some ⟨n2, 0, none⟩) := dep_of (V := (VK3 n1 n2 ha hn)) hdep 21 35 (by kernel_rfl) (by kernel_rfl)
      have eg : f.tmps.getD 34 undef = .bool false := dep_of (V := (VK3 n1 n2 ha hn)) hdep 20 34 (by kernel_rfl) (by kernel_rfl)
      clear hdep hsame hi
      have hc := CN0.out u hbel
      exact ⟨wanted_of 20 rfl eg (by kernel_rfl), shows_run rfl (.int .u8 227) (by simp only [execOp, Act.eval]; go_simp) (Below.refl _ _) rfl⟩
    | 23, hi =>
      cases (show some _ = some o from hi)
      have e36 : f.tmps.getD 36 undef = .int .u8 227 := dep_of (V := (VK3 n1 n2 ha hn)) hdep 22 36 (by kernel_rfl) (by kernel_rfl)
      have eg : f.tmps.getD 34 undef = .bool false := dep_of (V := (VK3 n1 n2 ha hn)) hdep 20 34 (by kernel_rfl) (by kernel_rfl)
      clear hdep hsame hi
      exact ⟨wanted_of 20 rfl eg (by kernel_rfl), shows_run rfl (.bool false) (by simp only [execOp, Act.eval]; go_simp) (Below.refl _ _) rfl⟩
    | 24, hi =>
      cases (show some _ = some o from hi)
      have e34 : f.tmps.getD 34 undef = .bool false := dep_of (V := (VK3 n1 n2 ha hn)) hdep 20 34 (by kernel_rfl) (by kernel_rfl)
      have e37 : f.tmps.getD 37 undef = .bool false := dep_of (V := (VK3 n1 n2 ha hn)) hdep 23 37 (by kernel_rfl) (by kernel_rfl)
      clear hdep hsame hi
      exact ⟨wanted_none rfl, shows_run rfl (.bool false) (by simp only [execOp, Act.eval]; go_simp) (Below.refl _ _) rfl⟩
    | 25, hi =>
      cases (show some _ = some o from hi)
      have e38 : f.tmps.getD 38 undef = .bool false := dep_of (V := (VK3 n1 n2 ha hn)) hdep 24 38 (by kernel_rfl) (by kernel_rfl)
      clear hdep hsame hi
      exact ⟨wanted_none rfl, shows_move rfl _ rfl e38⟩
    | 26, hi =>
      cases (show some _ = some o from hi)
      have e2 : f.tmps.getD 2 undef = .pointer (some ⟨n2, 0, none⟩) := hsame.slot 2 (fun _ _ h => invB_not (n := 91) (by kernel_rfl) 2 (by kernel_rfl) h)
      have eg : f.tmps.getD 39 undef = .bool false := dep_of (V := (VK3 n1 n2 ha hn)) hdep 25 39 (by kernel_rfl) (by kernel_rfl)
      clear hdep hsame hi
      exact ⟨wanted_of 25 rfl eg (by kernel_rfl), shows_run rfl (.pointer (some ⟨n2, 31, none⟩)) (by simp only [execOp, Act.eval]; go_simp) (Below.refl _ _) rfl⟩
    | 27, hi =>
      cases (show some _ = some o from hi)
      have e40 : f.tmps.getD 40 undef = .pointer (some ⟨n2, 31, none⟩) := dep_of (V := (VK3 n1 n2 ha hn)) hdep 26 40 (by kernel_rfl) (by kernel_rfl)
      have eg : f.tmps.getD 39 undef = .bool false := dep_of (V := (VK3 n1 n2 ha hn)) hdep 25 39 (by kernel_rfl) (by kernel_rfl)
      clear hdep hsame hi
      have hc := CN31.out u hbel
      exact ⟨wanted_of 25 rfl eg (by kernel_rfl), shows_run rfl (.int .u8 85) (by simp only [execOp, Act.eval]; go_simp) (Below.refl _ _) rfl⟩
    | 28, hi =>
      cases (show some _ = some o from hi)
      have e41 : f.tmps.getD 41 undef = .int .u8 85 := dep_of (V := (VK3 n1 n2 ha hn)) hdep 27 41 (by kernel_rfl) (by kernel_rfl)
      have eg : f.tmps.getD 39 undef = .bool false := dep_of (V := (VK3 n1 n2 ha hn)) hdep 25 39 (by kernel_rfl) (by kernel_rfl)
      clear hdep hsame hi
      exact ⟨wanted_of 25 rfl eg (by kernel_rfl), shows_run rfl (.bool false) (by simp only [execOp, Act.eval]; go_simp) (Below.refl _ _) rfl⟩
    | 29, hi =>
      cases (show some _ = some o from hi)
      have e39 : f.tmps.getD 39 undef = .bool false := dep_of (V := (VK3 n1 n2 ha hn)) hdep 25 39 (by kernel_rfl) (by kernel_rfl)
      have e42 : f.tmps.getD 42 undef = .bool false := dep_of (V := (VK3 n1 n2 ha hn)) hdep 28 42 (by kernel_rfl) (by kernel_rfl)
      clear hdep hsame hi
      exact ⟨wanted_none rfl, shows_run rfl (.bool false) (by simp only [execOp, Act.eval]; go_simp) (Below.refl _ _) rfl⟩
    | n + 30, hi => exact absurd hi (by simp)
  · intro f u hsame hbel hall
    have q14 : f.tmps.getD 14 undef = .agg (ocells (ha)) := hall 0 _ 14 rfl rfl
    obtain ⟨r15, q15⟩ : ∃ r, f.tmps.getD 15 undef = r := ⟨_, rfl⟩
    have s15 := hall 1 _ 15 rfl rfl
    have q16 : f.tmps.getD 16 undef = .agg (ocells (ha)) := hall 2 _ 16 rfl rfl
    have q17 : f.tmps.getD 17 undef = .bool false := hall 3 _ 17 rfl rfl
    have q18 : f.tmps.getD 18 undef = .bool false := hall 4 _ 18 rfl rfl
    have q19 : f.tmps.getD 19 undef = .agg (ocells (hn)) := hall 5 _ 19 rfl rfl
    obtain ⟨r20, q20⟩ : ∃ r, f.tmps.getD 20 undef = r := ⟨_, rfl⟩
    have s20 := hall 6 _ 20 rfl rfl
    have q21 : f.tmps.getD 21 undef = .agg (ocells (hn)) := hall 7 _ 21 rfl rfl
    have q22 : f.tmps.getD 22 undef = .bool false := hall 8 _ 22 rfl rfl
    have q23 : f.tmps.getD 23 undef = .bool false := hall 9 _ 23 rfl rfl
    have q24 : f.tmps.getD 24 undef = .bool false := hall 10 _ 24 rfl rfl
    have q25 : f.tmps.getD 25 undef = .pointer (some ⟨n1, 0, none⟩) := hall 11 _ 25 rfl rfl
    have q26 : f.tmps.getD 26 undef = .int .u8 186 := hall 12 _ 26 rfl rfl
    have q27 : f.tmps.getD 27 undef = .bool false := hall 13 _ 27 rfl rfl
    have q28 : f.tmps.getD 28 undef = .bool false := hall 14 _ 28 rfl rfl
    have q29 : f.tmps.getD 29 undef = .bool false := hall 15 _ 29 rfl rfl
    have q30 : f.tmps.getD 30 undef = .pointer (some ⟨n1, 31, none⟩) := hall 16 _ 30 rfl rfl
    have q31 : f.tmps.getD 31 undef = .int .u8 173 := hall 17 _ 31 rfl rfl
    have q32 : f.tmps.getD 32 undef = .bool false := hall 18 _ 32 rfl rfl
    have q33 : f.tmps.getD 33 undef = .bool false := hall 19 _ 33 rfl rfl
    have q34 : f.tmps.getD 34 undef = .bool false := hall 20 _ 34 rfl rfl
    have q35 : f.tmps.getD 35 undef = .pointer (some ⟨n2, 0, none⟩) := hall 21 _ 35 rfl rfl
    have q36 : f.tmps.getD 36 undef = .int .u8 227 := hall 22 _ 36 rfl rfl
    have q37 : f.tmps.getD 37 undef = .bool false := hall 23 _ 37 rfl rfl
    have q38 : f.tmps.getD 38 undef = .bool false := hall 24 _ 38 rfl rfl
    have q39 : f.tmps.getD 39 undef = .bool false := hall 25 _ 39 rfl rfl
    have q40 : f.tmps.getD 40 undef = .pointer (some ⟨n2, 31, none⟩) := hall 26 _ 40 rfl rfl
    have q41 : f.tmps.getD 41 undef = .int .u8 85 := hall 27 _ 41 rfl rfl
    have q42 : f.tmps.getD 42 undef = .bool false := hall 28 _ 42 rfl rfl
    have q43 : f.tmps.getD 43 undef = .bool false := hall 29 _ 43 rfl rfl
    obtain rfl := frame_eq hsame [(14, .agg (ocells (ha))), (15, r15), (16, .agg (ocells (ha))), (17, .bool false), (18, .bool false), (19, .agg (ocells (hn))), (20, r20), (21, .agg (ocells (hn))), (22, .bool false), (23, .bool false), (24, .bool false), (25, .pointer (some ⟨n1, 0, none⟩)), (26, .int .u8 186), (27, .bool false), (28, .bool false), (29, .bool false), (30, .pointer (some ⟨n1, 31, none⟩)), (31, .int .u8 173), (32, .bool false), (33, .bool false), (34, .bool false), (35, .pointer (some ⟨n2, 0, none⟩)), (36, .int .u8 227), (37, .bool false), (38, .bool false), (39, .bool false), (40, .pointer (some ⟨n2, 31, none⟩)), (41, .int .u8 85), (42, .bool false), (43, .bool false)] (by kernel_rfl) ⟨q14, q15, q16, q17, q18, q19, q20, q21, q22, q23, q24, q25, q26, q27, q28, q29, q30, q31, q32, q33, q34, q35, q36, q37, q38, q39, q40, q41, q42, q43, trivial⟩
    clear hall hsame q14 q15 q16 q17 q18 q19 q20 q21 q22 q23 q24 q25 q26 q27 q28 q29 q30 q31 q32 q33 q34 q35 q36 q37 q38 q39 q40 q41 q42 q43
    simp only [List.foldl, List.setIfInBounds_toArray, List.set_cons_succ, List.set_cons_zero]
    have K3 := Bx.mk (K2.out.trans (hbel.mono K2.out.size))
    clear hbel B1 B2 CA0 CA31 CN0 CN31 HQA HQN K2 s15 s20
    go_wp2_with fail
    go_loopw [3, 4] (fun sv iv wr => ∃ t : Nat, t ≤ 301 ∧ iv = .int .i64 (t : Int) ∧ sv = .string (kstr (kt t)) ∧ Below w.heap.size w wr) (fun _ iv _ => 301 - (intOf iv).toNat)
    case atStart => exact ⟨0, by decide, rfl, rfl, K3.out⟩
    case round =>
      obtain ⟨t, ht, rfl, rfl, hb⟩ := hrel
      have KB := Bx.mk hb
      clear hb K3
      by_cases hlt : t < 301
      · have hln := kt_length t
        have hsn := kt_succ t
        have hx : t * 7 % 256 < 256 := Nat.mod_lt _ (by decide)
        have hw : IntKind.u8.wrap ((t : Int) * 7) = ((t * 7 % 256 : Nat) : Int) := by simp [IntKind.wrap, IntKind.bits, IntKind.signed]
        generalize t * 7 % 256 = x at hsn hx hw
        obtain ⟨L, hL⟩ : ∃ L, L = kt t := ⟨_, rfl⟩
        rw [← hL] at hln hsn ⊢
        have k1 := er_al (Below.refl wr.heap.size wr) (.cells #[.string (kstr L)] 9)
        have c1 := sum_any (wr.alloc (.cells #[.string (kstr L)] 9)) _ [kstr L] (strs_one wr _ _ rfl) ((TK.out.below KB.out).below k1).tab ((TK.out.below KB.out).below k1).lt (by simp [cat, sb_kstr, hln]; omega)
        rw [show cat [kstr L] = L by simp [cat, sb_kstr]] at c1
        have c2 := fun u => rsum_any u (kstr L) (by rw [kstr_size, hln]; omega)
        rw [sb_kstr] at c2
        have hh := sha_length L
        generalize sha L = h at c1 c2 hh
        have q := fun u => hv_ne u h h hh hh
        simp only [bne_self_eq_false, hv_agg] at q
        rw [hv_agg] at c1
        simp only [hv_agg] at c2
        have hadd := fun u => run_string_add_sum (P := Tryd.prog) u (kstr L) (kstr [UInt8.ofNat x]) (by rw [kstr_size, kstr_size, hln]; simp; omega)
        rw [kstr_app, ← hsn] at hadd
        generalize hz : kstr L = z at c1 c2 hadd k1 ⊢
        generalize hz2 : kstr (kt (t + 1)) = z2 at hadd
        have C1 := Bx.mk c1; have C2 := Bx.mk c2; have KK := Bx.mk k1; have HZ2 := Bx.mk hz2; have HX := Bx.mk hx
        clear c1 c2 k1 hz hz2 hL hln hsn hh hx
        go_wp2_with fail
        refine C1.out.mono ?_
        rintro e w1 ⟨rfl, hb⟩
        have K4 := Bx.mk (KB.out.trans ((KK.out.trans (hb.mono KK.out.size)).mono KB.out.size))
        clear hb C1 KK
        go_wp2_with fail
        refine (C2.out w1).mono ?_
        rintro e w2 ⟨rfl, hb⟩
        have K5 := Bx.mk (K4.out.trans (hb.mono K4.out.size))
        have bs := byte_str (w2.alloc (.cells #[.int .u8 (x : Int)] 5)) x HX.out w2.heap.size (er_cellAt (heap_alloc_new _ _) 0 _ rfl)
        clear hb C2 K4
        go_wp2_with fail
        go_roundw
        case rel => exact ⟨t + 1, by omega, by go_num, by rw [HZ2.out], K5.out.alloc K5.out.size _⟩
        case measure => simp [intOf]; omega
      · obtain rfl : t = 301 := by omega
        clear hlt ht
        generalize kstr (kt 301) = z
        have k1 := er_al (Below.refl wr.heap.size wr) (.cells #[.string ⟨#[97, 98, 99, 100, 98, 99, 100, 101, 99, 100, 101, 102, 100, 101, 102, 103, 101, 102, 103, 104, 102, 103, 104, 105, 103, 104, 105, 106, 104, 105, 106, 107, 105, 106, 107, 108, 106, 107, 108, 109, 107, 108, 109, 110, 108, 109, 110, 111, 109, 110, 111, 112, 110, 111, 112, 113]⟩] 9)
        have c1 := sum_any (wr.alloc (.cells #[.string ⟨#[97, 98, 99, 100, 98, 99, 100, 101, 99, 100, 101, 102, 100, 101, 102, 103, 101, 102, 103, 104, 102, 103, 104, 105, 103, 104, 105, 106, 104, 105, 106, 107, 105, 106, 107, 108, 106, 107, 108, 109, 107, 108, 109, 110, 108, 109, 110, 111, 109, 110, 111, 112, 110, 111, 112, 113]⟩] 9)) _ [⟨#[97, 98, 99, 100, 98, 99, 100, 101, 99, 100, 101, 102, 100, 101, 102, 103, 101, 102, 103, 104, 102, 103, 104, 105, 103, 104, 105, 106, 104, 105, 106, 107, 105, 106, 107, 108, 106, 107, 108, 109, 107, 108, 109, 110, 108, 109, 110, 111, 109, 110, 111, 112, 110, 111, 112, 113]⟩] (strs_one wr _ _ rfl) ((TK.out.below KB.out).below k1).tab ((TK.out.below KB.out).below k1).lt (by simp [cat, sb])
        rw [show cat [⟨#[97, 98, 99, 100, 98, 99, 100, 101, 99, 100, 101, 102, 100, 101, 102, 103, 101, 102, 103, 104, 102, 103, 104, 105, 103, 104, 105, 106, 104, 105, 106, 107, 105, 106, 107, 108, 106, 107, 108, 109, 107, 108, 109, 110, 108, 109, 110, 111, 109, 110, 111, 112, 110, 111, 112, 113]⟩] = t56 by simp [cat, sb, t56], sha_two, hv_agg] at c1
        have C1 := Bx.mk c1; have KK := Bx.mk k1
        clear c1 k1
        have TWL := Bx.mk (show two.length = 32 from rfl)
        go_wp2_with fail
        refine C1.out.mono ?_
        rintro e w1 ⟨rfl, hb⟩
        have K4 := Bx.mk (KB.out.trans ((KK.out.trans (hb.mono KK.out.size)).mono KB.out.size))
        clear hb C1 KK
        go_upto_region 13 with (guard_target =~ wpList _ _ _ (⟨none, _, _, _, _, _⟩ :: _) _ _; refine wpList_store_row rfl 38 (.tmp 5) (.tmp 62) rfl w1.heap.size (ocells (two)) rfl rfl _ zeros32 (heap_alloc_new _ _) (hsz' TWL.out) (hso' TWL.out) (ocells_one _) ?_; rw [setRow_alloc_new _ _ _ _ _ rfl])
        have x5 := heap_alloc_new w1 (.cells (ocells two) 38)
        have b5 := er_al (Below.refl w1.heap.size w1) (.cells (ocells two) 38)
        generalize w1.alloc (.cells (ocells two) 38) = w2 at x5 b5 ⊢
        obtain ⟨n5, hn5⟩ : ∃ n, n = w1.heap.size := ⟨_, rfl⟩
        rw [← hn5] at x5 ⊢
        have B5 := Bx.mk x5; have K5 := Bx.mk (K4.out.trans (b5.mono K4.out.size))
        clear x5 b5 hn5 K4
        go_wp2_with fail
        refine (newP w2).mono ?_
        rintro e w3 ⟨p, S, rfl, hd, hb⟩
        obtain ⟨base, hbase⟩ : ∃ b, b = w2.heap.size := ⟨_, rfl⟩
        rw [← hbase] at hd
        have N5 := Bx.mk (show n5 < base by rw [hbase]; exact (Array.getElem?_eq_some_iff.1 B5.out).1)
        have GT := Bx.mk (show 0 < base ∧ w.heap.size ≤ base by rw [hbase]; exact ⟨(TK.out.below K5.out).lt, K5.out.size⟩)
        have SZ := Bx.mk (show base ≤ w3.heap.size by rw [hbase]; exact hb.size)
        have D6 := Bx.mk hd; have B6 := Bx.mk ((hb.block _ (Array.getElem?_eq_some_iff.1 B5.out).1).trans B5.out); have K6 := Bx.mk (K5.out.trans (hb.mono K5.out.size))
        clear hd hb hbase B5 K5
        have mk := made_u8 w3
        have xg := heap_alloc_new w3 (.cells (ocells (aL 0)) 5)
        have bg := er_al (Below.refl w3.heap.size w3) (.cells (ocells (aL 0)) 5)
        go_upto_region 15 with (fail)
        clear mk
        generalize w3.alloc (.cells (ocells (aL 0)) 5) = w4 at xg bg ⊢
        obtain ⟨g, hg⟩ : ∃ g, g = w3.heap.size := ⟨_, rfl⟩
        rw [← hg] at xg ⊢
        have NG := Bx.mk (show base ≤ g ∧ (∀ k, S k → k < g) by rw [hg]; exact ⟨SZ.out, fun k hk => D6.out.lt k hk⟩)
        have XG := Bx.mk xg; have D7 := Bx.mk (D6.out.below bg); have B7 := Bx.mk ((bg.block _ (Array.getElem?_eq_some_iff.1 B6.out).1).trans B6.out); have K7 := Bx.mk (K6.out.trans (bg.mono K6.out.size))
        clear xg bg hg D6 B6 K6
        go_wp2_with fail
        go_loopw [8] (fun iv wr => ∃ t : Nat, t ≤ 1000 ∧ iv = .int .i64 (t : Int) ∧ wr.heap[g]? = some (.cells (ocells (aL t)) 5 (0, 0)) ∧ Keep (fun k => k = g) w4 wr) (fun iv _ => 1000 - (intOf iv).toNat)
        case atStart => exact ⟨0, by decide, rfl, XG.out, Keep.refl _ _⟩
        case round =>
          obtain ⟨t, ht, rfl, hx, hk⟩ := hrel
          have HX := Bx.mk hx; have HK := Bx.mk hk
          clear hk XG
          by_cases hlt : t < 1000
          · have hc := er_cellAt hx t (.int .u8 ((aL t)[t]'(by rw [aL_length t ht]; exact hlt)).toNat) (by simp [ocells, bcells, bcell, aL_length t ht, hlt])
            have hf : wr.frozen? ⟨g, t, none⟩ = false := by simp [World.frozen?, hx]
            have hgl := (Array.getElem?_eq_some_iff.1 hx).1
            have x1 : (wr.setCell ⟨g, t, none⟩ (.int .u8 97)).heap[g]? = some (.cells (ocells (aL (t + 1))) 5 (0, 0)) := by
              rw [← aL_set t hlt, ← ocells_set2]
              simp [World.setCell, Array.getElem?_modify, HX.out, bcell]
            have X1 := Bx.mk x1
            generalize ((aL t)[t]'(by rw [aL_length t ht]; exact hlt)).toNat = c at hc
            clear x1 hx
            go_wp2_with fail
            go_roundw
            case rel => exact ⟨t + 1, hlt, by go_num, X1.out, HK.out.trans (Keep.setCell wr ⟨g, t, none⟩ _) (fun _ _ h => h)⟩
            case measure => simp [intOf]; omega
          · obtain rfl : t = 1000 := by omega
            have D8 := Bx.mk (D7.out.kept HK.out (fun j hj e => by have := NG.out.2 j hj; omega))
            have B8 := Bx.mk ((HK.out.block n5 (Array.getElem?_eq_some_iff.1 B7.out).1 (by have := NG.out.1; have := N5.out; omega)).trans B7.out)
            have K8 := Bx.mk (K7.out.trans (HK.out.below K7.out.size (fun k hk => by have := NG.out.1; have := GT.out.2; omega)))
            have SG := Bx.mk (show ¬ S g from fun h => by have := NG.out.2 g h; omega)
            clear hx hlt ht D7 B7 K7 HK
            go_wp2_with fail
            go_loopw [9] (fun iv wr => ∃ (t : Nat) (S : Nat → Prop), t ≤ 1000 ∧ iv = .int .i64 (t : Int) ∧ DigP base wr p (List.replicate (1000 * t) 97) S ∧ ¬ S g ∧ wr.heap[g]? = some (.cells (ocells (aL 1000)) 5 (0, 0)) ∧ wr.heap[n5]? = some (.cells (ocells two) 38 (0, 0)) ∧ base ≤ wr.heap.size ∧ Below w.heap.size w wr) (fun iv _ => 1000 - (intOf iv).toNat)
            case atStart => exact ⟨0, S, by decide, rfl, D8.out, SG.out, HX.out, B8.out, by have := NG.out.1; have := (Array.getElem?_eq_some_iff.1 HX.out).1; omega, K8.out⟩
            case round =>
              obtain ⟨t, S2, ht, rfl, hd, hsg, hx, h5, hsz, hb⟩ := hrel
              have D9 := Bx.mk hd; have X9 := Bx.mk hx; have B9 := Bx.mk h5; have K9 := Bx.mk hb; have S9 := Bx.mk hsz; have G9 := Bx.mk hsg
              clear hd hx h5 hb hsz hsg D8 B8 K8 SG HX
              by_cases hlt : t < 1000
              · have hsrc := src_row X9.out (by rw [aL_length _ (by decide)]; decide)
                rw [aL_length _ (by decide)] at hsrc
                have hal : aL 1000 = List.replicate 1000 97 := by unfold aL; simp
                have hne : ∀ k, (Value.slice (some ⟨g, 0, none⟩) 1000 1000).ownBlock = some k → ¬ S2 k := fun k hk h => by
                  have e : g = k := by simpa [Value.ownBlock] using hk
                  subst e
                  exact G9.out h
                have hw := writeP base wr p _ _ (aL 1000) S2 D9.out (TK.out.below K9.out).tab GT.out.1 hsrc hne (by rw [List.length_replicate, aL_length _ (by decide)]; omega) S9.out
                clear hne
                rw [hal, List.replicate_append_replicate] at hw
                have HW := Bx.mk hw
                clear hsrc hal hw
                go_wp2_with fail
                refine HW.out.mono ?_
                rintro e wz ⟨rfl, hwr⟩
                obtain ⟨S3, hd3, hs3⟩ := hwr.ex
                have g1 := (Array.getElem?_eq_some_iff.1 X9.out).1
                have D10 := Bx.mk hd3
                have X10 := Bx.mk ((hwr.keep.block g g1 G9.out).trans X9.out)
                have B10 := Bx.mk ((hwr.keep.block n5 (Array.getElem?_eq_some_iff.1 B9.out).1 (fun h => by have := D9.out.ge n5 h; have := N5.out; omega)).trans B9.out)
                have K10 := Bx.mk (K9.out.trans (hwr.keep.below K9.out.size (fun k hk => by have := D9.out.ge k hk; have := GT.out.2; omega)))
                have S10 := Bx.mk (Nat.le_trans S9.out hwr.keep.size)
                have G10 := Bx.mk (show ¬ S3 g from fun h => by
                  rcases hs3 g h with h | h
                  · exact G9.out h
                  · omega)
                clear hwr hd3 hs3 g1 HW
                go_wp2_with fail
                go_roundw
                case rel => refine ⟨.int .i64 ((t : Int) + 1), _, _, _, _, _, _, _, ⟨t + 1, S3, hlt, by go_num, by rw [show 1000 * (t + 1) = 1000 * t + 1000 by omega]; exact D10.out, G10.out, X10.out, B10.out, S10.out, K10.out⟩, rfl⟩
                case measure => simp [intOf]; omega
              · obtain rfl : t = 1000 := by omega
                have hds := dsumP base wr p _ S2 D9.out (TK.out.below K9.out).tab (TK.out.below K9.out).lt (by rw [List.length_replicate]; decide)
                rw [show List.replicate (1000 * 1000) (97 : UInt8) = million from rfl, sha_million, hv_agg] at hds
                have HDS := Bx.mk hds
                have MIL := Bx.mk (show millionH.length = 32 from rfl)
                clear hds hlt ht
                go_wp2_with fail
                refine HDS.out.mono ?_
                rintro e wz ⟨rfl, hb⟩
                have B10 := Bx.mk ((hb.block n5 (Array.getElem?_eq_some_iff.1 B9.out).1).trans B9.out)
                have K10 := Bx.mk (K9.out.trans (hb.mono K9.out.size))
                clear hb HDS B9 K9 D9 X9
                go_upto_region 24 with (guard_target =~ wpList _ _ _ (⟨none, _, _, _, _, _⟩ :: _) _ _; refine wpList_store_row rfl 38 (.tmp 10) (.tmp 82) rfl wz.heap.size (ocells (millionH)) rfl rfl _ zeros32 (heap_alloc_new _ _) (hsz' MIL.out) (hso' MIL.out) (ocells_one _) ?_; rw [setRow_alloc_new _ _ _ _ _ rfl])
                have xm := heap_alloc_new wz (.cells (ocells millionH) 38)
                have bm := er_al (Below.refl wz.heap.size wz) (.cells (ocells millionH) 38)
                generalize wz.alloc (.cells (ocells millionH) 38) = wy at xm bm ⊢
                generalize wz.heap.size = nm at xm ⊢
                have XM := Bx.mk xm; have K11 := Bx.mk (K10.out.trans (bm.mono K10.out.size)); have B11 := Bx.mk ((bm.block n5 (Array.getElem?_eq_some_iff.1 B10.out).1).trans B10.out)
                clear xm bm
                have q1 : ∀ u : World, (binOp .eql 38 (.agg (ocells two)) (.agg #[.int .u8 36, .int .u8 141, .int .u8 106, .int .u8 97, .int .u8 210, .int .u8 6, .int .u8 56, .int .u8 184, .int .u8 229, .int .u8 192, .int .u8 38, .int .u8 147, .int .u8 12, .int .u8 62, .int .u8 96, .int .u8 57, .int .u8 163, .int .u8 60, .int .u8 228, .int .u8 89, .int .u8 100, .int .u8 255, .int .u8 33, .int .u8 103, .int .u8 246, .int .u8 236, .int .u8 237, .int .u8 212, .int .u8 25, .int .u8 219, .int .u8 6, .int .u8 193])).run Tryd.prog u = .ok (.bool true) u := fun u => (hv_eq u two two rfl rfl).trans (by simp)
                have q2 : ∀ u : World, (binOp .eql 38 (.agg (ocells millionH)) (.agg #[.int .u8 205, .int .u8 199, .int .u8 110, .int .u8 92, .int .u8 153, .int .u8 20, .int .u8 251, .int .u8 146, .int .u8 129, .int .u8 161, .int .u8 199, .int .u8 226, .int .u8 132, .int .u8 215, .int .u8 62, .int .u8 103, .int .u8 241, .int .u8 128, .int .u8 154, .int .u8 72, .int .u8 164, .int .u8 151, .int .u8 32, .int .u8 14, .int .u8 4, .int .u8 109, .int .u8 57, .int .u8 204, .int .u8 199, .int .u8 17, .int .u8 44, .int .u8 208])).run Tryd.prog u = .ok (.bool true) u := fun u => (hv_eq u millionH millionH rfl rfl).trans (by simp)
                have TWL := Bx.mk (show two.length = 32 from rfl)
                generalize two = tw at *
                generalize millionH = ml at *
                go_wp2_with (first
                  | (guard_target =~ wpList _ _ _ (⟨some 83, _, _, _, _, _⟩ :: _) _ _; refine wpList_load_row_wk (by simp [Region.wanted]) 38 (.tmp 5) rfl n5 rfl _ _ _ _ B11.out underH rfl (hsz' TWL.out) ?_)
                  | (guard_target =~ wpList _ _ _ (⟨some 87, _, _, _, _, _⟩ :: _) _ _; refine wpList_load_row_wk (by simp [Region.wanted, yielded]) 38 (.tmp 10) rfl nm rfl _ _ _ _ XM.out underH rfl (hsz' MIL.out) ?_))
                exact bodyPost_ret (results_tmp rfl _ _ _) rfl ⟨rfl, K11.out⟩
end Go.Proofs.YtfoknhogclfhhaaDoor
