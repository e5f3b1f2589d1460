/- cartularylaw09.CompactRoot walked. -/
import Derived.Test.YtgbafjmklefoiaaDoorCpG
import Derived.Test.YtgbafjmklefoiaaDoorCpK
import Derived.Test.YtgbafjmklefoiaaDoorCpN
import Derived.Test.YtgbafjmklefoiaaDoorCpL
namespace Go.Proofs.YtgbafjmklefoiaaDoor
set_option maxRecDepth 100000
open Go.RowKit
theorem wpList_load_mid_wC {P : Program} {ops : Array Oper} {rest : List Oper} {o : Oper} {a : Act} {w : World} {Q : Exit → Act → World → Prop} (hw : Region.wanted o (yielded ops a.tmps) = true) (ty : TypeId) (x : Operand) (ho : o.op = .load ty x)
    (b q : Nat) (hx : a.eval x = .pointer (some ⟨b, q, none⟩)) (cs : List Value) (d : TypeDesc) (hc : w.rangeAt b q cs)
    (hu : P.underlying ty = some d) (hd : d.isRow = true) (hi : (P.info? ty).map (·.size) = some cs.length)
    (h : wpList P ops Q rest (a.put o.dst (.agg cs.toArray)) w) : wpList P ops Q (o :: rest) a w :=
  wpList_step fun K hK => by rw [if_pos hw]; exact wp_load_mid ty x ho b q hx cs d hc hu hd hi (hK _ _ h)
theorem tile_leC : ∀ {l : List (Nat × Nat)} {b e : Nat}, Tile b e l → b ≤ e
  | [], _, _, h => Nat.le_of_eq h
  | x :: l, b, e, h => by have := tile_leC h.2.2; have := Nat.two_pow_pos x.1; omega
theorem tile_memC : ∀ {l : List (Nat × Nat)} {b e : Nat}, Tile b e l → ∀ x ∈ l, x.1 ≤ 63 ∧ x.2 * 2 ^ x.1 + 2 ^ x.1 ≤ e
  | [], _, _, _, x, hx => by cases hx
  | y :: l, b, e, h, x, hx => by
    rcases List.mem_cons.1 hx with rfl | hx
    · have h3 := tile_leC h.2.2
      have h2 := h.2.1
      exact ⟨h.1, by omega⟩
    · exact tile_memC h.2.2 x hx
theorem cover_inC {b e : Nat} (h : b ≤ e) (he : e ≤ 2 ^ 63) {x : Nat × Nat} (hx : x ∈ coverN b e) : x.1 ≤ 63 ∧ x.2 * 2 ^ x.1 + 2 ^ x.1 ≤ e := tile_memC (cover_tile (e - b) (Nat.le_refl _) h he) x hx
theorem may_inC {L I e : Nat} (hL : L ≤ 63) (h : I * 2 ^ L + 2 ^ L ≤ e) (he : e ≤ 2 ^ 63) : mayB L I = true ∧ spB L I = I * 2 ^ L ∧ spE L I = I * 2 ^ L + 2 ^ L := by
  have hm : mayB L I = true := by
    unfold mayB
    rw [decide_eq_true_iff]
    refine ⟨hL, ?_⟩
    have h1 : (I + 1) * 2 ^ L ≤ 2 ^ (63 - L) * 2 ^ L := by rw [← Nat.pow_add, show 63 - L + L = 63 by omega, Nat.add_mul, Nat.one_mul]; omega
    have := Nat.le_of_mul_le_mul_right h1 (Nat.two_pow_pos L)
    omega
  refine ⟨hm, ?_, ?_⟩
  · unfold spB; rw [if_pos hm]
  · unfold spE; rw [if_pos hm, Nat.add_mul, Nat.one_mul]
/-- the leaves as a function -/
def fnC (l : List (List UInt8)) (t : Nat) : List UInt8 := l.getD t zero32'
theorem fnC_get {l : List (List UInt8)} (t : Nat) (h : t < l.length) : l[t] = fnC l t := by unfold fnC; rw [List.getD_eq_getElem?_getD, List.getElem?_eq_getElem h]; rfl
theorem fnC_take {l : List (List UInt8)} {t : Nat} (h : t ≤ l.length) : l.take t = segC (fnC l) 0 t := by
  have h1 : l = segC (fnC l) 0 l.length := segC_of rfl (fun t h => fnC_get t h)
  conv => lhs; rw [h1]
  exact segC_take _ _ h
theorem fnC_cut {l : List (List UInt8)} {b e : Nat} (hb : b ≤ e) (h : e ≤ l.length) : (l.take e).drop b = segC (fnC l) b (e - b) := by
  rw [fnC_take h, segC_drop _ _ hb, Nat.zero_add]
def VO9 (r : Nat) (X : List UInt8) (oi : Nat) (v : Value) (own : Nat → Option Nat) (w : World) : Prop :=
  match oi with
  | 0 => v = .pointer (some ⟨r, 0, none⟩)
  | 1 => v = .tuple #[.agg (ocells (X)), .nilIface]
  | 2 => v = .tuple #[.agg (ocells (X)), .nilIface]
  | 3 => v = .agg (ocells (X))
  | 4 => v = .nilIface
  | 5 => AllocV own w v 6 28 32
  | 6 => StoredV own w 6 28 (ocells (X))
  | 7 => v = .nilIface
  | _ => True
def VO9mk : Nat → Option Nat := fun j => match j with | 6 => some 5 | _ => none
theorem VO9_mono (r : Nat) (X : List UInt8) (oi oj : Nat) (v : Value) (own : Nat → Option Nat) (w : World) (own' : Nat → Option Nat) (w' : World) (hij : oi ≠ oj)   (h : VO9 r X oj v own w) (r1 : Rel VO9mk oi own w own' w') : VO9 r X oj v own' w' := by
  unfold VO9 at h ⊢
  split at h
  · exact h
  · exact h
  · exact h
  · exact h
  · exact h
  · exact h.stable r1 rfl hij
  · exact h.stable r1 hij
  · exact h
  · trivial

def VO10 (ad : Option Addr) (n cap t _g5 : Nat) (X : List UInt8) (oi : Nat) (v : Value) (_own : Nat → Option Nat) (_w : World) : Prop :=
  match oi with
  | 0 => v = .nilIface
  | 1 => v = .bool false
  | 2 => v = .bool false
  | 3 => v = .agg (ocells (X))
  | 4 => v = .slice ad n cap
  | 5 => v = .int .i64 (t : Int)
  | 6 => v = .slice ad t cap
  | 7 => v = .agg (ocells (X))
  | 8 => v = .bool false
  | 9 => v = .bool false
  | _ => True
def VO10mk : Nat → Option Nat := fun _ => none
theorem VO10_mono (ad : Option Addr) (n cap t g5 : Nat) (X : List UInt8) (oi oj : Nat) (v : Value) (own : Nat → Option Nat) (w : World) (own' : Nat → Option Nat) (w' : World) (hij : oi ≠ oj)   (h : VO10 ad n cap t g5 X oj v own w) (_r : Rel VO10mk oi own w own' w') : VO10 ad n cap t g5 X oj v own' w' := by
  unfold VO10 at h ⊢
  split at h
  · exact h
  · exact h
  · exact h
  · exact h
  · exact h
  · exact h
  · exact h
  · exact h
  · exact h
  · exact h
  · trivial

def VO21 (cg m cc j L I0 b e : Nat) (oi : Nat) (v : Value) (own : Nat → Option Nat) (w : World) : Prop :=
  match oi with
  | 0 => v = .slice (some ⟨cg, 0, none⟩) m cc
  | 1 => v = .int .i64 (j : Int)
  | 2 => v = .pointer (some ⟨cg, j * 2, none⟩)
  | 3 => v = .agg #[.int .u8 (L : Int), .int .u64 (I0 : Int)]
  | 4 => v = .tuple #[.agg #[.int .u64 (b : Int), .int .u64 (e : Int)], .bool true]
  | 5 => v = .tuple #[.agg #[.int .u64 (b : Int), .int .u64 (e : Int)], .bool true]
  | 6 => v = .agg #[.int .u64 (b : Int), .int .u64 (e : Int)]
  | 7 => v = .bool true
  | 8 => AllocV own w v 9 39 2
  | 9 => StoredV own w 9 39 #[.int .u64 (b : Int), .int .u64 (e : Int)]
  | 10 => v = .bool true
  | _ => True
def VO21mk : Nat → Option Nat := fun j => match j with | 9 => some 8 | _ => none
theorem VO21_mono (cg m cc j L I0 b e : Nat) (oi oj : Nat) (v : Value) (own : Nat → Option Nat) (w : World) (own' : Nat → Option Nat) (w' : World) (hij : oi ≠ oj)   (h : VO21 cg m cc j L I0 b e oj v own w) (r : Rel VO21mk oi own w own' w') : VO21 cg m cc j L I0 b e oj v own' w' := by
  unfold VO21 at h ⊢
  split at h
  · exact h
  · exact h
  · exact h
  · exact h
  · exact h
  · exact h
  · exact h
  · exact h
  · exact h.stable r rfl hij
  · exact h.stable r hij
  · exact h
  · trivial

def VO22 (Ba off n cap m tc Bq oq j b e g11 : Nat) (X : List UInt8) (oi : Nat) (v : Value) (_own : Nat → Option Nat) (_w : World) : Prop :=
  match oi with
  | 0 => v = .bool true
  | 1 => v = .bool false
  | 2 => v = .bool false
  | 3 => v = .slice (some ⟨Bq, oq, none⟩) m tc
  | 4 => v = .int .i64 (j : Int)
  | 5 => v = .pointer (some ⟨Bq, oq + j * 32, none⟩)
  | 6 => v = .agg (ocells (X))
  | 7 => v = .slice (some ⟨Ba, off, none⟩) n cap
  | 8 => v = .pointer (some ⟨g11, 0, none⟩)
  | 9 => v = .int .u64 (b : Int)
  | 10 => v = .pointer (some ⟨g11, 1, none⟩)
  | 11 => v = .int .u64 (e : Int)
  | 12 => v = .slice (some ⟨Ba, off + b * 32, none⟩) (e - b) (cap - b)
  | 13 => v = .agg (ocells (X))
  | 14 => v = .bool false
  | 15 => v = .bool false
  | _ => True
def VO22mk : Nat → Option Nat := fun _ => none
theorem VO22_mono (Ba off n cap m tc Bq oq j b e g11 : Nat) (X : List UInt8) (oi oj : Nat) (v : Value) (own : Nat → Option Nat) (w : World) (own' : Nat → Option Nat) (w' : World) (hij : oi ≠ oj)   (h : VO22 Ba off n cap m tc Bq oq j b e g11 X oj v own w) (_r : Rel VO22mk oi own w own' w') : VO22 Ba off n cap m tc Bq oq j b e g11 X oj v own' w' := by
  unfold VO22 at h ⊢
  split at h
  · exact h
  · exact h
  · exact h
  · exact h
  · exact h
  · exact h
  · exact h
  · exact h
  · exact h
  · exact h
  · exact h
  · exact h
  · exact h
  · exact h
  · exact h
  · exact h
  · trivial

set_option maxHeartbeats 4000000 in
theorem croot_any (w : World) (ad : Option Addr) (n cap : Nat) (l : List (List UInt8)) (hH : Hss w (.slice ad n cap) l) (hnil : ad = none → cap = 0) (hT : TabS w) (hz : TabZ w) (hg : 4 < w.heap.size) :
    Calls Tryd.prog 3 #[.slice ad n cap] w fun e w' => e = .returned (.bool true) ∧ Below w.heap.size w w' := by
  by_cases h300 : 300 < n
  · have f1 : (300 : Int) < (n : Int) := by omega
    have HT := Bx.mk hT
    clear hH hT hz hg hnil
    go_enter Tryd.func3, Tryd.ntmps3
    go_wp2_with fail
    refine (alive09_any w HT.out).mono ?_
    rintro e u ⟨rfl, hb⟩
    go_wp2_with fail
    go_ret
    exact ⟨rfl, hb⟩
  · have f0 : ¬ (300 : Int) < (n : Int) := by omega
    have hnl : n = l.length := by obtain ⟨_, _, e, _, _⟩ := hH.len; cases e; rfl
    have hcap : n ≤ cap ∧ cap ≤ 9223372036854775807 := by obtain ⟨_, _, e, h1, h2⟩ := hH.len; cases e; exact ⟨h1, h2⟩
    have HL := Bx.mk hnl; have HH := Bx.mk hH; have HT := Bx.mk hT; have HZ := Bx.mk hz; have HG := Bx.mk hg; have HN := Bx.mk hnil; have NL := Bx.mk (show n ≤ 300 by omega); have HC := Bx.mk hcap; have H32 := Bx.mk hH.1
    clear hH hT hz hg hnil hnl hcap h300
    obtain ⟨f, hf⟩ : ∃ f, f = fnC l := ⟨_, rfl⟩
    have FG : Bx (∀ t (h : t < l.length), l[t] = f t) := ⟨fun t h => by rw [hf]; exact fnC_get t h⟩
    have FT : Bx (∀ t, t ≤ l.length → l.take t = segC f 0 t) := ⟨fun t h => by rw [hf]; exact fnC_take h⟩
    have FC : Bx (∀ b e, b ≤ e → e ≤ l.length → (l.take e).drop b = segC f b (e - b)) := ⟨fun b e h1 h2 => by rw [hf]; exact fnC_cut h1 h2⟩
    clear hf
    go_enter Tryd.func3, Tryd.ntmps3
    go_wp2_with fail
    refine (rnew_any w 0).mono ?_
    rintro e W ⟨r, rfl, hR, hb⟩
    have R0 := Bx.mk (show RaP w.heap.size W r 0 (min 0 n) (rowC f 0 (min 0 n)) (.slice none 0 0) by rw [Nat.zero_min, rowC_nil]; exact hR)
    have B0 := Bx.mk hb
    clear hR hb f0
    go_wp2_with fail
    go_loopw [4] (fun iv wr => ∃ t : Nat, t ≤ n + 1 ∧ iv = .int .i64 (t : Int) ∧ ∃ s', RaP w.heap.size wr r 0 (min t n) (rowC f 0 (min t n)) s' ∧ Below w.heap.size w wr) (fun iv _ => n + 1 - (intOf iv).toNat)
    case atStart => exact ⟨0, Nat.zero_le _, rfl, _, R0.out, B0.out⟩
    case round =>
      obtain ⟨t, ht, rfl, s1, hR, hb⟩ := hrel
      have RW := Bx.mk hR; have BW := Bx.mk hb
      clear hR hb R0 B0
      by_cases hlt : t ≤ n
      · have TL := Bx.mk hlt
        have hmt : min t n = t := Nat.min_eq_left hlt
        have rw0 := RW.out
        rw [hmt] at rw0
        have R1 := Bx.mk rw0
        obtain ⟨X, hX⟩ : ∃ X, X = mthC (segC f 0 t) := ⟨_, rfl⟩
        have X32 := Bx.mk (show X.length = 32 by
          rw [hX, ← FT.out t (by rw [← HL.out]; exact hlt)]
          exact mthC_length _ _ (Nat.le_refl _) (fun x hx => H32.out x (List.mem_of_mem_take hx)))
        have CR : Bx (∀ u, Below wr.heap.size wr u → Calls Tryd.prog 9 #[.pointer (some ⟨r, 0, none⟩)] u fun e w' => e = .returned (.tuple #[.agg (ocells X), .nilIface]) ∧ Below u.heap.size u w') := ⟨fun u hu => by
          have c := rroot_any _ u r t _ s1 (R1.out.below hu) (HT.out.below (BW.out.trans (hu.mono BW.out.size))) (Nat.le_trans (rowC_len (by have := NL.out; have := TL.out; omega)) (by decide))
          rwa [root_all f (by have := NL.out; have := TL.out; omega), ← hX, hv_agg] at c⟩
        have CM : Bx (∀ u, Below w.heap.size w u → Calls Tryd.prog 10 #[.slice ad t cap] u fun e w' => e = .returned (.agg (ocells X)) ∧ Below u.heap.size u w') := ⟨fun u hu => by
          have c := mth09_any t u ad t cap (l.take t) (by rw [List.length_take, ← HL.out]; exact Nat.min_eq_left TL.out) (by have := NL.out; have := TL.out; omega) ((HH.out.take t (by rw [← HL.out]; exact TL.out)).below hu) (HT.out.below hu)
          rwa [FT.out t (by rw [← HL.out]; exact TL.out), ← hX, hv_agg] at c⟩
        have fle : (t : Int) ≤ (n : Int) := by omega
        clear hX rw0 RW hlt ht hmt
        go_upto_region 9 with (fail)
        clear fle
        refine wp_region_seq8 (n := 104) VO9mk (fun _ => none) (VO9 r X) (by kernel_rfl) rfl (fun _ _ => rfl) (fun _ _ _ _ h => by cases h) ?_ ?_ ?_
        · exact fun oi oj v own w own' w' hij h r1 => VO9_mono r X oi oj v own w own' w' (by omega)  h r1
        · intro oi o hi f u own hsame hsn hfr hlate hkeep8 hdep
          have hkeep := hkeep8 _ (Nat.le_refl _)
          have hb6 := hsn.below (B := wr.heap.size) (fun _ _ => rfl) (Nat.le_refl _)
          match oi, hi with
          | 0, hi =>
            cases (show some _ = some o from hi)
            have e3 : f.tmps.getD 3 undef = .pointer (some ⟨r, 0, none⟩) := hlate 3 (earlyS (by kernel_rfl))
            clear hdep hsame hi hlate hfr hkeep
            exact .inl ⟨wanted_none rfl, showsO_move hsn rfl _ rfl e3⟩
          | 1, hi =>
            cases (show some _ = some o from hi)
            have e27 : (f.tmps.getD 27 undef) = .pointer (some ⟨r, 0, none⟩) := depS (V := (VO9 r X)) hdep 0 27 (by decide) (by kernel_rfl)
            clear hdep hsame hi hlate hfr hkeep
            have c := CR.out u hb6
            exact .inl ⟨wanted_none rfl, showsO_call1 hsn rfl 9 #[.pointer (some ⟨r, 0, none⟩)] (by simp only [execOp, Act.eval]; go_simp) (c) (fun _ => rfl)⟩
          | 2, hi =>
            cases (show some _ = some o from hi)
            have e28 : (f.tmps.getD 28 undef) = .tuple #[.agg (ocells (X)), .nilIface] := depS (V := (VO9 r X)) hdep 1 28 (by decide) (by kernel_rfl)
            clear hdep hsame hi hlate hfr hkeep
            exact .inl ⟨wanted_none rfl, showsO_move hsn rfl _ rfl e28⟩
          | 3, hi =>
            cases (show some _ = some o from hi)
            have e26 : (f.tmps.getD 26 undef) = .tuple #[.agg (ocells (X)), .nilIface] := depS (V := (VO9 r X)) hdep 2 26 (by decide) (by kernel_rfl)
            clear hdep hsame hi hlate hfr hkeep
            exact .inl ⟨wanted_none rfl, showsO_pure hsn rfl (.agg (ocells (X))) (by simp only [execOp, Act.eval]; go_simp) rfl⟩
          | 4, hi =>
            cases (show some _ = some o from hi)
            have e26 : (f.tmps.getD 26 undef) = .tuple #[.agg (ocells (X)), .nilIface] := depS (V := (VO9 r X)) hdep 2 26 (by decide) (by kernel_rfl)
            clear hdep hsame hi hlate hfr hkeep
            exact .inl ⟨wanted_none rfl, showsO_pure hsn rfl (.nilIface) (by simp only [execOp, Act.eval]; go_simp) rfl⟩
          | 5, hi =>
            cases (show some _ = some o from hi)
            clear hdep hsame hi hlate hkeep
            exact .inl ⟨wanted_none rfl, showsO_alloc hsn hfr rfl zeros32 28 6 rfl (by simp only [execOp, Act.eval]; go_simp; rfl) (fun h => h)⟩
          | 6, hi =>
            cases (show some _ = some o from hi)
            have e5 : AllocV own u (f.tmps.getD 5 undef) 6 28 32 := depS (V := (VO9 r X)) hdep 5 5 (by decide) (by kernel_rfl)
            have e29 : (f.tmps.getD 29 undef) = .agg (ocells (X)) := depS (V := (VO9 r X)) hdep 3 29 (by decide) (by kernel_rfl)
            clear hdep hsame hi hlate hfr hkeep
            exact .inl ⟨wanted_none rfl, showsO_store_alloc hsn rfl 28 (.tmp 5) (.tmp 29) rfl e5 (ocells (X)) e29 (hszL X32.out) (by rw [ocells_size, X32.out]) (ocells_one _) (fun _ h => h)⟩
          | 7, hi =>
            cases (show some _ = some o from hi)
            have e30 : (f.tmps.getD 30 undef) = .nilIface := depS (V := (VO9 r X)) hdep 4 30 (by decide) (by kernel_rfl)
            clear hdep hsame hi hlate hfr hkeep
            exact .inl ⟨wanted_none rfl, showsO_assign hsn rfl _ rfl e30⟩
          | n + 8, hi => exact absurd hi (by simp)
        intro fr u1 own hsame hsn hall
        have q27 : fr.tmps.getD 27 undef = .pointer (some ⟨r, 0, none⟩) := finO (V := (VO9 r X)) hall 0 27 rfl
        have q28 : fr.tmps.getD 28 undef = .tuple #[.agg (ocells (X)), .nilIface] := finO (V := (VO9 r X)) hall 1 28 rfl
        have q26 : fr.tmps.getD 26 undef = .tuple #[.agg (ocells (X)), .nilIface] := finO (V := (VO9 r X)) hall 2 26 rfl
        have q29 : fr.tmps.getD 29 undef = .agg (ocells (X)) := finO (V := (VO9 r X)) hall 3 29 rfl
        have q30 : fr.tmps.getD 30 undef = .nilIface := finO (V := (VO9 r X)) hall 4 30 rfl
        obtain ⟨g5, q5, o5, m5⟩ := AllocV.stored (finO (V := (VO9 r X)) hall 5 5 rfl) (finN (V := (VO9 r X)) hall 6 rfl)
        have q6 : fr.tmps.getD 6 undef = .nilIface := finO (V := (VO9 r X)) hall 7 6 rfl
        obtain rfl := frame_eq hsame [(27, .pointer (some ⟨r, 0, none⟩)), (28, .tuple #[.agg (ocells (X)), .nilIface]), (26, .tuple #[.agg (ocells (X)), .nilIface]), (29, .agg (ocells (X))), (30, .nilIface), (5, .pointer (some ⟨g5, 0, none⟩)), (6, .nilIface)] (by kernel_rfl) ⟨q27, q28, q26, q29, q30, q5, q6, trivial⟩
        clear hall hsame q27 q28 q26 q29 q30 q5 q6
        simp only [List.foldl, List.setIfInBounds_toArray, List.set_cons_succ, List.set_cons_zero]
        have hb := hsn.below (B := wr.heap.size) (fun _ _ => rfl) (Nat.le_refl _)
        have R2 := Bx.mk (R1.out.below hb); have B1 := Bx.mk (BW.out.trans (hb.mono BW.out.size)); have M5 := Bx.mk m5
        clear hb hsn m5 o5 R1 BW CR
        go_upto_region 10 with (fail)
        refine wp_region_own8 (n := 104) VO10mk (fun _ => none) (VO10 ad n cap t g5 X) (by kernel_rfl) (by kernel_rfl) rfl (fun _ _ => rfl) (fun j i hj _ => by cases hj) ?_ ?_ ?_
        · exact fun oi oj v own w own' w' hij _ h r => VO10_mono ad n cap t g5 X oi oj v own w own' w' hij h r
        · intro oi o hi f u own hsame hsn hfr hlate hkeep8 hdep
          have hkeep := hkeep8 _ (.inl rfl)
          have hb6 := hsn.below (B := u1.heap.size) (fun _ _ => rfl) (Nat.le_refl _)
          match oi, hi with
          | 0, hi =>
            cases (show some _ = some o from hi)
            have e6 : f.tmps.getD 6 undef = .nilIface := hsame.slot 6 (fun i o h => invB2_not 6 (by kernel_rfl) h)
            clear hdep hsame hi hlate hfr hkeep
            exact .inl ⟨wanted_none rfl, showsO_move hsn rfl _ rfl e6⟩
          | 1, hi =>
            cases (show some _ = some o from hi)
            have e31 : (f.tmps.getD 31 undef) = .nilIface := depO (V := (VO10 ad n cap t g5 X)) hdep 0 31 (by kernel_rfl) (by kernel_rfl)
            clear hdep hsame hi hlate hfr hkeep
            exact .inl ⟨wanted_none rfl, showsO_pure hsn rfl (.bool false) (by simp only [execOp, Act.eval]; go_simp) rfl⟩
          | 2, hi =>
            cases (show some _ = some o from hi)
            have e32 : (f.tmps.getD 32 undef) = .bool false := depO (V := (VO10 ad n cap t g5 X)) hdep 1 32 (by kernel_rfl) (by kernel_rfl)
            clear hdep hsame hi hlate hfr hkeep
            exact .inl ⟨wanted_none rfl, showsO_move hsn rfl _ rfl e32⟩
          | 3, hi =>
            cases (show some _ = some o from hi)
            have e5 : f.tmps.getD 5 undef = .pointer (some ⟨g5, 0, none⟩) := hsame.slot 5 (fun i o h => invB2_not 5 (by kernel_rfl) h)
            have eg : f.tmps.getD 33 undef = .bool false := depO (V := (VO10 ad n cap t g5 X)) hdep 2 33 (by kernel_rfl) (by kernel_rfl)
            clear hdep hsame hi hlate hfr hkeep
            exact .inl ⟨wanted_of 2 rfl eg (by kernel_rfl), showsO_row hsn rfl 28 (.tmp 5) rfl g5 e5 (ocells (X)) ((hb6.block _ (Array.getElem?_eq_some_iff.1 M5.out).1).trans M5.out) underH rfl (hszL X32.out) rfl⟩
          | 4, hi =>
            cases (show some _ = some o from hi)
            have e0 : f.tmps.getD 0 undef = .slice ad n cap := hsame.slot 0 (fun i o h => invB2_not 0 (by kernel_rfl) h)
            have eg : f.tmps.getD 33 undef = .bool false := depO (V := (VO10 ad n cap t g5 X)) hdep 2 33 (by kernel_rfl) (by kernel_rfl)
            clear hdep hsame hi hlate hfr hkeep
            exact .inl ⟨wanted_of 2 rfl eg (by kernel_rfl), showsO_move hsn rfl _ rfl e0⟩
          | 5, hi =>
            cases (show some _ = some o from hi)
            have e4 : f.tmps.getD 4 undef = .int .i64 (t : Int) := hsame.slot 4 (fun i o h => invB2_not 4 (by kernel_rfl) h)
            have eg : f.tmps.getD 33 undef = .bool false := depO (V := (VO10 ad n cap t g5 X)) hdep 2 33 (by kernel_rfl) (by kernel_rfl)
            clear hdep hsame hi hlate hfr hkeep
            exact .inl ⟨wanted_of 2 rfl eg (by kernel_rfl), showsO_move hsn rfl _ rfl e4⟩
          | 6, hi =>
            cases (show some _ = some o from hi)
            have e35 : (f.tmps.getD 35 undef) = .slice ad n cap := depO (V := (VO10 ad n cap t g5 X)) hdep 4 35 (by kernel_rfl) (by kernel_rfl)
            have e36 : (f.tmps.getD 36 undef) = .int .i64 (t : Int) := depO (V := (VO10 ad n cap t g5 X)) hdep 5 36 (by kernel_rfl) (by kernel_rfl)
            have eg : f.tmps.getD 33 undef = .bool false := depO (V := (VO10 ad n cap t g5 X)) hdep 2 33 (by kernel_rfl) (by kernel_rfl)
            clear hdep hsame hi hlate hfr hkeep
            have h1 : (0 : Int) ≤ (t : Int) := by omega
            have h2 : (t : Int) ≤ (cap : Int) := by have := TL.out; have := HC.out.1; omega
            have hn0 := HN.out
            have hc0 := HC.out.1
            have ht0 := TL.out
            exact .inl ⟨wanted_of 2 rfl eg (by kernel_rfl), showsO_pure hsn rfl (.slice ad t cap) (by
              rcases ad with _ | ad
              · obtain rfl : cap = 0 := hn0 rfl
                obtain rfl : n = 0 := by omega
                obtain rfl : t = 0 := by omega
                simp only [execOp, Act.eval]; go_simp
              · simp only [execOp, Act.eval]; go_simp) rfl⟩
          | 7, hi =>
            cases (show some _ = some o from hi)
            have e37 : (f.tmps.getD 37 undef) = .slice ad t cap := depO (V := (VO10 ad n cap t g5 X)) hdep 6 37 (by kernel_rfl) (by kernel_rfl)
            have eg : f.tmps.getD 33 undef = .bool false := depO (V := (VO10 ad n cap t g5 X)) hdep 2 33 (by kernel_rfl) (by kernel_rfl)
            clear hdep hsame hi hlate hfr hkeep
            have c := CM.out u (B1.out.trans (hb6.mono B1.out.size))
            exact .inl ⟨wanted_of 2 rfl eg (by kernel_rfl), showsO_call1 hsn rfl 10 #[.slice ad t cap] (by simp only [execOp, Act.eval]; go_simp) (c) (fun _ => rfl)⟩
          | 8, hi =>
            cases (show some _ = some o from hi)
            have e34 : (f.tmps.getD 34 undef) = .agg (ocells (X)) := depO (V := (VO10 ad n cap t g5 X)) hdep 3 34 (by kernel_rfl) (by kernel_rfl)
            have e38 : (f.tmps.getD 38 undef) = .agg (ocells (X)) := depO (V := (VO10 ad n cap t g5 X)) hdep 7 38 (by kernel_rfl) (by kernel_rfl)
            have eg : f.tmps.getD 33 undef = .bool false := depO (V := (VO10 ad n cap t g5 X)) hdep 2 33 (by kernel_rfl) (by kernel_rfl)
            clear hdep hsame hi hlate hfr hkeep
            have q := fun u => hv_neq u (X) (X) X32.out X32.out
            simp only [hv_agg, beq_self_eq_true, Bool.not_true] at q
            exact .inl ⟨wanted_of 2 rfl eg (by kernel_rfl), showsO_pure hsn rfl (.bool false) (by simp only [execOp, Act.eval]; go_simp) rfl⟩
          | 9, hi =>
            cases (show some _ = some o from hi)
            have e33 : (f.tmps.getD 33 undef) = .bool false := depO (V := (VO10 ad n cap t g5 X)) hdep 2 33 (by kernel_rfl) (by kernel_rfl)
            have e39 : (f.tmps.getD 39 undef) = .bool false := depO (V := (VO10 ad n cap t g5 X)) hdep 8 39 (by kernel_rfl) (by kernel_rfl)
            clear hdep hsame hi hlate hfr hkeep
            exact .inl ⟨wanted_none rfl, showsO_pure hsn rfl (.bool false) (by simp only [execOp, Act.eval]; go_simp) rfl⟩
          | n + 10, hi => exact absurd hi (by simp)
        intro fr u2 own hsame hsn hall
        have q31 : fr.tmps.getD 31 undef = .nilIface := finO (V := (VO10 ad n cap t g5 X)) hall 0 31 rfl
        have q32 : fr.tmps.getD 32 undef = .bool false := finO (V := (VO10 ad n cap t g5 X)) hall 1 32 rfl
        have q33 : fr.tmps.getD 33 undef = .bool false := finO (V := (VO10 ad n cap t g5 X)) hall 2 33 rfl
        have q34 : fr.tmps.getD 34 undef = .agg (ocells (X)) := finO (V := (VO10 ad n cap t g5 X)) hall 3 34 rfl
        have q35 : fr.tmps.getD 35 undef = .slice ad n cap := finO (V := (VO10 ad n cap t g5 X)) hall 4 35 rfl
        have q36 : fr.tmps.getD 36 undef = .int .i64 (t : Int) := finO (V := (VO10 ad n cap t g5 X)) hall 5 36 rfl
        have q37 : fr.tmps.getD 37 undef = .slice ad t cap := finO (V := (VO10 ad n cap t g5 X)) hall 6 37 rfl
        have q38 : fr.tmps.getD 38 undef = .agg (ocells (X)) := finO (V := (VO10 ad n cap t g5 X)) hall 7 38 rfl
        have q39 : fr.tmps.getD 39 undef = .bool false := finO (V := (VO10 ad n cap t g5 X)) hall 8 39 rfl
        have q40 : fr.tmps.getD 40 undef = .bool false := finO (V := (VO10 ad n cap t g5 X)) hall 9 40 rfl
        obtain rfl := frame_eq hsame [(31, .nilIface), (32, .bool false), (33, .bool false), (34, .agg (ocells (X))), (35, .slice ad n cap), (36, .int .i64 (t : Int)), (37, .slice ad t cap), (38, .agg (ocells (X))), (39, .bool false), (40, .bool false)] (by kernel_rfl) ⟨q31, q32, q33, q34, q35, q36, q37, q38, q39, q40, trivial⟩
        clear hall hsame q31 q32 q33 q34 q35 q36 q37 q38 q39 q40
        simp only [List.foldl, List.setIfInBounds_toArray, List.set_cons_succ, List.set_cons_zero]
        have hb := hsn.below (B := u1.heap.size) (fun _ _ => rfl) (Nat.le_refl _)
        have R3 := Bx.mk (R2.out.below hb); have B2 := Bx.mk (B1.out.trans (hb.mono B1.out.size))
        clear hb hsn R2 B1 M5 CM
        go_upto_region 12 with (fail)
        by_cases hl2 : t < n
        · have TP := Bx.mk (show t < l.length by rw [← HL.out]; exact hl2)
          obtain ⟨-, -, -, Bq, oq, e, hbq, hrq, hyl⟩ := HH.out.at t TP.out
          subst e
          obtain ⟨y, hy⟩ : ∃ y, y = l[t]'(TP.out) := ⟨_, rfl⟩
          rw [← hy] at hrq hyl
          have YL := Bx.mk hyl; have RY := Bx.mk (rangeAt_below hrq hbq B2.out)
          have YF : Bx (y = f t) := ⟨by rw [hy]; exact FG.out t TP.out⟩
          have CA := Bx.mk (rapp_any w.heap.size u2 r 0 t _ s1 R3.out y hyl (fun u hu => HT.out.below (B2.out.trans hu)) B2.out.size (Nat.le_trans (rowC_len (by have := NL.out; omega)) (by decide)) (by have := NL.out; omega))
          have f1 : (t : Int) < (n : Int) := by omega
          have f2 : ¬ (n : Int) ≤ (t : Int) := by omega
          clear hy hrq hbq hyl
          go_wp2_with (guard_target =~ wpList _ _ _ (⟨some 50, _, _, _, _, _⟩ :: _) _ _; refine wpList_load_mid_wC (by simp [Region.wanted, yielded]) 28 (.tmp 49) rfl Bq (oq + t * 32) rfl (bcells y) _ RY.out underH rfl (hszB' YL.out) ?_; change wpList _ _ _ _ (Act.put _ _ (.agg (ocells y))) _)
          refine CA.out.mono ?_
          rintro e u ⟨rfl, s2, hR2, hk2, -⟩
          have R4 := Bx.mk (show RaP w.heap.size u r 0 (min (t + 1) n) (rowC f 0 (min (t + 1) n)) s2 by
            have h1 := push_leaf f (b := 0) (E := t) (by omega) (by have := NL.out; omega)
            rw [YF.out, h1] at hR2
            rw [Nat.min_eq_left (show t + 1 ≤ n by omega)]
            exact hR2)
          have B4 := Bx.mk (B2.out.trans (hk2.below (B := w.heap.size) B2.out.size (fun k hk => R3.out.ge k hk)))
          clear hR2 hk2 CA
          have tl := TL.out
          have nl := NL.out
          go_wp2_with fail
          go_roundw
          case rel => exact ⟨t + 1, by omega, by go_num, s2, R4.out, B4.out⟩
          case measure => have := TL.out; simp [intOf]; omega
        · have f1 : ¬ (t : Int) < (n : Int) := by omega
          have R4 := Bx.mk (show RaP w.heap.size u2 r 0 (min (t + 1) n) (rowC f 0 (min (t + 1) n)) s1 by
            rw [show min (t + 1) n = t by have := TL.out; omega]
            exact R3.out)
          have tl := TL.out
          have nl := NL.out
          go_wp2_with fail
          go_roundw
          case rel => exact ⟨t + 1, by omega, by go_num, s1, R4.out, B2.out⟩
          case measure => have := TL.out; simp [intOf]; omega
      · have rw0 := RW.out
        rw [Nat.min_eq_right (show n ≤ t by omega)] at rw0
        have R1 := Bx.mk rw0
        have fle : ¬ (t : Int) ≤ (n : Int) := by omega
        have d1 : IntKind.u64.wrap (n : Int) = (n : Int) := by have := NL.out; simp [IntKind.wrap, IntKind.bits, IntKind.signed]; omega
        have nl := NL.out
        clear rw0 RW hlt ht
        obtain ⟨m, hm⟩ : ∃ m, m = (coverN 0 n).length := ⟨_, rfl⟩
        have HM := Bx.mk hm
        have ML := Bx.mk (show m ≤ 128 by rw [hm]; exact cover_le (by have := NL.out; omega))
        clear hm
        have c1 := cover_any wr 0 n (Nat.zero_le _) (by have := NL.out; omega) (HZ.out.below HG.out BW.out) (Nat.lt_of_lt_of_le HG.out BW.out.size)
        unfold sv at c1
        have C1 := Bx.mk c1; clear c1
        go_wp2_with fail
        refine C1.out.mono ?_
        rintro e W1 ⟨v7, rfl, hC⟩
        have hco := hC.own
        have hcb := hC.below
        rw [← HM.out] at hco
        obtain ⟨ca, cc, hs6, hc1, hc2, hc3⟩ := own_shape hco
        subst hs6
        have B1 := Bx.mk (BW.out.trans (hcb.mono BW.out.size)); have OC := Bx.mk hco; have R2 := Bx.mk (R1.out.below hcb)
        clear hC hco hcb hc1 hc2 hc3 C1 fle d1 nl R1 BW
        go_wp2_with fail
        refine (rhash_any _ W1 r 0 n _ s1 R2.out (Nat.le_trans (rowC_len (by have := NL.out; omega)) (by decide))).mono ?_
        rintro e W2 ⟨v9, rfl, ho9, hb⟩
        have e9 : (rowC f 0 n).length = m := by rw [HM.out]; unfold rowC; rw [List.length_map]
        rw [e9] at ho9
        obtain ⟨ta, tc, hs9, -, -, -⟩ := own_shape ho9
        subst hs9
        have B2 := Bx.mk (B1.out.trans (hb.mono B1.out.size)); have OC2 := Bx.mk (own_keep OC.out (Keep.of_below hb (fun _ => False)) (fun _ _ h => h))
        have F32 : Bx (∀ x ∈ hsC (rowC f 0 n), x.length = 32) := ⟨hsC_mem R2.out.h32⟩
        have H9 := Bx.mk (hss_own ho9 F32.out (by rw [hsC_len, e9]))
        have E9 := Bx.mk e9
        clear hb ho9 e9 R2 B1 OC
        go_wp2_with fail
        go_loopw [10] (fun iv wr => ∃ j : Nat, j ≤ m ∧ iv = .int .i64 (j : Int) ∧ Below W2.heap.size W2 wr) (fun iv _ => m - (intOf iv).toNat)
        case atStart => exact ⟨0, Nat.zero_le _, rfl, Below.refl _ _⟩
        case round =>
          obtain ⟨j, hj, rfl, hb⟩ := hrel
          have BJ := Bx.mk hb
          clear hb
          by_cases hlt : j < m
          · have JL := Bx.mk hlt
            have JC := Bx.mk (show j < (coverN 0 n).length by rw [← HM.out]; exact hlt)
            obtain ⟨cg, hca⟩ : ∃ g, ca = some ⟨g, 0, none⟩ := by
              rcases Go.Joins.ownsRow_forms OC2.out with ⟨-, h0⟩ | ⟨g, c', h1⟩
              · omega
              · cases h1; exact ⟨g, rfl⟩
            subst hca
            obtain ⟨x, hx⟩ : ∃ x : Nat × Nat, x = (coverN 0 n)[j]'(JC.out) := ⟨_, rfl⟩
            obtain ⟨L, I0⟩ := x
            have hin := cover_inC (Nat.zero_le n) (by have := NL.out; omega) (x := (L, I0)) (by rw [hx]; exact List.getElem_mem _)
            obtain ⟨hm1, hm2, hm3⟩ := may_inC hin.1 hin.2 (by have := NL.out; omega)
            obtain ⟨b, hb0⟩ : ∃ b, b = I0 * 2 ^ L := ⟨_, rfl⟩
            obtain ⟨e, he0⟩ : ∃ e, e = b + 2 ^ L := ⟨_, rfl⟩
            have RX := Bx.mk (show W2.rangeAt cg (j * 2) [.int .u8 (L : Int), .int .u64 (I0 : Int)] by
              have := own_coord OC2.out JC.out HM.out
              rwa [← hx] at this)
            have CB := Bx.mk (show cg < W2.heap.size from ownsRow_lt OC2.out cg rfl)
            obtain ⟨X, hX⟩ : ∃ X, X = trC f L I0 := ⟨_, rfl⟩
            have hE : e ≤ n := by rw [he0, hb0]; exact hin.2
            have hbe : b < e := by have := Nat.two_pow_pos L; omega
            have J9 := Bx.mk (show j < (hsC (rowC f 0 n)).length by rw [hsC_len, E9.out]; exact hlt)
            obtain ⟨-, -, -, Bq, oq, e5, hbq, hrq, hyl⟩ := H9.out.at j J9.out
            subst e5
            have hy : (hsC (rowC f 0 n))[j]'(J9.out) = X := by
              rw [hX]
              unfold hsC rowC
              rw [List.getElem_map, List.getElem_map, ← hx]
            rw [hy] at hrq hyl
            have X32 := Bx.mk hyl; have RY := Bx.mk hrq; have QB := Bx.mk hbq
            have hXm : mthC (segC f b (e - b)) = X := by
              rw [hX, hb0, he0, hb0, show I0 * 2 ^ L + 2 ^ L - I0 * 2 ^ L = 2 ^ L by omega]
              exact mth_tr f L I0
            obtain ⟨Ba, off, had⟩ : ∃ B o, ad = some ⟨B, o, none⟩ := by
              obtain ⟨-, -, -, B, o, e6, -⟩ := HH.out.at 0 (by rw [← HL.out]; omega)
              exact ⟨B, o, e6⟩
            subst had
            have CM : Bx (∀ u, Below w.heap.size w u → Calls Tryd.prog 10 #[.slice (some ⟨Ba, off + b * 32, none⟩) (e - b) (cap - b)] u fun e w' => e = .returned (.agg (ocells X)) ∧ Below u.heap.size u w') := ⟨fun u hu => by
              have h1 := (HH.out.take e (by rw [← HL.out]; exact hE)).dropC b (by rw [List.length_take, ← HL.out]; omega)
              have c := mth09_any (e - b) u _ _ _ _ (by rw [List.length_drop, List.length_take, ← HL.out, Nat.min_eq_left hE]) (by have := NL.out; omega) (h1.below hu) (HT.out.below hu)
              rwa [FC.out b e (Nat.le_of_lt hbe) (by rw [← HL.out]; exact hE), hXm, hv_agg] at c⟩
            have CS : Bx (∀ u, Below W2.heap.size W2 u → Calls Tryd.prog 14 #[.agg #[.int .u8 (L : Int), .int .u64 (I0 : Int)]] u fun e' w' => e' = .returned (.tuple #[.agg #[.int .u64 (b : Int), .int .u64 (e : Int)], .bool true]) ∧ Below u.heap.size u w') := ⟨fun u hu => by
              have c := span_any u L I0
              rw [hm1, hm2, hm3, ← hb0, ← he0] at c
              exact c⟩
            have EN := Bx.mk hE; have BE := Bx.mk hbe
            have f1 : (j : Int) < (m : Int) := by omega
            clear hx hin hm1 hm2 hm3 hb0 he0 hX hy hXm hyl hrq hbq hE hbe hlt hj
            go_upto_region 21 with (fail)
            clear f1
            refine wp_region_seq8 (n := 104) VO21mk (fun _ => none) (VO21 cg m cc j L I0 b e) (by kernel_rfl) rfl (fun _ _ => rfl) (fun _ _ _ _ h => by cases h) ?_ ?_ ?_
            · exact fun oi oj v own w own' w' hij h r => VO21_mono cg m cc j L I0 b e oi oj v own w own' w' (by omega)  h r
            · intro oi o hi f u own hsame hsn hfr hlate hkeep8 hdep
              have hkeep := hkeep8 _ (Nat.le_refl _)
              have hb6 := hsn.below (B := wr.heap.size) (fun _ _ => rfl) (Nat.le_refl _)
              match oi, hi with
              | 0, hi =>
                cases (show some _ = some o from hi)
                have e7 : f.tmps.getD 7 undef = .slice (some ⟨cg, 0, none⟩) m cc := hlate 7 (earlyS (by kernel_rfl))
                clear hdep hsame hi hlate hfr hkeep
                exact .inl ⟨wanted_none rfl, showsO_move hsn rfl _ rfl e7⟩
              | 1, hi =>
                cases (show some _ = some o from hi)
                have e10 : f.tmps.getD 10 undef = .int .i64 (j : Int) := hlate 10 (earlyS (by kernel_rfl))
                clear hdep hsame hi hlate hfr hkeep
                exact .inl ⟨wanted_none rfl, showsO_move hsn rfl _ rfl e10⟩
              | 2, hi =>
                cases (show some _ = some o from hi)
                have e80 : (f.tmps.getD 80 undef) = .slice (some ⟨cg, 0, none⟩) m cc := depS (V := (VO21 cg m cc j L I0 b e)) hdep 0 80 (by decide) (by kernel_rfl)
                have e81 : (f.tmps.getD 81 undef) = .int .i64 (j : Int) := depS (V := (VO21 cg m cc j L I0 b e)) hdep 1 81 (by decide) (by kernel_rfl)
                clear hdep hsame hi hlate hfr hkeep
                have f2 : ¬ (m : Int) ≤ (j : Int) := by have := JL.out; omega
                have f3 : (j : Int) < (m : Int) := by have := JL.out; omega
                exact .inl ⟨wanted_none rfl, showsO_pure hsn rfl (.pointer (some ⟨cg, j * 2, none⟩)) (by simp only [execOp, Act.eval]; go_simp) rfl⟩
              | 3, hi =>
                cases (show some _ = some o from hi)
                have e82 : (f.tmps.getD 82 undef) = .pointer (some ⟨cg, j * 2, none⟩) := depS (V := (VO21 cg m cc j L I0 b e)) hdep 2 82 (by decide) (by kernel_rfl)
                clear hdep hsame hi hlate hfr hkeep
                exact .inl ⟨wanted_none rfl, showsO_mid hsn rfl 44 (.tmp 82) rfl cg (j * 2) e82 [.int .u8 (L : Int), .int .u64 (I0 : Int)] (rangeAt_below RX.out CB.out (BJ.out.trans (hb6.mono BJ.out.size))) Tryd.underlying44 rfl sizeC rfl⟩
              | 4, hi =>
                cases (show some _ = some o from hi)
                have e83 : (f.tmps.getD 83 undef) = .agg #[.int .u8 (L : Int), .int .u64 (I0 : Int)] := depS (V := (VO21 cg m cc j L I0 b e)) hdep 3 83 (by decide) (by kernel_rfl)
                clear hdep hsame hi hlate hfr hkeep
                have c := CS.out u (BJ.out.trans (hb6.mono BJ.out.size))
                exact .inl ⟨wanted_none rfl, showsO_call1 hsn rfl 14 #[.agg #[.int .u8 (L : Int), .int .u64 (I0 : Int)]] (by simp only [execOp, Act.eval]; go_simp) (c) (fun _ => rfl)⟩
              | 5, hi =>
                cases (show some _ = some o from hi)
                have e84 : (f.tmps.getD 84 undef) = .tuple #[.agg #[.int .u64 (b : Int), .int .u64 (e : Int)], .bool true] := depS (V := (VO21 cg m cc j L I0 b e)) hdep 4 84 (by decide) (by kernel_rfl)
                clear hdep hsame hi hlate hfr hkeep
                exact .inl ⟨wanted_none rfl, showsO_move hsn rfl _ rfl e84⟩
              | 6, hi =>
                cases (show some _ = some o from hi)
                have e79 : (f.tmps.getD 79 undef) = .tuple #[.agg #[.int .u64 (b : Int), .int .u64 (e : Int)], .bool true] := depS (V := (VO21 cg m cc j L I0 b e)) hdep 5 79 (by decide) (by kernel_rfl)
                clear hdep hsame hi hlate hfr hkeep
                exact .inl ⟨wanted_none rfl, showsO_pure hsn rfl (.agg #[.int .u64 (b : Int), .int .u64 (e : Int)]) (by simp only [execOp, Act.eval]; go_simp) rfl⟩
              | 7, hi =>
                cases (show some _ = some o from hi)
                have e79 : (f.tmps.getD 79 undef) = .tuple #[.agg #[.int .u64 (b : Int), .int .u64 (e : Int)], .bool true] := depS (V := (VO21 cg m cc j L I0 b e)) hdep 5 79 (by decide) (by kernel_rfl)
                clear hdep hsame hi hlate hfr hkeep
                exact .inl ⟨wanted_none rfl, showsO_pure hsn rfl (.bool true) (by simp only [execOp, Act.eval]; go_simp) rfl⟩
              | 8, hi =>
                cases (show some _ = some o from hi)
                clear hdep hsame hi hlate hkeep
                exact .inl ⟨wanted_none rfl, showsO_alloc hsn hfr rfl #[.int .u64 0, .int .u64 0] 39 9 rfl (by simp only [execOp, Act.eval]; go_simp <;> rfl) (fun h => h)⟩
              | 9, hi =>
                cases (show some _ = some o from hi)
                have e11 : AllocV own u (f.tmps.getD 11 undef) 9 39 2 := depS (V := (VO21 cg m cc j L I0 b e)) hdep 8 11 (by decide) (by kernel_rfl)
                have e85 : (f.tmps.getD 85 undef) = .agg #[.int .u64 (b : Int), .int .u64 (e : Int)] := depS (V := (VO21 cg m cc j L I0 b e)) hdep 6 85 (by decide) (by kernel_rfl)
                clear hdep hsame hi hlate hfr hkeep
                exact .inl ⟨wanted_none rfl, showsO_store_alloc hsn rfl 39 (.tmp 11) (.tmp 85) rfl e11 #[.int .u64 (b : Int), .int .u64 (e : Int)] e85 sizeS rfl (by simp [Value.oneCell']) (fun _ h => h)⟩
              | 10, hi =>
                cases (show some _ = some o from hi)
                have e86 : (f.tmps.getD 86 undef) = .bool true := depS (V := (VO21 cg m cc j L I0 b e)) hdep 7 86 (by decide) (by kernel_rfl)
                clear hdep hsame hi hlate hfr hkeep
                exact .inl ⟨wanted_none rfl, showsO_assign hsn rfl _ rfl e86⟩
              | n + 11, hi => exact absurd hi (by simp)
            intro fr W3 own hsame hsn hall
            have q80 : fr.tmps.getD 80 undef = .slice (some ⟨cg, 0, none⟩) m cc := finO (V := (VO21 cg m cc j L I0 b e)) hall 0 80 rfl
            have q81 : fr.tmps.getD 81 undef = .int .i64 (j : Int) := finO (V := (VO21 cg m cc j L I0 b e)) hall 1 81 rfl
            have q82 : fr.tmps.getD 82 undef = .pointer (some ⟨cg, j * 2, none⟩) := finO (V := (VO21 cg m cc j L I0 b e)) hall 2 82 rfl
            have q83 : fr.tmps.getD 83 undef = .agg #[.int .u8 (L : Int), .int .u64 (I0 : Int)] := finO (V := (VO21 cg m cc j L I0 b e)) hall 3 83 rfl
            have q84 : fr.tmps.getD 84 undef = .tuple #[.agg #[.int .u64 (b : Int), .int .u64 (e : Int)], .bool true] := finO (V := (VO21 cg m cc j L I0 b e)) hall 4 84 rfl
            have q79 : fr.tmps.getD 79 undef = .tuple #[.agg #[.int .u64 (b : Int), .int .u64 (e : Int)], .bool true] := finO (V := (VO21 cg m cc j L I0 b e)) hall 5 79 rfl
            have q85 : fr.tmps.getD 85 undef = .agg #[.int .u64 (b : Int), .int .u64 (e : Int)] := finO (V := (VO21 cg m cc j L I0 b e)) hall 6 85 rfl
            have q86 : fr.tmps.getD 86 undef = .bool true := finO (V := (VO21 cg m cc j L I0 b e)) hall 7 86 rfl
            obtain ⟨g11, q11, o11, m11⟩ := AllocV.stored (finO (V := (VO21 cg m cc j L I0 b e)) hall 8 11 rfl) (finN (V := (VO21 cg m cc j L I0 b e)) hall 9 rfl)
            have q12 : fr.tmps.getD 12 undef = .bool true := finO (V := (VO21 cg m cc j L I0 b e)) hall 10 12 rfl
            obtain rfl := frame_eq hsame [(80, .slice (some ⟨cg, 0, none⟩) m cc), (81, .int .i64 (j : Int)), (82, .pointer (some ⟨cg, j * 2, none⟩)), (83, .agg #[.int .u8 (L : Int), .int .u64 (I0 : Int)]), (84, .tuple #[.agg #[.int .u64 (b : Int), .int .u64 (e : Int)], .bool true]), (79, .tuple #[.agg #[.int .u64 (b : Int), .int .u64 (e : Int)], .bool true]), (85, .agg #[.int .u64 (b : Int), .int .u64 (e : Int)]), (86, .bool true), (11, .pointer (some ⟨g11, 0, none⟩)), (12, .bool true)] (by kernel_rfl) ⟨q80, q81, q82, q83, q84, q79, q85, q86, q11, q12, trivial⟩
            clear hall hsame q80 q81 q82 q83 q84 q79 q85 q86 q11 q12
            simp only [List.foldl, List.setIfInBounds_toArray, List.set_cons_succ, List.set_cons_zero]
            have hb := hsn.below (B := wr.heap.size) (fun _ _ => rfl) (Nat.le_refl _)
            have B3 := Bx.mk (BJ.out.trans (hb.mono BJ.out.size)); have M11 := Bx.mk m11
            clear hb hsn m11 o11 BJ CS
            go_upto_region 22 with (fail)
            refine wp_region_own8 (n := 104) VO22mk (fun _ => none) (VO22 Ba off n cap m tc Bq oq j b e g11 X) (by kernel_rfl) (by kernel_rfl) rfl (fun _ _ => rfl) (fun j i hj _ => by cases hj) ?_ ?_ ?_
            · exact fun oi oj v own w own' w' hij _ h r => VO22_mono Ba off n cap m tc Bq oq j b e g11 X oi oj v own w own' w' hij h r
            · intro oi o hi f u own hsame hsn hfr hlate hkeep8 hdep
              have hkeep := hkeep8 _ (.inl rfl)
              have hb6 := hsn.below (B := W3.heap.size) (fun _ _ => rfl) (Nat.le_refl _)
              match oi, hi with
              | 0, hi =>
                cases (show some _ = some o from hi)
                have e12 : f.tmps.getD 12 undef = .bool true := hsame.slot 12 (fun i o h => invB2_not 12 (by kernel_rfl) h)
                clear hdep hsame hi hlate hfr hkeep
                exact .inl ⟨wanted_none rfl, showsO_move hsn rfl _ rfl e12⟩
              | 1, hi =>
                cases (show some _ = some o from hi)
                have e87 : (f.tmps.getD 87 undef) = .bool true := depO (V := (VO22 Ba off n cap m tc Bq oq j b e g11 X)) hdep 0 87 (by kernel_rfl) (by kernel_rfl)
                clear hdep hsame hi hlate hfr hkeep
                exact .inl ⟨wanted_none rfl, showsO_pure hsn rfl (.bool false) (by simp only [execOp, Act.eval]; go_simp) rfl⟩
              | 2, hi =>
                cases (show some _ = some o from hi)
                have e88 : (f.tmps.getD 88 undef) = .bool false := depO (V := (VO22 Ba off n cap m tc Bq oq j b e g11 X)) hdep 1 88 (by kernel_rfl) (by kernel_rfl)
                clear hdep hsame hi hlate hfr hkeep
                exact .inl ⟨wanted_none rfl, showsO_move hsn rfl _ rfl e88⟩
              | 3, hi =>
                cases (show some _ = some o from hi)
                have e9 : f.tmps.getD 9 undef = .slice (some ⟨Bq, oq, none⟩) m tc := hsame.slot 9 (fun i o h => invB2_not 9 (by kernel_rfl) h)
                have eg : f.tmps.getD 89 undef = .bool false := depO (V := (VO22 Ba off n cap m tc Bq oq j b e g11 X)) hdep 2 89 (by kernel_rfl) (by kernel_rfl)
                clear hdep hsame hi hlate hfr hkeep
                exact .inl ⟨wanted_of 2 rfl eg (by kernel_rfl), showsO_move hsn rfl _ rfl e9⟩
              | 4, hi =>
                cases (show some _ = some o from hi)
                have e10 : f.tmps.getD 10 undef = .int .i64 (j : Int) := hsame.slot 10 (fun i o h => invB2_not 10 (by kernel_rfl) h)
                have eg : f.tmps.getD 89 undef = .bool false := depO (V := (VO22 Ba off n cap m tc Bq oq j b e g11 X)) hdep 2 89 (by kernel_rfl) (by kernel_rfl)
                clear hdep hsame hi hlate hfr hkeep
                exact .inl ⟨wanted_of 2 rfl eg (by kernel_rfl), showsO_move hsn rfl _ rfl e10⟩
              | 5, hi =>
                cases (show some _ = some o from hi)
                have e90 : (f.tmps.getD 90 undef) = .slice (some ⟨Bq, oq, none⟩) m tc := depO (V := (VO22 Ba off n cap m tc Bq oq j b e g11 X)) hdep 3 90 (by kernel_rfl) (by kernel_rfl)
                have e91 : (f.tmps.getD 91 undef) = .int .i64 (j : Int) := depO (V := (VO22 Ba off n cap m tc Bq oq j b e g11 X)) hdep 4 91 (by kernel_rfl) (by kernel_rfl)
                have eg : f.tmps.getD 89 undef = .bool false := depO (V := (VO22 Ba off n cap m tc Bq oq j b e g11 X)) hdep 2 89 (by kernel_rfl) (by kernel_rfl)
                clear hdep hsame hi hlate hfr hkeep
                have f2 : ¬ (m : Int) ≤ (j : Int) := by have := JL.out; omega
                have f3 : (j : Int) < (m : Int) := by have := JL.out; omega
                exact .inl ⟨wanted_of 2 rfl eg (by kernel_rfl), showsO_pure hsn rfl (.pointer (some ⟨Bq, oq + j * 32, none⟩)) (by simp only [execOp, Act.eval]; go_simp) rfl⟩
              | 6, hi =>
                cases (show some _ = some o from hi)
                have e92 : (f.tmps.getD 92 undef) = .pointer (some ⟨Bq, oq + j * 32, none⟩) := depO (V := (VO22 Ba off n cap m tc Bq oq j b e g11 X)) hdep 5 92 (by kernel_rfl) (by kernel_rfl)
                have eg : f.tmps.getD 89 undef = .bool false := depO (V := (VO22 Ba off n cap m tc Bq oq j b e g11 X)) hdep 2 89 (by kernel_rfl) (by kernel_rfl)
                clear hdep hsame hi hlate hfr hkeep
                exact .inl ⟨wanted_of 2 rfl eg (by kernel_rfl), showsO_mid hsn rfl 28 (.tmp 92) rfl Bq (oq + j * 32) e92 (bcells (X)) (rangeAt_below RY.out QB.out (B3.out.trans (hb6.mono B3.out.size))) underH rfl (hszB' X32.out) rfl⟩
              | 7, hi =>
                cases (show some _ = some o from hi)
                have e0 : f.tmps.getD 0 undef = .slice (some ⟨Ba, off, none⟩) n cap := hsame.slot 0 (fun i o h => invB2_not 0 (by kernel_rfl) h)
                have eg : f.tmps.getD 89 undef = .bool false := depO (V := (VO22 Ba off n cap m tc Bq oq j b e g11 X)) hdep 2 89 (by kernel_rfl) (by kernel_rfl)
                clear hdep hsame hi hlate hfr hkeep
                exact .inl ⟨wanted_of 2 rfl eg (by kernel_rfl), showsO_move hsn rfl _ rfl e0⟩
              | 8, hi =>
                cases (show some _ = some o from hi)
                have e11 : f.tmps.getD 11 undef = .pointer (some ⟨g11, 0, none⟩) := hsame.slot 11 (fun i o h => invB2_not 11 (by kernel_rfl) h)
                have eg : f.tmps.getD 89 undef = .bool false := depO (V := (VO22 Ba off n cap m tc Bq oq j b e g11 X)) hdep 2 89 (by kernel_rfl) (by kernel_rfl)
                clear hdep hsame hi hlate hfr hkeep
                exact .inl ⟨wanted_of 2 rfl eg (by kernel_rfl), showsO_pure hsn rfl (.pointer (some ⟨g11, 0, none⟩)) (by simp only [execOp, Act.eval]; go_simp) rfl⟩
              | 9, hi =>
                cases (show some _ = some o from hi)
                have e95 : (f.tmps.getD 95 undef) = .pointer (some ⟨g11, 0, none⟩) := depO (V := (VO22 Ba off n cap m tc Bq oq j b e g11 X)) hdep 8 95 (by kernel_rfl) (by kernel_rfl)
                have eg : f.tmps.getD 89 undef = .bool false := depO (V := (VO22 Ba off n cap m tc Bq oq j b e g11 X)) hdep 2 89 (by kernel_rfl) (by kernel_rfl)
                clear hdep hsame hi hlate hfr hkeep
                have c96 := er_cellAt ((hb6.block _ (Array.getElem?_eq_some_iff.1 M11.out).1).trans M11.out) (0) _ rfl
                exact .inl ⟨wanted_of 2 rfl eg (by kernel_rfl), showsO_pure hsn rfl (.int .u64 (b : Int)) (by simp only [execOp, Act.eval]; go_simp) rfl⟩
              | 10, hi =>
                cases (show some _ = some o from hi)
                have e11 : f.tmps.getD 11 undef = .pointer (some ⟨g11, 0, none⟩) := hsame.slot 11 (fun i o h => invB2_not 11 (by kernel_rfl) h)
                have eg : f.tmps.getD 89 undef = .bool false := depO (V := (VO22 Ba off n cap m tc Bq oq j b e g11 X)) hdep 2 89 (by kernel_rfl) (by kernel_rfl)
                clear hdep hsame hi hlate hfr hkeep
                exact .inl ⟨wanted_of 2 rfl eg (by kernel_rfl), showsO_pure hsn rfl (.pointer (some ⟨g11, 1, none⟩)) (by simp only [execOp, Act.eval]; go_simp) rfl⟩
              | 11, hi =>
                cases (show some _ = some o from hi)
                have e97 : (f.tmps.getD 97 undef) = .pointer (some ⟨g11, 1, none⟩) := depO (V := (VO22 Ba off n cap m tc Bq oq j b e g11 X)) hdep 10 97 (by kernel_rfl) (by kernel_rfl)
                have eg : f.tmps.getD 89 undef = .bool false := depO (V := (VO22 Ba off n cap m tc Bq oq j b e g11 X)) hdep 2 89 (by kernel_rfl) (by kernel_rfl)
                clear hdep hsame hi hlate hfr hkeep
                have c98 := er_cellAt ((hb6.block _ (Array.getElem?_eq_some_iff.1 M11.out).1).trans M11.out) (1) _ rfl
                exact .inl ⟨wanted_of 2 rfl eg (by kernel_rfl), showsO_pure hsn rfl (.int .u64 (e : Int)) (by simp only [execOp, Act.eval]; go_simp) rfl⟩
              | 12, hi =>
                cases (show some _ = some o from hi)
                have e94 : (f.tmps.getD 94 undef) = .slice (some ⟨Ba, off, none⟩) n cap := depO (V := (VO22 Ba off n cap m tc Bq oq j b e g11 X)) hdep 7 94 (by kernel_rfl) (by kernel_rfl)
                have e96 : (f.tmps.getD 96 undef) = .int .u64 (b : Int) := depO (V := (VO22 Ba off n cap m tc Bq oq j b e g11 X)) hdep 9 96 (by kernel_rfl) (by kernel_rfl)
                have e98 : (f.tmps.getD 98 undef) = .int .u64 (e : Int) := depO (V := (VO22 Ba off n cap m tc Bq oq j b e g11 X)) hdep 11 98 (by kernel_rfl) (by kernel_rfl)
                have eg : f.tmps.getD 89 undef = .bool false := depO (V := (VO22 Ba off n cap m tc Bq oq j b e g11 X)) hdep 2 89 (by kernel_rfl) (by kernel_rfl)
                clear hdep hsame hi hlate hfr hkeep
                have h1 : (0 : Int) ≤ (b : Int) := by omega
                have h2 : (b : Int) ≤ (e : Int) := by have := BE.out; omega
                have h3 : (e : Int) ≤ (cap : Int) := by have := EN.out; have := HC.out.1; omega
                have h4 : ¬ cap = b := by have := BE.out; have := EN.out; have := HC.out.1; omega
                have h5 : ¬ (cap - b = 0) := by omega
                exact .inl ⟨wanted_of 2 rfl eg (by kernel_rfl), showsO_pure hsn rfl (.slice (some ⟨Ba, off + b * 32, none⟩) (e - b) (cap - b)) (by simp only [execOp, Act.eval]; go_simp) rfl⟩
              | 13, hi =>
                cases (show some _ = some o from hi)
                have e99 : (f.tmps.getD 99 undef) = .slice (some ⟨Ba, off + b * 32, none⟩) (e - b) (cap - b) := depO (V := (VO22 Ba off n cap m tc Bq oq j b e g11 X)) hdep 12 99 (by kernel_rfl) (by kernel_rfl)
                have eg : f.tmps.getD 89 undef = .bool false := depO (V := (VO22 Ba off n cap m tc Bq oq j b e g11 X)) hdep 2 89 (by kernel_rfl) (by kernel_rfl)
                clear hdep hsame hi hlate hfr hkeep
                have c := CM.out u ((B2.out.trans (B3.out.mono B2.out.size)).trans (hb6.mono (Nat.le_trans B2.out.size B3.out.size)))
                exact .inl ⟨wanted_of 2 rfl eg (by kernel_rfl), showsO_call1 hsn rfl 10 #[.slice (some ⟨Ba, off + b * 32, none⟩) (e - b) (cap - b)] (by simp only [execOp, Act.eval]; go_simp) (c) (fun _ => rfl)⟩
              | 14, hi =>
                cases (show some _ = some o from hi)
                have e93 : (f.tmps.getD 93 undef) = .agg (ocells (X)) := depO (V := (VO22 Ba off n cap m tc Bq oq j b e g11 X)) hdep 6 93 (by kernel_rfl) (by kernel_rfl)
                have e100 : (f.tmps.getD 100 undef) = .agg (ocells (X)) := depO (V := (VO22 Ba off n cap m tc Bq oq j b e g11 X)) hdep 13 100 (by kernel_rfl) (by kernel_rfl)
                have eg : f.tmps.getD 89 undef = .bool false := depO (V := (VO22 Ba off n cap m tc Bq oq j b e g11 X)) hdep 2 89 (by kernel_rfl) (by kernel_rfl)
                clear hdep hsame hi hlate hfr hkeep
                have q := fun u => hv_neq u (X) (X) X32.out X32.out
                simp only [hv_agg, beq_self_eq_true, Bool.not_true] at q
                exact .inl ⟨wanted_of 2 rfl eg (by kernel_rfl), showsO_pure hsn rfl (.bool false) (by simp only [execOp, Act.eval]; go_simp) rfl⟩
              | 15, hi =>
                cases (show some _ = some o from hi)
                have e89 : (f.tmps.getD 89 undef) = .bool false := depO (V := (VO22 Ba off n cap m tc Bq oq j b e g11 X)) hdep 2 89 (by kernel_rfl) (by kernel_rfl)
                have e101 : (f.tmps.getD 101 undef) = .bool false := depO (V := (VO22 Ba off n cap m tc Bq oq j b e g11 X)) hdep 14 101 (by kernel_rfl) (by kernel_rfl)
                clear hdep hsame hi hlate hfr hkeep
                exact .inl ⟨wanted_none rfl, showsO_pure hsn rfl (.bool false) (by simp only [execOp, Act.eval]; go_simp) rfl⟩
              | n + 16, hi => exact absurd hi (by simp)
            intro fr W4 own hsame hsn hall
            have q87 : fr.tmps.getD 87 undef = .bool true := finO (V := (VO22 Ba off n cap m tc Bq oq j b e g11 X)) hall 0 87 rfl
            have q88 : fr.tmps.getD 88 undef = .bool false := finO (V := (VO22 Ba off n cap m tc Bq oq j b e g11 X)) hall 1 88 rfl
            have q89 : fr.tmps.getD 89 undef = .bool false := finO (V := (VO22 Ba off n cap m tc Bq oq j b e g11 X)) hall 2 89 rfl
            have q90 : fr.tmps.getD 90 undef = .slice (some ⟨Bq, oq, none⟩) m tc := finO (V := (VO22 Ba off n cap m tc Bq oq j b e g11 X)) hall 3 90 rfl
            have q91 : fr.tmps.getD 91 undef = .int .i64 (j : Int) := finO (V := (VO22 Ba off n cap m tc Bq oq j b e g11 X)) hall 4 91 rfl
            have q92 : fr.tmps.getD 92 undef = .pointer (some ⟨Bq, oq + j * 32, none⟩) := finO (V := (VO22 Ba off n cap m tc Bq oq j b e g11 X)) hall 5 92 rfl
            have q93 : fr.tmps.getD 93 undef = .agg (ocells (X)) := finO (V := (VO22 Ba off n cap m tc Bq oq j b e g11 X)) hall 6 93 rfl
            have q94 : fr.tmps.getD 94 undef = .slice (some ⟨Ba, off, none⟩) n cap := finO (V := (VO22 Ba off n cap m tc Bq oq j b e g11 X)) hall 7 94 rfl
            have q95 : fr.tmps.getD 95 undef = .pointer (some ⟨g11, 0, none⟩) := finO (V := (VO22 Ba off n cap m tc Bq oq j b e g11 X)) hall 8 95 rfl
            have q96 : fr.tmps.getD 96 undef = .int .u64 (b : Int) := finO (V := (VO22 Ba off n cap m tc Bq oq j b e g11 X)) hall 9 96 rfl
            have q97 : fr.tmps.getD 97 undef = .pointer (some ⟨g11, 1, none⟩) := finO (V := (VO22 Ba off n cap m tc Bq oq j b e g11 X)) hall 10 97 rfl
            have q98 : fr.tmps.getD 98 undef = .int .u64 (e : Int) := finO (V := (VO22 Ba off n cap m tc Bq oq j b e g11 X)) hall 11 98 rfl
            have q99 : fr.tmps.getD 99 undef = .slice (some ⟨Ba, off + b * 32, none⟩) (e - b) (cap - b) := finO (V := (VO22 Ba off n cap m tc Bq oq j b e g11 X)) hall 12 99 rfl
            have q100 : fr.tmps.getD 100 undef = .agg (ocells (X)) := finO (V := (VO22 Ba off n cap m tc Bq oq j b e g11 X)) hall 13 100 rfl
            have q101 : fr.tmps.getD 101 undef = .bool false := finO (V := (VO22 Ba off n cap m tc Bq oq j b e g11 X)) hall 14 101 rfl
            have q102 : fr.tmps.getD 102 undef = .bool false := finO (V := (VO22 Ba off n cap m tc Bq oq j b e g11 X)) hall 15 102 rfl
            obtain rfl := frame_eq hsame [(87, .bool true), (88, .bool false), (89, .bool false), (90, .slice (some ⟨Bq, oq, none⟩) m tc), (91, .int .i64 (j : Int)), (92, .pointer (some ⟨Bq, oq + j * 32, none⟩)), (93, .agg (ocells (X))), (94, .slice (some ⟨Ba, off, none⟩) n cap), (95, .pointer (some ⟨g11, 0, none⟩)), (96, .int .u64 (b : Int)), (97, .pointer (some ⟨g11, 1, none⟩)), (98, .int .u64 (e : Int)), (99, .slice (some ⟨Ba, off + b * 32, none⟩) (e - b) (cap - b)), (100, .agg (ocells (X))), (101, .bool false), (102, .bool false)] (by kernel_rfl) ⟨q87, q88, q89, q90, q91, q92, q93, q94, q95, q96, q97, q98, q99, q100, q101, q102, trivial⟩
            clear hall hsame q87 q88 q89 q90 q91 q92 q93 q94 q95 q96 q97 q98 q99 q100 q101 q102
            simp only [List.foldl, List.setIfInBounds_toArray, List.set_cons_succ, List.set_cons_zero]
            have hb := hsn.below (B := W3.heap.size) (fun _ _ => rfl) (Nat.le_refl _)
            have B4 := Bx.mk (B3.out.trans (hb.mono B3.out.size))
            clear hb hsn B3 M11 CM
            have jl := JL.out
            have ml := ML.out
            go_wp2_with fail
            go_roundw
            case rel => exact ⟨j + 1, JL.out, by go_num, B4.out⟩
            case measure => have := JL.out; simp [intOf]; omega
          · obtain rfl : j = m := by omega
            have f1 : ¬ (j : Int) < (j : Int) := by omega
            have BZ := Bx.mk (B2.out.trans (BJ.out.mono B2.out.size))
            clear hj hlt
            go_wp2_with fail
            refine (alive09_any wr (HT.out.below BZ.out)).mono ?_
            rintro e u ⟨rfl, hb⟩
            go_wp2_with fail
            go_ret
            exact ⟨rfl, BZ.out.trans (hb.mono BZ.out.size)⟩
end Go.Proofs.YtgbafjmklefoiaaDoor
