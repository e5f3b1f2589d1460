/- cartularylaw04.ShaPlays walked. -/
import Derived.Test.YtfoknhogclfhhaaDoorPlC
import Derived.Test.YtfoknhogclfhhaaDoorRowW
import Derived.Deep.MidRow
namespace Go.Proofs.YtfoknhogclfhhaaDoor
set_option maxRecDepth 100000
open Go.RowKit
/-- an operation that came in -/
structure OpR where
  kind : Int
  on : Int
  da : Option Addr
  dc : Nat
  l : List UInt8
def opcells (o : OpR) : List Value := [.int .i64 o.kind, .int .i64 o.on, .slice o.da o.l.length o.dc]
/-- a slice that reads as operations -/
def OpsAt (w : World) (v : Value) (os : List OpR) : Prop :=
  ∃ (a : Option Addr) (cap : Nat), v = .slice a os.length cap ∧ os.length ≤ cap ∧ cap ≤ maxLen ∧ (∀ o ∈ os, Src w (.slice o.da o.l.length o.dc) o.l ∧ o.l.length ≤ 140737488351232) ∧
    (os ≠ [] → ∃ B off, a = some ⟨B, off, none⟩ ∧ B < w.heap.size ∧ ∀ i, (h : i < os.length) → w.rangeAt B (off + i * 3) (opcells os[i]))
theorem underOp : ∃ d, Tryd.prog.underlying 32 = some d ∧ d.isRow = true := ⟨_, Tryd.underlying32, rfl⟩
theorem infoOp : (Tryd.prog.info? 32).map (·.size) = some 3 := by kernel_rfl
theorem built_W : Tryd.prog.built 28 [] = some (Gc (fun _ => .pointer none) (fun _ => ⟨#[]⟩)) := by kernel_rfl
theorem wpList_load_mid_o {P : Program} {ops : Array Oper} {rest : List Oper} {o : Oper} {a : Act} {w : World} {Q : Exit → Act → World → Prop} (hw : Region.wanted o (yielded ops a.tmps) = true) (ty : TypeId) (x : Operand) (ho : o.op = .load ty x)
    (b q : Nat) (hx : a.eval x = .pointer (some ⟨b, q, none⟩)) (cs : List Value) (d : TypeDesc) (hc : w.rangeAt b q cs)
    (hu : P.underlying ty = some d) (hd : d.isRow = true) (hi : (P.info? ty).map (·.size) = some cs.length)
    (h : wpList P ops Q rest (a.put o.dst (.agg cs.toArray)) w) : wpList P ops Q (o :: rest) a w :=
  wpList_step fun K hK => by rw [if_pos hw]; exact wp_load_mid ty x ho b q hx cs d hc hu hd hi (hK _ _ h)
/-- the first digests are there -/
structure PlT (base : Nat) (w : World) (G t : Nat) (p : Nat → Nat) (S : Nat → Nat → Prop) : Prop where
  hG : w.heap[G]? = some (.cells (Gc (fun k => if k < t then ptr (p k) else .pointer none) (fun _ => ⟨#[]⟩)) 28 (0, 0))
  dg : ∀ k, k < t → DigP base w (p k) [] (S k)
  ap : ∀ i j, i < t → j < t → i ≠ j → ∀ b, S i b → ¬ S j b
  ng : ∀ i, i < t → ¬ S i G
theorem range_below {w w' : World} {B o : Nat} {cs : List Value} (h : w.rangeAt B o cs) (hB : B < w.heap.size) (k : Below w.heap.size w w') : w'.rangeAt B o cs := fun j v hv =>
  (k.cell (p := ⟨B, o + j, none⟩) hB).trans (h j v hv)
def VPp6 (G t B0 : Nat) (gc : Array Value) (oi : Nat) (v : Value) (own : Nat → Option Nat) (w : World) : Prop :=
  match oi with
  | 0 => v = .pointer (some ⟨G, 0, none⟩)
  | 1 => v = .int .i64 (t : Int)
  | 2 => ∃ (p' : Nat) (S' : Nat → Prop), v = .pointer (some ⟨p', 0, none⟩) ∧ DigP B0 w p' [] S' ∧ ∀ b, S' b → own b = none
  | 3 => v = .pointer (some ⟨G, 0, none⟩)
  | 4 => v = .pointer (some ⟨G, 0, none⟩)
  | 5 => v = .pointer (some ⟨G, t, none⟩)
  | 6 => ∃ (p' : Nat) (S' : Nat → Prop), OutV own w G 6 28 (gc.setIfInBounds t (.pointer (some ⟨p', 0, none⟩))) ∧ DigP B0 w p' [] S' ∧ ∀ b, S' b → own b = none
  | _ => True
def VPp6mk : Nat → Option Nat := fun _ => none
theorem VPp6_mono (G t B0 : Nat) (gc : Array Value) (oi oj : Nat) (v : Value) (own : Nat → Option Nat) (w : World) (own' : Nat → Option Nat) (w' : World) (hij : oi ≠ oj)   (h : VPp6 G t B0 gc oj v own w) (r : Rel VPp6mk oi own w own' w') : VPp6 G t B0 gc oj v own' w' := by
  unfold VPp6 at h ⊢
  split at h
  · exact h
  · exact h
  · exact (by obtain ⟨p', S', h1, h2, h3⟩ := h; obtain ⟨h4, h5⟩ := dig_rel h2 h3 r; exact ⟨p', S', h1, h4, h5⟩)
  · exact h
  · exact h
  · exact h
  · exact (by obtain ⟨p', S', h1, h2, h3⟩ := h; obtain ⟨h4, h5⟩ := dig_rel h2 h3 r; exact ⟨p', S', h1.stable r hij, h4, h5⟩)
  · trivial

set_option maxHeartbeats 6400000 in
theorem plays_any (w : World) (v : Value) (os : List OpR) (hO : OpsAt w v os) (hT : Tab w) (hgs : 0 < w.heap.size) :
    Calls Tryd.prog 3 #[v] w fun e w' => e = .returned (.bool true) ∧ Below w.heap.size w w' := by
  obtain ⟨a0, cap0, rfl, hc1, hc2, hos, hat⟩ := hO
  unfold maxLen at hc2
  have hT' : ∀ u, Below w.heap.size w u → Tab u := fun u h => hT.kept (Keep.of_below h (fun _ => False)) hgs (fun h => h)
  have x0 : (w.alloc (.cells #[.pointer none, .pointer none, .pointer none, .string ⟨#[]⟩, .string ⟨#[]⟩, .string ⟨#[]⟩] 28)).heap[w.heap.size]? = some (.cells #[.pointer none, .pointer none, .pointer none, .string ⟨#[]⟩, .string ⟨#[]⟩, .string ⟨#[]⟩] 28 (0, 0)) := heap_alloc_new _ _
  have kb : Below w.heap.size w (w.alloc (.cells #[.pointer none, .pointer none, .pointer none, .string ⟨#[]⟩, .string ⟨#[]⟩, .string ⟨#[]⟩] 28)) := (Below.refl _ _).alloc (Nat.le_refl _) _
  have HT := Bx.mk hT'; have HG := Bx.mk hgs; have HOS := Bx.mk hos; have HAT := Bx.mk hat
  clear hT hT' hgs hos hat
  obtain ⟨base, hbase⟩ : ∃ base, base = w.heap.size := ⟨_, rfl⟩
  have HBS := Bx.mk hbase
  go_enter Tryd.func3, Tryd.ntmps3
  go_upto_region 2 with (fail)
  generalize w.alloc (.cells #[.pointer none, .pointer none, .pointer none, .string ⟨#[]⟩, .string ⟨#[]⟩, .string ⟨#[]⟩] 28) = W at x0 kb ⊢
  rw [← hbase] at x0 kb ⊢
  obtain ⟨G, hG⟩ : ∃ G, G = base := ⟨_, rfl⟩
  have e1 : (Value.pointer (some ⟨base, 0, none⟩)) = .pointer (some ⟨G, 0, none⟩) := by rw [hG]
  rw [e1]
  rw [← hG] at x0
  have GB := Bx.mk (Nat.le_of_eq hG.symm)
  have X0 := Bx.mk x0; have K0 := Bx.mk kb
  clear e1 x0 kb hG hbase
  go_wp2_with fail
  go_loopw [5] (fun i wr => ∃ (t : Nat) (p : Nat → Nat) (S : Nat → Nat → Prop), t ≤ 3 ∧ i = .int .i64 (t : Int) ∧ PlT base wr G t p S ∧ Below base w wr) (fun i _ => 3 - (intOf i).toNat)
  case atStart => exact ⟨0, fun _ => 0, fun _ _ => False, by decide, rfl, ⟨X0.out, fun k h => absurd h (Nat.not_lt_zero _), fun i j h => absurd h (Nat.not_lt_zero _), fun i h => absurd h (Nat.not_lt_zero _)⟩, K0.out⟩
  case round =>
    obtain ⟨t, p, S, ht, rfl, hP, hb⟩ := hrel
    rename World => wo
    have PT := Bx.mk hP; have KW := Bx.mk hb
    clear hP hb X0 K0
    by_cases hlt : t < 3
    · have TL := Bx.mk hlt
      obtain ⟨gc, hgc⟩ : ∃ gc, gc = Gc (fun k => if k < t then ptr (p k) else .pointer none) (fun _ => ⟨#[]⟩) := ⟨_, rfl⟩
      have XG := Bx.mk (show wo.heap[G]? = some (.cells gc 28 (0, 0)) by rw [hgc]; exact PT.out.hG)
      have XGL := Bx.mk (Array.getElem?_eq_some_iff.1 XG.out).1
      have CQ := Bx.mk (show gc[t]? = some (.pointer none) by rw [hgc, Gc_q _ _ t hlt, if_neg (Nat.lt_irrefl t)])
      have HGC := Bx.mk hgc
      obtain ⟨B0, hB0⟩ : ∃ B0, B0 = wo.heap.size := ⟨_, rfl⟩
      have B0L := Bx.mk (Nat.le_of_eq hB0); have HB0 := Bx.mk hB0
      clear hgc hB0
      go_upto_region 6 with (fail)
      refine wp_region_own8 (n := 61) VPp6mk (fun j => if j = G then some 6 else none) (VPp6 G t B0 gc) (by kernel_rfl) (by kernel_rfl) rfl (fun j hj => if_neg (by have := XGL.out; omega)) (fun j i hj _ => by cases hj) ?_ ?_ ?_
      · exact fun oi oj v own w own' w' hij _ h r => VPp6_mono G t B0 gc oi oj v own w own' w' hij h r
      · intro oi o hi f u own hsame hsn hfr hlate hkeep8 hdep
        have hkeep := hkeep8 _ (.inl rfl)
        match oi, hi with
        | 0, hi =>
          cases (show some _ = some o from hi)
          have e3 : f.tmps.getD 3 undef = .pointer (some ⟨G, 0, none⟩) := hsame.slot 3 (fun i o h => invB2_not 3 (by kernel_rfl) h)
          clear hdep hsame hi hlate hfr hkeep
          exact .inl ⟨wanted_none rfl, showsO_move hsn rfl _ rfl e3⟩
        | 1, hi =>
          cases (show some _ = some o from hi)
          have e5 : f.tmps.getD 5 undef = .int .i64 (t : Int) := hsame.slot 5 (fun i o h => invB2_not 5 (by kernel_rfl) h)
          clear hdep hsame hi hlate hfr hkeep
          exact .inl ⟨wanted_none rfl, showsO_move hsn rfl _ rfl e5⟩
        | 2, hi =>
          cases (show some _ = some o from hi)
          clear hdep hsame hi hlate hfr hkeep
          have hb0 : B0 ≤ u.heap.size := by have := B0L.out; have := hsn.size; omega
          have c := newP u
          exact .inl ⟨wanted_none rfl, showsO_call (R := fun v w' => ∃ (p' : Nat) (S' : Nat → Prop), v = .pointer (some ⟨p', 0, none⟩) ∧ DigP B0 w' p' [] S' ∧ ∀ b, S' b → u.heap.size ≤ b) hsn rfl 9 #[] (by simp only [execOp, Act.eval]; go_simp) (c.mono fun e w' ⟨p', S', h1, h2, h3⟩ => ⟨_, h1, ⟨p', S', rfl, h2.mono hb0, fun b hb => h2.ge b hb⟩, h3⟩) (fun v w' ⟨p', S', h1, h2, h3⟩ _ => ⟨p', S', h1, h2, fun b hb => hsn.top b (h3 b hb)⟩)⟩
        | 3, hi =>
          cases (show some _ = some o from hi)
          have e13 : (f.tmps.getD 13 undef) = .pointer (some ⟨G, 0, none⟩) := depO (V := (VPp6 G t B0 gc)) hdep 0 13 (by kernel_rfl) (by kernel_rfl)
          clear hdep hsame hi hlate hfr hkeep
          exact .inl ⟨wanted_none rfl, showsO_pure hsn rfl (.pointer (some ⟨G, 0, none⟩)) (by simp only [execOp, Act.eval]; go_simp) rfl⟩
        | 4, hi =>
          cases (show some _ = some o from hi)
          have e16 : (f.tmps.getD 16 undef) = .pointer (some ⟨G, 0, none⟩) := depO (V := (VPp6 G t B0 gc)) hdep 3 16 (by kernel_rfl) (by kernel_rfl)
          clear hdep hsame hi hlate hfr hkeep
          exact .inl ⟨wanted_none rfl, showsO_pure hsn rfl (.pointer (some ⟨G, 0, none⟩)) (by simp only [execOp, Act.eval]; go_simp) rfl⟩
        | 5, hi =>
          cases (show some _ = some o from hi)
          have e14 : (f.tmps.getD 14 undef) = .int .i64 (t : Int) := depO (V := (VPp6 G t B0 gc)) hdep 1 14 (by kernel_rfl) (by kernel_rfl)
          have e17 : (f.tmps.getD 17 undef) = .pointer (some ⟨G, 0, none⟩) := depO (V := (VPp6 G t B0 gc)) hdep 4 17 (by kernel_rfl) (by kernel_rfl)
          clear hdep hsame hi hlate hfr hkeep
          have f1 : ¬ (3 : Int) ≤ (t : Int) := by have := TL.out; omega
          have f2 : (t : Int) < (3 : Int) := by have := TL.out; omega
          exact .inl ⟨wanted_none rfl, showsO_pure hsn rfl (.pointer (some ⟨G, t, none⟩)) (by simp only [execOp, Act.eval]; go_simp) rfl⟩
        | 6, hi =>
          cases (show some _ = some o from hi)
          have e15 : ∃ (p' : Nat) (S' : Nat → Prop), (f.tmps.getD 15 undef) = .pointer (some ⟨p', 0, none⟩) ∧ DigP B0 u p' [] S' ∧ ∀ b, S' b → own b = none := depO (V := (VPp6 G t B0 gc)) hdep 2 15 (by kernel_rfl) (by kernel_rfl)
          have e18 : (f.tmps.getD 18 undef) = .pointer (some ⟨G, t, none⟩) := depO (V := (VPp6 G t B0 gc)) hdep 5 18 (by kernel_rfl) (by kernel_rfl)
          clear hdep hsame hi hlate hfr hkeep
          obtain ⟨pc, Sc, ec, hdc, hnc⟩ := e15
          have hst := er_cellAt ((hkeep8 6 (.inl rfl) G XGL.out (if_pos rfl)).trans XG.out) t _ CQ.out
          have hfr2 : u.frozen? ⟨G, t, none⟩ = false := by simp [World.frozen?, (hkeep8 6 (.inl rfl) G XGL.out (if_pos rfl)).trans XG.out]
          exact .inl ⟨wanted_none rfl, showsO_store_cell hsn hkeep8 rfl G t gc 28 XG.out (if_pos rfl) (.pointer (some ⟨pc, 0, none⟩)) (by simp only [execOp, Act.eval]; go_simp) (fun h => ⟨pc, Sc, h, (hdc.kept (Keep.setCell u ⟨G, t, none⟩ _) (fun b hb e => by subst e; have h7 := hnc _ hb; rw [hsn.owns _ XGL.out, if_pos rfl] at h7; cases h7)), hnc⟩)⟩
        | n + 7, hi => exact absurd hi (by simp)
      · intro f u own hsame hsn hall
        have q13 : f.tmps.getD 13 undef = .pointer (some ⟨G, 0, none⟩) := finO (V := (VPp6 G t B0 gc)) hall 0 13 rfl
        have q14 : f.tmps.getD 14 undef = .int .i64 (t : Int) := finO (V := (VPp6 G t B0 gc)) hall 1 14 rfl
        obtain ⟨pcc, Scc, q15, dcc, ncc⟩ := finO (V := (VPp6 G t B0 gc)) hall 2 15 rfl
        have q16 : f.tmps.getD 16 undef = .pointer (some ⟨G, 0, none⟩) := finO (V := (VPp6 G t B0 gc)) hall 3 16 rfl
        have q17 : f.tmps.getD 17 undef = .pointer (some ⟨G, 0, none⟩) := finO (V := (VPp6 G t B0 gc)) hall 4 17 rfl
        have q18 : f.tmps.getD 18 undef = .pointer (some ⟨G, t, none⟩) := finO (V := (VPp6 G t B0 gc)) hall 5 18 rfl
        obtain ⟨p2, S2, o2, d2, n2⟩ := finN (V := (VPp6 G t B0 gc)) hall 6 rfl
        obtain rfl := frame_eq hsame [(13, .pointer (some ⟨G, 0, none⟩)), (14, .int .i64 (t : Int)), (15, .pointer (some ⟨pcc, 0, none⟩)), (16, .pointer (some ⟨G, 0, none⟩)), (17, .pointer (some ⟨G, 0, none⟩)), (18, .pointer (some ⟨G, t, none⟩))] (by kernel_rfl) ⟨q13, q14, q15, q16, q17, q18, trivial⟩
        clear hall hsame q13 q14 q15 q16 q17 q18
        simp only [List.foldl, List.setIfInBounds_toArray, List.set_cons_succ, List.set_cons_zero]
        have hku := keep_out hsn rfl
        have hs2 : ∀ b, S2 b → wo.heap.size ≤ b := fun b hb => by rw [← HB0.out]; exact d2.ge b hb
        rw [HGC.out, Gc_setq _ _ t TL.out] at o2
        have PT2 := Bx.mk (show PlT base u G (t + 1) (upd p t p2) (upd S t S2) from ⟨by
            have h := o2.2
            rwa [show upd (fun k => if k < t then ptr (p k) else .pointer none) t (.pointer (some ⟨p2, 0, none⟩)) = (fun k => if k < t + 1 then ptr (upd p t p2 k) else .pointer none) from funext fun k => by
              by_cases e : k = t
              · subst e; rw [upd_at, if_pos (Nat.lt_succ_self _), upd_at]; rfl
              · rw [upd_ne _ _ e]
                by_cases h2 : k < t
                · rw [if_pos h2, if_pos (by omega), upd_ne _ _ e]
                · rw [if_neg h2, if_neg (by omega)]] at h,
          fun k hk => by
            by_cases e : k = t
            · subst e; rw [upd_at, upd_at]; exact d2.mono (by rw [HB0.out]; exact KW.out.size |> Nat.le_trans (Nat.le_of_eq HBS.out))
            · rw [upd_ne _ _ e, upd_ne _ _ e]
              exact (PT.out.dg k (by omega)).kept hku (fun j hj e => by subst e; exact PT.out.ng k (by omega) hj),
          fun i j hi hj hij b hb hb2 => by
            by_cases ei : i = t
            · subst ei
              rw [upd_at] at hb; rw [upd_ne _ _ (Ne.symm hij)] at hb2
              have h1 := hs2 b hb; have h2 := (PT.out.dg j (by omega)).lt b hb2; omega
            · rw [upd_ne _ _ ei] at hb
              by_cases ej : j = t
              · subst ej
                rw [upd_at] at hb2
                have h1 := hs2 b hb2; have h2 := (PT.out.dg i (by omega)).lt b hb; omega
              · rw [upd_ne _ _ ej] at hb2
                exact PT.out.ap i j (by omega) (by omega) hij b hb hb2,
          fun i hi hb => by
            by_cases ei : i = t
            · subst ei; rw [upd_at] at hb; have h1 := hs2 _ hb; have := XGL.out; omega
            · rw [upd_ne _ _ ei] at hb; exact PT.out.ng i (by omega) hb⟩)
        have KW2 := Bx.mk (KW.out.trans (hku.below (by rw [HBS.out]; exact KW.out.size) (fun k hk => by subst hk; exact GB.out)))
        clear hku hsn o2 d2 n2 dcc ncc hs2 PT XG XGL CQ HGC B0L HB0 KW
        have c0 : u.cell? ⟨G, t, none⟩ = some (.pointer (some ⟨p2, 0, none⟩)) := by
          have h := er_cellAt PT2.out.hG t _ (Gc_q _ _ t TL.out)
          rwa [if_pos (Nat.lt_succ_self _), upd_at] at h
        have f1 : ¬ (3 : Int) ≤ (t : Int) := by have := TL.out; omega
        have f2 : (t : Int) < (3 : Int) := by have := TL.out; omega
        go_wp2_with fail
        go_roundw
        case rel => exact ⟨t + 1, upd p t p2, upd S t S2, by have := TL.out; omega, by go_num, PT2.out, KW2.out⟩
        case measure => simp [intOf]; omega
    · obtain rfl : t = 3 := by omega
      have PW := Bx.mk (show DoesPost base G 0 w wo from ⟨p, fun _ => ⟨#[]⟩, fun _ => [], S, ⟨by
          have h := PT.out.hG
          have e : Gc (fun k => if k < 3 then ptr (p k) else .pointer none) (fun _ => (⟨#[]⟩ : ByteArray)) = Gc (fun k => ptr (p k)) (fun _ => ⟨#[]⟩) := rfl
          rwa [e] at h, GB.out, ⟨PT.out.dg, PT.out.ap, PT.out.ng⟩⟩, fun k hk => rfl, fun k hk => by simp, KW.out⟩)
      clear PT KW
      go_wp2_with fail
      go_loopw [4, 6] (fun sv i wq => ∃ (t sz : Nat), t ≤ os.length ∧ i = .int .i64 (t : Int) ∧ sv = .int .i64 (sz : Int) ∧ sz ≤ 1048576 ∧ DoesPost base G sz w wq) (fun _ i _ => os.length - (intOf i).toNat)
      case atStart => exact ⟨0, 0, Nat.zero_le _, rfl, rfl, by decide, PW.out⟩
      case round =>
        obtain ⟨t, sz, ht, rfl, rfl, hsz, hD⟩ := hrel
        obtain ⟨p1, r1, m1, S1, hP, hr, hm, hb⟩ := hD
        have PP := Bx.mk hP; have RR := Bx.mk hr; have MM := Bx.mk hm; have KB := Bx.mk hb
        clear hP hr hm hb PW
        by_cases hlt : t < os.length
        · obtain ⟨B, off, rfl, hB, hcc⟩ := HAT.out (by rintro rfl; simp at hlt)
          have hrg := hcc t hlt
          obtain ⟨hso, hsl⟩ := HOS.out os[t] (List.getElem_mem hlt)
          have RG := Bx.mk (range_below hrg hB (by have := KB.out; rw [HBS.out] at this; exact this))
          have HSO := Bx.mk hso; have BLT := Bx.mk hB; have HRG0 := Bx.mk hrg
          clear hcc hB hso hrg
          generalize os[t] = op at RG HSO hsl HRG0
          obtain ⟨kind, on, da, dc, l⟩ := op
          simp only [] at hsl
          obtain ⟨sz2, hs2⟩ : ∃ s2, s2 = sz + 1 + l.length := ⟨_, rfl⟩
          have c2 : wr.cell? ⟨B, off + t * 3 + 2, none⟩ = some (.slice da l.length dc) := RG.out 2 _ rfl
          have d1 : IntKind.i64.wrap ((sz : Int) + 1) = (sz : Int) + 1 := by simp [IntKind.wrap, IntKind.bits, IntKind.signed]; omega
          have d2 : IntKind.i64.wrap ((sz : Int) + 1 + (l.length : Int)) = (sz2 : Int) := by simp [IntKind.wrap, IntKind.bits, IntKind.signed]; omega
          have HS2 := Bx.mk hs2; have HSL := Bx.mk hsl
          clear hs2 hsl
          have f1 : ¬ (os.length : Int) ≤ (t : Int) := by omega
          have f2 : (t : Int) < (os.length : Int) := by omega
          go_wp2_with fail
          have hbe := beyond_any (wr.alloc (.cells #[.int .i64 (sz2 : Int)] 3)) (.slice (some ⟨wr.heap.size, 0, none⟩) 1 1) [sz2] (ints_one _ _ _ rfl) (by have := HS2.out; have := HSL.out; simp; omega)
          refine hbe.mono ?_
          rintro e w2 ⟨rfl, rfl⟩
          clear hbe c2 d1 d2
          have hb2 : Below wr.heap.size wr (wr.alloc (.cells #[.int .i64 (sz2 : Int)] 3)) := (Below.refl _ _).alloc (Nat.le_refl _) _
          generalize wr.alloc (.cells #[.int .i64 (sz2 : Int)] 3) = w2 at hb2 ⊢
          have KB2 := Bx.mk (KB.out.trans (hb2.mono (by rw [HBS.out]; exact KB.out.size)))
          have PP2 := Bx.mk (PP.out.below hb2)
          have RG2 := Bx.mk (range_below HRG0.out BLT.out (by have := KB2.out; rw [HBS.out] at this; exact this))
          have hbsz := HBS.out
          clear hb2 PP KB RG
          by_cases hgt : 1048576 < sz2
          · have e1 : decide (1048576 < [sz2].sum) = true := by simp [hgt]
            rw [e1]
            clear e1 hbsz
            go_wp2_with fail
            go_ret
            exact ⟨rfl, by have := KB2.out; rw [HBS.out] at this; exact this⟩
          · have e1 : decide (1048576 < [sz2].sum) = false := decide_eq_false (by simp; omega)
            rw [e1]
            have cd := does_any base w2 G p1 r1 m1 S1 PP2.out RR.out sz MM.out kind on da dc l (by have := HS2.out; omega) (fun u hu => HSO.out.kept (Keep.of_below (by have := KB2.out.trans hu; rw [hbsz] at this; exact this) (fun _ => False)) (fun _ _ h => h)) (HT.out w2 (by have := KB2.out; rw [hbsz] at this; exact this)) (by rw [hbsz]; exact HG.out) (by rw [hbsz]; exact KB2.out.size)
            have CD := Bx.mk cd
            clear cd e1 hbsz
            have f3 : ¬ (os.length : Int) ≤ (t : Int) := by omega
            obtain ⟨dsc, hud, hrow⟩ := underOp
            have HU := Bx.mk hud
            clear hud
            go_wp2_with (guard_target =~ wpList _ _ _ (⟨some 48, _, _, _, _, _⟩ :: _) _ _; refine wpList_load_mid_o (by simp [Region.wanted]) 32 (.tmp 47) rfl B (off + t * 3) rfl (opcells ⟨kind, on, da, dc, l⟩) dsc RG2.out HU.out hrow (by rw [infoOp]; rfl) ?_; change wpList _ _ _ _ (Act.put _ _ (.agg #[.int .i64 kind, .int .i64 on, .slice da l.length dc])) _)
            refine CD.out.mono ?_
            rintro e w3 ⟨rfl, hD⟩
            have HD := Bx.mk hD
            clear hD CD HU
            go_wp2_with fail
            go_roundw
            case rel =>
              obtain ⟨p', r', m', S', h1, h2, h3, h4⟩ := HD.out
              refine ⟨u2, ?_⟩
              repeat apply Exists.intro
              refine ⟨?_, rfl⟩
              exact ⟨t + 1, sz2, hlt, by go_num, rfl, by omega, p', r', m', S', h1, h2, fun k hk => Nat.le_trans (h3 k hk) (by have := HS2.out; omega), KB2.out.trans h4⟩
            case measure => simp [intOf]; omega
        · have cl : ∀ K, K < 3 → ∀ u, Below wr.heap.size wr u → _ := fun K hK u hu => looks_any base u G p1 r1 m1 S1 (PP.out.below hu) RR.out K hK (by have := MM.out K hK; omega) (HT.out u (by have := KB.out.trans (hu.mono (by rw [HBS.out]; exact KB.out.size)); rw [HBS.out] at this; exact this)) (Nat.lt_of_lt_of_le HG.out (Nat.le_trans KB.out.size hu.size))
          have CLK := Bx.mk cl
          clear cl
          have f1 : ¬ (t : Int) < (os.length : Int) := by omega
          go_wp2_with fail
          refine (CLK.out 0 (by decide) wr (Below.refl wr.heap.size wr)).mono ?_
          rintro e w2 ⟨rfl, hbl⟩
          have Hw2 := Bx.mk ((Below.refl wr.heap.size wr).trans (hbl.mono (Below.refl wr.heap.size wr).size))
          clear hbl
          go_wp2_with fail
          refine (CLK.out 1 (by decide) w2 (Hw2.out)).mono ?_
          rintro e w3 ⟨rfl, hbl⟩
          have Hw3 := Bx.mk ((Hw2.out).trans (hbl.mono (Hw2.out).size))
          clear hbl
          go_wp2_with fail
          refine (CLK.out 2 (by decide) w3 (Hw3.out)).mono ?_
          rintro e w4 ⟨rfl, hbl⟩
          have Hw4 := Bx.mk ((Hw3.out).trans (hbl.mono (Hw3.out).size))
          clear hbl
          go_wp2_with fail
          go_ret
          exact ⟨rfl, by have := KB.out.trans (Hw4.out.mono (by rw [HBS.out]; exact KB.out.size)); rw [HBS.out] at this; exact this⟩
end Go.Proofs.YtfoknhogclfhhaaDoor
