/- cartularyref18.sub: what a proof says that both roots are. -/
import Derived.Test.YtmlpldkgennmkaaDoorVq
import Derived.Test.YtmlpldkgennmkaaDoorVc
namespace Go.Proofs.YtmlpldkgennmkaaDoor
set_option maxRecDepth 100000
open Go.RowKit
def subS (b : Bool) (before : List UInt8) (ds : List Bool) (ps : List (List UInt8)) : List UInt8 × List (List UInt8) := if (b && ds.all (!·)) = true then (before, ps) else (ps.headD [], ps.tail)
def subX (b : Bool) (before : List UInt8) (ds : List Bool) (ps : List (List UInt8)) : List UInt8 := climbO nd (subS b before ds ps).1 ds (subS b before ds ps).2
def subY (b : Bool) (before : List UInt8) (ds : List Bool) (ps : List (List UInt8)) : List UInt8 := climb nd (subS b before ds ps).1 ds (subS b before ds ps).2
def SubOk (b : Bool) (ds : List Bool) (ps : List (List UInt8)) : Prop := ps.length = ds.length + (if (b && ds.all (!·)) = true then 0 else 1)
theorem subS_len {b : Bool} {before : List UInt8} {ds : List Bool} {ps : List (List UInt8)} (h : SubOk b ds ps) : (subS b before ds ps).2.length = ds.length := by
  unfold SubOk at h
  unfold subS
  split
  · rename_i h1; rw [if_pos h1] at h; exact h
  · rename_i h1; rw [if_neg h1] at h; simp [h]
theorem sub_false {b : Bool} {before : List UInt8} {ds : List Bool} {qs : List (List UInt8)} {px : List UInt8} (h : SubOk b (ds ++ [false]) (qs ++ [px])) :
    SubOk b ds qs ∧ subX b before (ds ++ [false]) (qs ++ [px]) = subX b before ds qs ∧ subY b before (ds ++ [false]) (qs ++ [px]) = nd (subY b before ds qs) px := by
  have e : (ds ++ [false]).all (!·) = ds.all (!·) := by simp
  have h1 : SubOk b ds qs := by
    unfold SubOk at h ⊢
    rw [e] at h
    simp only [List.length_append, List.length_singleton] at h
    omega
  have hs : subS b before (ds ++ [false]) (qs ++ [px]) = ((subS b before ds qs).1, (subS b before ds qs).2 ++ [px]) := by
    unfold subS
    rw [e]
    split
    · rfl
    · rename_i h2
      unfold SubOk at h1
      rw [if_neg h2] at h1
      cases qs with
      | nil => simp at h1
      | cons q r => rfl
  have hl := subS_len (before := before) h1
  refine ⟨h1, ?_, ?_⟩
  · unfold subX
    rw [hs, climbO_snoc nd _ _ hl.symm]; rfl
  · unfold subY
    rw [hs, climb_snoc nd _ _ hl.symm]; rfl
theorem sub_true {b : Bool} {before : List UInt8} {ds : List Bool} {qs : List (List UInt8)} {px : List UInt8} (h : SubOk b (ds ++ [true]) (qs ++ [px])) :
    SubOk false ds qs ∧ subX b before (ds ++ [true]) (qs ++ [px]) = nd px (subX false before ds qs) ∧ subY b before (ds ++ [true]) (qs ++ [px]) = nd px (subY false before ds qs) := by
  have e : (b && (ds ++ [true]).all (!·)) = false := by simp
  have h1 : SubOk false ds qs := by
    unfold SubOk at h ⊢
    rw [e] at h
    simp only [List.length_append, List.length_singleton, Bool.false_and] at h ⊢
    omega
  have hs : subS b before (ds ++ [true]) (qs ++ [px]) = ((subS false before ds qs).1, (subS false before ds qs).2 ++ [px]) := by
    unfold subS
    rw [e]
    simp only [Bool.false_and, Bool.false_eq_true, if_false]
    unfold SubOk at h1
    cases qs with
    | nil => simp at h1
    | cons q r => rfl
  have hl := subS_len (before := before) h1
  refine ⟨h1, ?_, ?_⟩
  · unfold subX
    rw [hs, climbO_snoc nd _ _ hl.symm]; rfl
  · unfold subY
    rw [hs, climb_snoc nd _ _ hl.symm]; rfl
theorem subS_32 {b : Bool} {before : List UInt8} {ds : List Bool} {ps : List (List UInt8)} (h : SubOk b ds ps) (hb : before.length = 32) (hp : ∀ p ∈ ps, p.length = 32) : (subS b before ds ps).1.length = 32 := by
  unfold SubOk at h
  unfold subS
  split
  · exact hb
  · rename_i h1
    rw [if_neg h1] at h
    cases ps with
    | nil => simp at h
    | cons p r => exact hp p (by simp)
theorem results_two_hashes {fn : Func} {p u : Tmp} (h : fn.results = #[.cell p 24, .cell u 24]) (tmps : Array Value) (w : World) (g g2 : Nat) (t t2 : TypeId) (cs cs2 : Array Value) (fr fr2 : Nat × Nat)
    (hp : tmps.getD p undef = .pointer (some ⟨g, 0, none⟩)) (hg : w.heap[g]? = some (.cells cs t fr)) (hi : (Tryd.prog.info? 24).map (·.size) = some cs.size)
    (hp2 : tmps.getD u undef = .pointer (some ⟨g2, 0, none⟩)) (hg2 : w.heap[g2]? = some (.cells cs2 t2 fr2)) (hi2 : (Tryd.prog.info? 24).map (·.size) = some cs2.size) :
    (results fn tmps).run Tryd.prog w = .ok (.tuple #[.agg cs, .agg cs2]) w := by
  have hl := run_loadVar_row (P := Tryd.prog) w g t 24 cs fr _ hg underH rfl hi
  have hl2 := run_loadVar_row (P := Tryd.prog) w g2 t2 24 cs2 fr2 _ hg2 underH rfl hi2
  have hp' : tmps[p]?.getD undef = .pointer (some ⟨g, 0, none⟩) := by simpa using hp
  have hp2' : tmps[u]?.getD undef = .pointer (some ⟨g2, 0, none⟩) := by simpa using hp2
  simp [results, h, hp', hp2', asAddr, hl, hl2, Sem.run_bind, Result.andThen]
theorem b4w {N : Nat} {w W u : World} (hN : N = w.heap.size) (kb : Below w.heap.size w W) (hb : Below (N + 1) W u) : Below w.heap.size w u := by
  subst hN
  exact kb.trans (hb.mono (Nat.le_succ _))
def VB3 (N : Nat) (before : List UInt8) (oi : Nat) (v : Value) (own : Nat → Option Nat) (w : World) : Prop :=
  match oi with
  | 0 => v = .agg (ocells before)
  | 1 => v = .agg (ocells before)
  | 2 => OutV own w (N + 1) 2 24 (ocells before)
  | 3 => OutV own w (N + 2) 3 24 (ocells before)
  | _ => True
def VB3mk : Nat → Option Nat := fun _ => none
theorem VB3_mono (N : Nat) (before : List UInt8) (oi oj : Nat) (v : Value) (own : Nat → Option Nat) (w : World) (own' : Nat → Option Nat) (w' : World) (hij : oi ≠ oj) (h : VB3 N before oj v own w) (r : Rel VB3mk oi own w own' w') : VB3 N before oj v own' w' := by
  unfold VB3 at h ⊢
  split at h
  · exact h
  · exact h
  · exact h.stable r hij
  · exact h.stable r hij
  · trivial

def VB4 (N m cap Ba off : Nat) (px : List UInt8) (oi : Nat) (v : Value) (own : Nat → Option Nat) (w : World) : Prop :=
  match oi with
  | 0 => v = .slice (some ⟨Ba, off, none⟩) (m + 1) cap
  | 1 => v = .pointer (some ⟨Ba, off, none⟩)
  | 2 => v = .agg (ocells px)
  | 3 => v = .slice (some ⟨Ba, off, none⟩) (m + 1) cap
  | 4 => v = .pointer (some ⟨Ba, off, none⟩)
  | 5 => v = .agg (ocells px)
  | 6 => OutV own w (N + 1) 6 24 (ocells px)
  | 7 => OutV own w (N + 2) 7 24 (ocells px)
  | _ => True
def VB4mk : Nat → Option Nat := fun _ => none
theorem VB4_mono (N m cap Ba off : Nat) (px : List UInt8) (oi oj : Nat) (v : Value) (own : Nat → Option Nat) (w : World) (own' : Nat → Option Nat) (w' : World) (hij : oi ≠ oj) (h : VB4 N m cap Ba off px oj v own w) (r : Rel VB4mk oi own w own' w') : VB4 N m cap Ba off px oj v own' w' := by
  unfold VB4 at h ⊢
  split at h
  · exact h
  · exact h
  · exact h
  · exact h
  · exact h
  · exact h
  · exact h.stable r hij
  · exact h.stable r hij
  · trivial

def VB8 (m cap k o Ba off : Nat) (b : Bool) (before x1 y1 : List UInt8) (oi : Nat) (v : Value) (own : Nat → Option Nat) (w : World) : Prop :=
  match oi with
  | 0 => v = .int .u64 (o : Int)
  | 1 => v = .int .u64 (k : Int)
  | 2 => v = .bool b
  | 3 => v = .agg (ocells before)
  | 4 => v = .slice (some ⟨Ba, off, none⟩) (m + 1) cap
  | 5 => v = .int .i64 (m : Int)
  | 6 => v = .slice (some ⟨Ba, off, none⟩) m cap
  | 7 => v = .tuple #[.agg (ocells x1), .agg (ocells y1)]
  | 8 => v = .tuple #[.agg (ocells x1), .agg (ocells y1)]
  | 9 => v = .agg (ocells x1)
  | 10 => v = .agg (ocells y1)
  | 11 => AllocV own w v 13 24 32
  | 12 => AllocV own w v 14 24 32
  | 13 => StoredV own w 13 24 (ocells x1)
  | 14 => StoredV own w 14 24 (ocells y1)
  | _ => True
def VB8mk : Nat → Option Nat := fun j => match j with | 13 => some 11 | 14 => some 12 | _ => none
theorem VB8_mono (m cap k o Ba off : Nat) (b : Bool) (before x1 y1 : List UInt8) (oi oj : Nat) (v : Value) (own : Nat → Option Nat) (w : World) (own' : Nat → Option Nat) (w' : World) (hij : oi ≠ oj) (h : VB8 m cap k o Ba off b before x1 y1 oj v own w) (r : Rel VB8mk oi own w own' w') : VB8 m cap k o Ba off b before x1 y1 oj v own' w' := by
  unfold VB8 at h ⊢
  split at h
  · exact h
  · exact h
  · exact h
  · exact h
  · exact h
  · exact h
  · exact h
  · exact h
  · exact h
  · exact h
  · exact h
  · exact h.stable r rfl hij
  · exact h.stable r rfl hij
  · exact h.stable r hij
  · exact h.stable r hij
  · trivial

def VB9 (N m cap Ba off : Nat) (px x1 y1 : List UInt8) (oi : Nat) (v : Value) (own : Nat → Option Nat) (w : World) : Prop :=
  match oi with
  | 0 => v = .agg (ocells x1)
  | 1 => v = .agg (ocells y1)
  | 2 => v = .slice (some ⟨Ba, off, none⟩) (m + 1) cap
  | 3 => v = .int .i64 (m : Int)
  | 4 => v = .pointer (some ⟨Ba, off + m * 32, none⟩)
  | 5 => v = .agg (ocells px)
  | 6 => v = .agg (ocells (nd y1 px))
  | 7 => OutV own w (N + 1) 7 24 (ocells x1)
  | 8 => OutV own w (N + 2) 8 24 (ocells (nd y1 px))
  | _ => True
def VB9mk : Nat → Option Nat := fun _ => none
theorem VB9_mono (N m cap Ba off : Nat) (px x1 y1 : List UInt8) (oi oj : Nat) (v : Value) (own : Nat → Option Nat) (w : World) (own' : Nat → Option Nat) (w' : World) (hij : oi ≠ oj) (h : VB9 N m cap Ba off px x1 y1 oj v own w) (r : Rel VB9mk oi own w own' w') : VB9 N m cap Ba off px x1 y1 oj v own' w' := by
  unfold VB9 at h ⊢
  split at h
  · exact h
  · exact h
  · exact h
  · exact h
  · exact h
  · exact h
  · exact h
  · exact h.stable r hij
  · exact h.stable r hij
  · trivial

def VB10 (m cap k o s Ba off : Nat) (before x1 y1 : List UInt8) (oi : Nat) (v : Value) (own : Nat → Option Nat) (w : World) : Prop :=
  match oi with
  | 0 => v = .int .u64 (o : Int)
  | 1 => v = .int .u64 (k : Int)
  | 2 => v = .int .u64 ((o - k : Nat) : Int)
  | 3 => v = .int .u64 (s : Int)
  | 4 => v = .int .u64 (k : Int)
  | 5 => v = .int .u64 ((s - k : Nat) : Int)
  | 6 => v = .agg (ocells before)
  | 7 => v = .slice (some ⟨Ba, off, none⟩) (m + 1) cap
  | 8 => v = .int .i64 (m : Int)
  | 9 => v = .slice (some ⟨Ba, off, none⟩) m cap
  | 10 => v = .tuple #[.agg (ocells x1), .agg (ocells y1)]
  | 11 => v = .tuple #[.agg (ocells x1), .agg (ocells y1)]
  | 12 => v = .agg (ocells x1)
  | 13 => v = .agg (ocells y1)
  | 14 => AllocV own w v 16 24 32
  | 15 => AllocV own w v 17 24 32
  | 16 => StoredV own w 16 24 (ocells x1)
  | 17 => StoredV own w 17 24 (ocells y1)
  | _ => True
def VB10mk : Nat → Option Nat := fun j => match j with | 16 => some 14 | 17 => some 15 | _ => none
theorem VB10_mono (m cap k o s Ba off : Nat) (before x1 y1 : List UInt8) (oi oj : Nat) (v : Value) (own : Nat → Option Nat) (w : World) (own' : Nat → Option Nat) (w' : World) (hij : oi ≠ oj) (h : VB10 m cap k o s Ba off before x1 y1 oj v own w) (r : Rel VB10mk oi own w own' w') : VB10 m cap k o s Ba off before x1 y1 oj v own' w' := by
  unfold VB10 at h ⊢
  split at h
  · exact h
  · exact h
  · exact h
  · exact h
  · exact h
  · exact h
  · exact h
  · exact h
  · exact h
  · exact h
  · exact h
  · exact h
  · exact h
  · exact h
  · exact h.stable r rfl hij
  · exact h.stable r rfl hij
  · exact h.stable r hij
  · exact h.stable r hij
  · trivial

def VB11 (N m cap Ba off : Nat) (px x1 y1 : List UInt8) (oi : Nat) (v : Value) (own : Nat → Option Nat) (w : World) : Prop :=
  match oi with
  | 0 => v = .slice (some ⟨Ba, off, none⟩) (m + 1) cap
  | 1 => v = .int .i64 (m : Int)
  | 2 => v = .pointer (some ⟨Ba, off + m * 32, none⟩)
  | 3 => v = .agg (ocells px)
  | 4 => v = .agg (ocells x1)
  | 5 => v = .agg (ocells (nd px x1))
  | 6 => v = .slice (some ⟨Ba, off, none⟩) (m + 1) cap
  | 7 => v = .int .i64 (m : Int)
  | 8 => v = .pointer (some ⟨Ba, off + m * 32, none⟩)
  | 9 => v = .agg (ocells px)
  | 10 => v = .agg (ocells y1)
  | 11 => v = .agg (ocells (nd px y1))
  | 12 => OutV own w (N + 1) 12 24 (ocells (nd px x1))
  | 13 => OutV own w (N + 2) 13 24 (ocells (nd px y1))
  | _ => True
def VB11mk : Nat → Option Nat := fun _ => none
theorem VB11_mono (N m cap Ba off : Nat) (px x1 y1 : List UInt8) (oi oj : Nat) (v : Value) (own : Nat → Option Nat) (w : World) (own' : Nat → Option Nat) (w' : World) (hij : oi ≠ oj) (h : VB11 N m cap Ba off px x1 y1 oj v own w) (r : Rel VB11mk oi own w own' w') : VB11 N m cap Ba off px x1 y1 oj v own' w' := by
  unfold VB11 at h ⊢
  split at h
  · exact h
  · exact h
  · exact h
  · exact h
  · exact h
  · exact h
  · exact h
  · exact h
  · exact h
  · exact h
  · exact h
  · exact h
  · exact h.stable r hij
  · exact h.stable r hij
  · trivial

set_option maxHeartbeats 6400000 in
theorem sub_any (s : Nat) : ∀ (o : Nat) (b : Bool) (w : World) (before : List UInt8) (ad : Option Addr) (n cap : Nat) (ps : List (List UInt8)), 0 < o → o ≤ s → s ≤ 9223372036854775808 → before.length = 32 → Hss w (.slice ad n cap) ps → SubOk b (hsdirs o s) ps →
    Calls Tryd.prog 37 #[.int .u64 (o : Int), .int .u64 (s : Int), .bool b, hv before, .slice ad n cap] w fun e w' => e = .returned (.tuple #[hv (subX b before (hsdirs o s) ps), hv (subY b before (hsdirs o s) ps)]) ∧ Below w.heap.size w w' := by
  induction s using Nat.strongRecOn with
  | _ s ih =>
    intro o b w before ad n cap ps h0 hos hs hl hH hok
    have x0 := ((HashAt.new w before hl).below (er_al (Below.refl _ _) (.cells zeros32 24))).below (er_al (Below.refl _ _) (.cells zeros32 24))
    have x1 : (((w.alloc (.cells (ocells before) 24)).alloc (.cells zeros32 24)).alloc (.cells zeros32 24)).heap[w.heap.size + 1]? = some (.cells zeros32 24 (0, 0)) := by
      rw [Below.heap_alloc _ _ _ (by simp)]; simpa using heap_alloc_new (w.alloc (.cells (ocells before) 24)) (.cells zeros32 24)
    have x2 : (((w.alloc (.cells (ocells before) 24)).alloc (.cells zeros32 24)).alloc (.cells zeros32 24)).heap[w.heap.size + 2]? = some (.cells zeros32 24 (0, 0)) := by
      simpa using heap_alloc_new ((w.alloc (.cells (ocells before) 24)).alloc (.cells zeros32 24)) (.cells zeros32 24)
    have kb : Below w.heap.size w (((w.alloc (.cells (ocells before) 24)).alloc (.cells zeros32 24)).alloc (.cells zeros32 24)) := er_al (er_al (er_al (Below.refl _ _) _) _) _
    have wsz : (((w.alloc (.cells (ocells before) 24)).alloc (.cells zeros32 24)).alloc (.cells zeros32 24)).heap.size = w.heap.size + 3 := by simp
    obtain ⟨_, c', e1, hc1, hc2⟩ := hH.len
    have hcc : cap = c' := by cases e1; rfl
    subst hcc
    have hn : n = ps.length := by cases e1; rfl
    subst hn
    have LL := Bx.mk hl; have HHS := Bx.mk hH; have OK := Bx.mk hok; have IHH := Bx.mk ih; have HC1' := Bx.mk hc1; have HC2 := Bx.mk hc2
    clear hl hH hok ih e1 hc1 hc2
    unfold hv
    go_enter Tryd.func37, Tryd.ntmps37
    go_upto_region 1 with (fail)
    change Code.wp _ _ _ _ (((w.alloc (.cells (ocells before) 24)).alloc (.cells zeros32 24)).alloc (.cells zeros32 24))
    generalize ((w.alloc (.cells (ocells before) 24)).alloc (.cells zeros32 24)).alloc (.cells zeros32 24) = W at x0 x1 x2 kb wsz ⊢
    obtain ⟨N, hN⟩ : ∃ N, N = w.heap.size := ⟨_, rfl⟩
    rw [← hN] at x0 x1 x2 wsz ⊢
    have X0 := Bx.mk x0; have X1 := Bx.mk x1; have X2 := Bx.mk x2; have KB := Bx.mk kb; have WS := Bx.mk wsz; have HN := Bx.mk hN
    clear x0 x1 x2 kb wsz hN
    by_cases heq : o = s
    · have hds := hsdirs_same (o := o) (s := s) (by omega)
      subst heq
      cases b with
      | true =>
        have hv1 : subX true before (hsdirs o o) ps = before := by unfold subX subS; rw [hds]; rfl
        have hv2 : subY true before (hsdirs o o) ps = before := by unfold subY subS; rw [hds]; rfl
        have HVX := Bx.mk hv1; have HVY := Bx.mk hv2
        clear hv1 hv2 hds
        go_upto_region 3 with (fail)
        refine wp_region_own (n := 82) VB3mk (fun k => if k = N + 1 then some 2 else if k = N + 2 then some 3 else none) (VB3 N before) (by kernel_rfl) (by kernel_rfl) rfl ?_ ?_ (VB3_mono N before) ?_ ?_
        · exact fun k hk => by have := WS.out; rw [if_neg (by omega), if_neg (by omega)]
        · exact fun j i h => by cases h
        · intro oi o hi f u own hsame hsn hfr hdep
          have hx0 := (hsn.keep N X0.out.lt (by rw [if_neg (by omega), if_neg (by omega)])).trans X0.out.1
          match oi, hi with
          | 0, hi =>
            cases (show some _ = some o from hi)
            have e8 : f.tmps.getD 8 undef = .pointer (some ⟨N, 0, none⟩) := hsame.slot 8 (fun i o h => invB2_not 8 (by kernel_rfl) h)
            clear hdep hsame hi hfr
            exact ⟨wanted_none rfl, showsO_row hsn rfl 24 (.tmp 8) rfl N e8 (ocells before) hx0 underH rfl (hszL LL.out) rfl⟩
          | 1, hi =>
            cases (show some _ = some o from hi)
            have e8 : f.tmps.getD 8 undef = .pointer (some ⟨N, 0, none⟩) := hsame.slot 8 (fun i o h => invB2_not 8 (by kernel_rfl) h)
            clear hdep hsame hi hfr
            exact ⟨wanted_none rfl, showsO_row hsn rfl 24 (.tmp 8) rfl N e8 (ocells before) hx0 underH rfl (hszL LL.out) rfl⟩
          | 2, hi =>
            cases (show some _ = some o from hi)
            have e10 : f.tmps.getD 10 undef = .pointer (some ⟨N + 1, 0, none⟩) := hsame.slot 10 (fun i o h => invB2_not 10 (by kernel_rfl) h)
            have e22 : f.tmps.getD 22 undef = .agg (ocells before) := depO (V := (VB3 N before)) hdep 0 22 (by kernel_rfl) (by kernel_rfl)
            clear hdep hsame hi hfr
            exact ⟨wanted_none rfl, showsO_store_out hsn rfl 24 (.tmp 10) (.tmp 22) rfl (N + 1) e10 X1.out (if_pos rfl) (ocells before) e22 (hszL LL.out) (hsoL LL.out) (ocells_one _) (fun _ h => h)⟩
          | 3, hi =>
            cases (show some _ = some o from hi)
            have e11 : f.tmps.getD 11 undef = .pointer (some ⟨N + 2, 0, none⟩) := hsame.slot 11 (fun i o h => invB2_not 11 (by kernel_rfl) h)
            have e23 : f.tmps.getD 23 undef = .agg (ocells before) := depO (V := (VB3 N before)) hdep 1 23 (by kernel_rfl) (by kernel_rfl)
            clear hdep hsame hi hfr
            exact ⟨wanted_none rfl, showsO_store_out hsn rfl 24 (.tmp 11) (.tmp 23) rfl (N + 2) e11 X2.out (by rw [if_neg (by omega), if_pos rfl]) (ocells before) e23 (hszL LL.out) (hsoL LL.out) (ocells_one _) (fun _ h => h)⟩
          | n + 4, hi => exact absurd hi (by simp)
        · intro f u own hsame hsn hall
          have hb := hsn.below (B := N + 1) (fun k hk => by rw [if_neg (by omega), if_neg (by omega)]) (by have := WS.out; omega)
          have hbw := b4w HN.out KB.out hb
          have q22 : f.tmps.getD 22 undef = .agg (ocells before) := finO (V := (VB3 N before)) hall 0 22 rfl
          have q23 : f.tmps.getD 23 undef = .agg (ocells before) := finO (V := (VB3 N before)) hall 1 23 rfl
          obtain ⟨o_2, m_2⟩ : OutV own u (N + 1) 2 24 (ocells before) := finN (V := (VB3 N before)) hall 2 rfl
          obtain ⟨o_3, m_3⟩ : OutV own u (N + 2) 3 24 (ocells before) := finN (V := (VB3 N before)) hall 3 rfl
          obtain rfl := frame_eq hsame [(22, .agg (ocells before)), (23, .agg (ocells before))] (by kernel_rfl) ⟨q22, q23, trivial⟩
          clear hall hsame q22 q23
          simp only [List.foldl, List.setIfInBounds_toArray, List.set_cons_succ, List.set_cons_zero]
          have HB := Bx.mk hbw; have HM := Bx.mk m_2; have HM2 := Bx.mk m_3
          clear hb hbw hsn o_2 m_2 o_3 m_3
          go_wp2_with fail
          exact bodyPost_ret (results_two_hashes rfl _ _ (N + 1) (N + 2) _ _ _ _ _ _ rfl HM.out (hszL LL.out) rfl HM2.out (hszL LL.out)) rfl ⟨by rw [HVX.out, HVY.out]; rfl, HB.out⟩
      | false =>
        have hok := OK.out
        unfold SubOk at hok
        rw [hds] at hok
        cases ps with
        | nil => simp at hok
        | cons px r =>
          have hv1 : subX false before (hsdirs o o) (px :: r) = px := by unfold subX subS; rw [hds]; rfl
          have hv2 : subY false before (hsdirs o o) (px :: r) = px := by unfold subY subS; rw [hds]; rfl
          obtain ⟨_, _, _, Ba, off, rfl, hBa, hr, hp0⟩ := HHS.out.at 0 (by simp)
          rw [Nat.zero_mul, Nat.add_zero] at hr
          have hp0' : px.length = 32 := hp0
          have hr' : w.rangeAt Ba off (bcells px) := hr
          have hlen : (px :: r).length = r.length + 1 := rfl
          rw [hlen]
          generalize r.length = m
          have HVX := Bx.mk hv1; have HVY := Bx.mk hv2; have RG := Bx.mk hr'; have BLT := Bx.mk hBa; have PX := Bx.mk hp0'
          clear hv1 hv2 hds hok hr hr' hBa hp0 hp0' hlen
          go_upto_region 4 with (fail)
          refine wp_region_own (n := 82) VB4mk (fun k => if k = N + 1 then some 6 else if k = N + 2 then some 7 else none) (VB4 N m cap Ba off px) (by kernel_rfl) (by kernel_rfl) rfl ?_ ?_ (VB4_mono N m cap Ba off px) ?_ ?_
          · exact fun k hk => by have := WS.out; rw [if_neg (by omega), if_neg (by omega)]
          · exact fun j i h => by cases h
          · intro oi o hi f u own hsame hsn hfr hdep
            have hb := hsn.below (B := N + 1) (fun k hk => by rw [if_neg (by omega), if_neg (by omega)]) (by have := WS.out; omega)
            have hbw := b4w HN.out KB.out hb
            have hr := rangeAt_below RG.out BLT.out hbw
            match oi, hi with
            | 0, hi =>
              cases (show some _ = some o from hi)
              have e4 : f.tmps.getD 4 undef = .slice (some ⟨Ba, off, none⟩) (m + 1) cap := hsame.slot 4 (fun i o h => invB2_not 4 (by kernel_rfl) h)
              clear hdep hsame hi hfr
              exact ⟨wanted_none rfl, showsO_move hsn rfl _ rfl e4⟩
            | 1, hi =>
              cases (show some _ = some o from hi)
              have e24 : f.tmps.getD 24 undef = .slice (some ⟨Ba, off, none⟩) (m + 1) cap := depO (V := (VB4 N m cap Ba off px)) hdep 0 24 (by kernel_rfl) (by kernel_rfl)
              clear hdep hsame hi hfr
              have f1 : ¬ (m : Int) + 1 ≤ 0 := by omega
              have f2 : (0 : Int) < (m : Int) + 1 := by omega
              exact ⟨wanted_none rfl, showsO_pure hsn rfl (.pointer (some ⟨Ba, off, none⟩)) (by simp only [execOp, Act.eval]; go_simp) rfl⟩
            | 2, hi =>
              cases (show some _ = some o from hi)
              have e25 : f.tmps.getD 25 undef = .pointer (some ⟨Ba, off, none⟩) := depO (V := (VB4 N m cap Ba off px)) hdep 1 25 (by kernel_rfl) (by kernel_rfl)
              clear hdep hsame hi hfr
              exact ⟨wanted_none rfl, showsO_mid hsn rfl 24 (.tmp 25) rfl Ba (off) e25 (bcells px) hr underH rfl (hszB PX.out) rfl⟩
            | 3, hi =>
              cases (show some _ = some o from hi)
              have e4 : f.tmps.getD 4 undef = .slice (some ⟨Ba, off, none⟩) (m + 1) cap := hsame.slot 4 (fun i o h => invB2_not 4 (by kernel_rfl) h)
              clear hdep hsame hi hfr
              exact ⟨wanted_none rfl, showsO_move hsn rfl _ rfl e4⟩
            | 4, hi =>
              cases (show some _ = some o from hi)
              have e27 : f.tmps.getD 27 undef = .slice (some ⟨Ba, off, none⟩) (m + 1) cap := depO (V := (VB4 N m cap Ba off px)) hdep 3 27 (by kernel_rfl) (by kernel_rfl)
              clear hdep hsame hi hfr
              have f1 : ¬ (m : Int) + 1 ≤ 0 := by omega
              have f2 : (0 : Int) < (m : Int) + 1 := by omega
              exact ⟨wanted_none rfl, showsO_pure hsn rfl (.pointer (some ⟨Ba, off, none⟩)) (by simp only [execOp, Act.eval]; go_simp) rfl⟩
            | 5, hi =>
              cases (show some _ = some o from hi)
              have e28 : f.tmps.getD 28 undef = .pointer (some ⟨Ba, off, none⟩) := depO (V := (VB4 N m cap Ba off px)) hdep 4 28 (by kernel_rfl) (by kernel_rfl)
              clear hdep hsame hi hfr
              exact ⟨wanted_none rfl, showsO_mid hsn rfl 24 (.tmp 28) rfl Ba (off) e28 (bcells px) hr underH rfl (hszB PX.out) rfl⟩
            | 6, hi =>
              cases (show some _ = some o from hi)
              have e10 : f.tmps.getD 10 undef = .pointer (some ⟨N + 1, 0, none⟩) := hsame.slot 10 (fun i o h => invB2_not 10 (by kernel_rfl) h)
              have e26 : f.tmps.getD 26 undef = .agg (ocells px) := depO (V := (VB4 N m cap Ba off px)) hdep 2 26 (by kernel_rfl) (by kernel_rfl)
              clear hdep hsame hi hfr
              exact ⟨wanted_none rfl, showsO_store_out hsn rfl 24 (.tmp 10) (.tmp 26) rfl (N + 1) e10 X1.out (if_pos rfl) (ocells px) e26 (hszL PX.out) (hsoL PX.out) (ocells_one _) (fun _ h => h)⟩
            | 7, hi =>
              cases (show some _ = some o from hi)
              have e11 : f.tmps.getD 11 undef = .pointer (some ⟨N + 2, 0, none⟩) := hsame.slot 11 (fun i o h => invB2_not 11 (by kernel_rfl) h)
              have e29 : f.tmps.getD 29 undef = .agg (ocells px) := depO (V := (VB4 N m cap Ba off px)) hdep 5 29 (by kernel_rfl) (by kernel_rfl)
              clear hdep hsame hi hfr
              exact ⟨wanted_none rfl, showsO_store_out hsn rfl 24 (.tmp 11) (.tmp 29) rfl (N + 2) e11 X2.out (by rw [if_neg (by omega), if_pos rfl]) (ocells px) e29 (hszL PX.out) (hsoL PX.out) (ocells_one _) (fun _ h => h)⟩
            | n + 8, hi => exact absurd hi (by simp)
          · intro f u own hsame hsn hall
            have hb := hsn.below (B := N + 1) (fun k hk => by rw [if_neg (by omega), if_neg (by omega)]) (by have := WS.out; omega)
            have hbw := b4w HN.out KB.out hb
            have q24 : f.tmps.getD 24 undef = .slice (some ⟨Ba, off, none⟩) (m + 1) cap := finO (V := (VB4 N m cap Ba off px)) hall 0 24 rfl
            have q25 : f.tmps.getD 25 undef = .pointer (some ⟨Ba, off, none⟩) := finO (V := (VB4 N m cap Ba off px)) hall 1 25 rfl
            have q26 : f.tmps.getD 26 undef = .agg (ocells px) := finO (V := (VB4 N m cap Ba off px)) hall 2 26 rfl
            have q27 : f.tmps.getD 27 undef = .slice (some ⟨Ba, off, none⟩) (m + 1) cap := finO (V := (VB4 N m cap Ba off px)) hall 3 27 rfl
            have q28 : f.tmps.getD 28 undef = .pointer (some ⟨Ba, off, none⟩) := finO (V := (VB4 N m cap Ba off px)) hall 4 28 rfl
            have q29 : f.tmps.getD 29 undef = .agg (ocells px) := finO (V := (VB4 N m cap Ba off px)) hall 5 29 rfl
            obtain ⟨o_6, m_6⟩ : OutV own u (N + 1) 6 24 (ocells px) := finN (V := (VB4 N m cap Ba off px)) hall 6 rfl
            obtain ⟨o_7, m_7⟩ : OutV own u (N + 2) 7 24 (ocells px) := finN (V := (VB4 N m cap Ba off px)) hall 7 rfl
            obtain rfl := frame_eq hsame [(24, .slice (some ⟨Ba, off, none⟩) (m + 1) cap), (25, .pointer (some ⟨Ba, off, none⟩)), (26, .agg (ocells px)), (27, .slice (some ⟨Ba, off, none⟩) (m + 1) cap), (28, .pointer (some ⟨Ba, off, none⟩)), (29, .agg (ocells px))] (by kernel_rfl) ⟨q24, q25, q26, q27, q28, q29, trivial⟩
            clear hall hsame q24 q25 q26 q27 q28 q29
            simp only [List.foldl, List.setIfInBounds_toArray, List.set_cons_succ, List.set_cons_zero]
            have HB := Bx.mk hbw; have HM := Bx.mk m_6; have HM2 := Bx.mk m_7
            clear hb hbw hsn o_6 m_6 o_7 m_7
            go_wp2_with fail
            exact bodyPost_ret (results_two_hashes rfl _ _ (N + 1) (N + 2) _ _ _ _ _ _ rfl HM.out (hszL PX.out) rfl HM2.out (hszL PX.out)) rfl ⟨by rw [HVX.out, HVY.out]; rfl, HB.out⟩
    · have hlt : o < s := by omega
      have h2 : 2 ≤ s := by omega
      have hh := fun u => half_any u s h2 hs
      obtain ⟨g1, g2, g3⟩ := half_pos h2
      have hle := hsdirs_le (o := o) (s := s) h2 hlt
      have hgt := hsdirs_gt (o := o) (s := s) h2 hlt
      generalize half s = k at hh g1 g2 g3 hle hgt
      have hs1 : ((o : Int) == (s : Int)) = false := by simp; omega
      have hs1' : ¬ (o : Int) = (s : Int) := by omega
      have hne : 0 < ps.length := by
        have := OK.out
        unfold SubOk at this
        rw [this]
        by_cases h : o ≤ k
        · rw [hle h]; simp; omega
        · rw [hgt h]; simp
      obtain ⟨Ba, off, px, rfl, hB, hr, hpx, hps⟩ := HHS.out.last hne
      obtain ⟨m, hm⟩ : ∃ m, ps.length = m + 1 := ⟨ps.length - 1, by omega⟩
      have htk := HHS.out.take m (by omega)
      rw [hm, show m + 1 - 1 = m from rfl] at hr hps
      generalize hqs : ps.take m = qs at htk hps
      have hql : qs.length = m := by rw [← hqs]; simp; omega
      have hc1 := HC1'.out
      rw [hm] at hc1
      have hq32 : ∀ q ∈ qs, q.length = 32 := htk.1
      have hok := OK.out
      rw [hm]
      have HL1 := Bx.mk hle; have HL2 := Bx.mk hgt; have HF := Bx.mk hh; have PX := Bx.mk hpx; have RG := Bx.mk hr; have BLT := Bx.mk hB; have HPS := Bx.mk hps; have HC1 := Bx.mk hc1; have HQL := Bx.mk hql; have HQ := Bx.mk htk
      have hm0 : (m : Int) + 1 - 1 = (m : Int) := by omega
      have hm1 : (0 : Int) ≤ (m : Int) := by omega
      have hm2 : (m : Int) < 9223372036854775807 := by have := HC2.out; omega
      clear hle hgt hh hpx hr hB hps hc1 hqs hql htk heq hne OK HC1' hm
      rw [HPS.out] at hok
      by_cases hik : o ≤ k
      · have hik' : (o : Int) ≤ (k : Int) := by omega
        have hd := HL1.out hik
        rw [hd] at hok
        obtain ⟨k1, k2, k3⟩ := sub_false (before := before) hok
        have hx32 := subS_32 k1 LL.out hq32
        obtain ⟨x1, hx1⟩ : ∃ x1, x1 = subX b before (hsdirs o k) qs := ⟨_, rfl⟩
        obtain ⟨y1, hy1⟩ : ∃ y1, y1 = subY b before (hsdirs o k) qs := ⟨_, rfl⟩
        have hx1l : x1.length = 32 := by rw [hx1]; exact climbO_length hx32 _ _
        have hy1l : y1.length = 32 := by rw [hy1]; exact climb_length hx32 _ _
        have ihc := fun u hu => IHH.out k (by omega) o b u before (some ⟨Ba, off, none⟩) m cap qs h0 hik (by omega) LL.out hu k1
        have hvx : subX b before (hsdirs o s) ps = x1 := by rw [hd, HPS.out, k2, hx1]
        have hvy : subY b before (hsdirs o s) ps = nd y1 px := by rw [hd, HPS.out, k3, hy1]
        rw [← hx1, ← hy1] at ihc
        simp only [hv_agg] at ihc
        have IH := Bx.mk ihc; have HVX := Bx.mk hvx; have HVY := Bx.mk hvy; have X1L := Bx.mk hx1l; have Y1L := Bx.mk hy1l
        clear ihc hvx hvy hx1l hy1l hx1 hy1 hd hik hok k1 k2 k3 hx32 hq32
        go_upto_region 8 with (go_at_call 43; refine (HF.out _).mono ?_; rintro e w' ⟨rfl, rfl⟩)
        clear hik' hs1 hs1' hm0 hm1 hm2
        refine wp_region_own (n := 82) VB8mk (fun _ => none) (VB8 m cap k o Ba off b before x1 y1) (by kernel_rfl) (by kernel_rfl) rfl ?_ ?_ (VB8_mono m cap k o Ba off b before x1 y1) ?_ ?_
        · exact fun _ _ => rfl
        · exact fun _ _ _ _ h => by cases h
        · intro oi o hi f u own hsame hsn hfr hdep
          have hx0 := (hsn.keep N X0.out.lt rfl).trans X0.out.1
          have hbw := KB.out.trans ((hsn.below (B := N + 3) (fun _ _ => rfl) (Nat.le_of_eq WS.out.symm)).mono (by have := HN.out; omega))
          have hH := HQ.out.below hbw
          match oi, hi with
          | 0, hi =>
            cases (show some _ = some o from hi)
            have e0 : f.tmps.getD 0 undef = .int .u64 (o : Int) := hsame.slot 0 (fun i o h => invB2_not 0 (by kernel_rfl) h)
            clear hdep hsame hi hfr
            exact ⟨wanted_none rfl, showsO_move hsn rfl _ rfl e0⟩
          | 1, hi =>
            cases (show some _ = some o from hi)
            have e12 : f.tmps.getD 12 undef = .int .u64 (k : Int) := hsame.slot 12 (fun i o h => invB2_not 12 (by kernel_rfl) h)
            clear hdep hsame hi hfr
            exact ⟨wanted_none rfl, showsO_move hsn rfl _ rfl e12⟩
          | 2, hi =>
            cases (show some _ = some o from hi)
            have e2 : f.tmps.getD 2 undef = .bool b := hsame.slot 2 (fun i o h => invB2_not 2 (by kernel_rfl) h)
            clear hdep hsame hi hfr
            exact ⟨wanted_none rfl, showsO_move hsn rfl _ rfl e2⟩
          | 3, hi =>
            cases (show some _ = some o from hi)
            have e8 : f.tmps.getD 8 undef = .pointer (some ⟨N, 0, none⟩) := hsame.slot 8 (fun i o h => invB2_not 8 (by kernel_rfl) h)
            clear hdep hsame hi hfr
            exact ⟨wanted_none rfl, showsO_row hsn rfl 24 (.tmp 8) rfl N e8 (ocells before) hx0 underH rfl (hszL LL.out) rfl⟩
          | 4, hi =>
            cases (show some _ = some o from hi)
            have e4 : f.tmps.getD 4 undef = .slice (some ⟨Ba, off, none⟩) (m + 1) cap := hsame.slot 4 (fun i o h => invB2_not 4 (by kernel_rfl) h)
            clear hdep hsame hi hfr
            exact ⟨wanted_none rfl, showsO_move hsn rfl _ rfl e4⟩
          | 5, hi =>
            cases (show some _ = some o from hi)
            have e13 : f.tmps.getD 13 undef = .int .i64 (m : Int) := hsame.slot 13 (fun i o h => invB2_not 13 (by kernel_rfl) h)
            clear hdep hsame hi hfr
            exact ⟨wanted_none rfl, showsO_move hsn rfl _ rfl e13⟩
          | 6, hi =>
            cases (show some _ = some o from hi)
            have e43 : f.tmps.getD 43 undef = .slice (some ⟨Ba, off, none⟩) (m + 1) cap := depO (V := (VB8 m cap k o Ba off b before x1 y1)) hdep 4 43 (by kernel_rfl) (by kernel_rfl)
            have e44 : f.tmps.getD 44 undef = .int .i64 (m : Int) := depO (V := (VB8 m cap k o Ba off b before x1 y1)) hdep 5 44 (by kernel_rfl) (by kernel_rfl)
            clear hdep hsame hi hfr
            have f1 : ¬ cap < m := by have := HC1.out; omega
            have f2 : ¬ ((m : Int) + 1 ≤ (m : Int)) := by omega
            have hc2 := HC2.out
            exact ⟨wanted_none rfl, showsO_pure hsn rfl (.slice (some ⟨Ba, off, none⟩) m cap) (by simp only [execOp, Act.eval]; go_simp) rfl⟩
          | 7, hi =>
            cases (show some _ = some o from hi)
            have e39 : f.tmps.getD 39 undef = .int .u64 (o : Int) := depO (V := (VB8 m cap k o Ba off b before x1 y1)) hdep 0 39 (by kernel_rfl) (by kernel_rfl)
            have e40 : f.tmps.getD 40 undef = .int .u64 (k : Int) := depO (V := (VB8 m cap k o Ba off b before x1 y1)) hdep 1 40 (by kernel_rfl) (by kernel_rfl)
            have e41 : f.tmps.getD 41 undef = .bool b := depO (V := (VB8 m cap k o Ba off b before x1 y1)) hdep 2 41 (by kernel_rfl) (by kernel_rfl)
            have e42 : f.tmps.getD 42 undef = .agg (ocells before) := depO (V := (VB8 m cap k o Ba off b before x1 y1)) hdep 3 42 (by kernel_rfl) (by kernel_rfl)
            have e45 : f.tmps.getD 45 undef = .slice (some ⟨Ba, off, none⟩) m cap := depO (V := (VB8 m cap k o Ba off b before x1 y1)) hdep 6 45 (by kernel_rfl) (by kernel_rfl)
            clear hdep hsame hi hfr
            have c := IH.out u hH
            exact ⟨wanted_none rfl, showsO_call1 hsn rfl 37 #[.int .u64 (o : Int), .int .u64 (k : Int), .bool b, .agg (ocells before), .slice (some ⟨Ba, off, none⟩) m cap] (by simp only [execOp, Act.eval]; go_simp) (c) (fun _ => rfl)⟩
          | 8, hi =>
            cases (show some _ = some o from hi)
            have e46 : f.tmps.getD 46 undef = .tuple #[.agg (ocells x1), .agg (ocells y1)] := depO (V := (VB8 m cap k o Ba off b before x1 y1)) hdep 7 46 (by kernel_rfl) (by kernel_rfl)
            clear hdep hsame hi hfr
            exact ⟨wanted_none rfl, showsO_move hsn rfl _ rfl e46⟩
          | 9, hi =>
            cases (show some _ = some o from hi)
            have e38 : f.tmps.getD 38 undef = .tuple #[.agg (ocells x1), .agg (ocells y1)] := depO (V := (VB8 m cap k o Ba off b before x1 y1)) hdep 8 38 (by kernel_rfl) (by kernel_rfl)
            clear hdep hsame hi hfr
            exact ⟨wanted_none rfl, showsO_pure hsn rfl (.agg (ocells x1)) (by simp only [execOp, Act.eval]; go_simp) rfl⟩
          | 10, hi =>
            cases (show some _ = some o from hi)
            have e38 : f.tmps.getD 38 undef = .tuple #[.agg (ocells x1), .agg (ocells y1)] := depO (V := (VB8 m cap k o Ba off b before x1 y1)) hdep 8 38 (by kernel_rfl) (by kernel_rfl)
            clear hdep hsame hi hfr
            exact ⟨wanted_none rfl, showsO_pure hsn rfl (.agg (ocells y1)) (by simp only [execOp, Act.eval]; go_simp) rfl⟩
          | 11, hi =>
            cases (show some _ = some o from hi)
            clear hdep hsame hi
            exact ⟨wanted_none rfl, showsO_alloc hsn hfr rfl zeros32 24 13 rfl (by simp only [execOp, Act.eval]; go_simp; rfl) (fun h => h)⟩
          | 12, hi =>
            cases (show some _ = some o from hi)
            clear hdep hsame hi
            exact ⟨wanted_none rfl, showsO_alloc hsn hfr rfl zeros32 24 14 rfl (by simp only [execOp, Act.eval]; go_simp; rfl) (fun h => h)⟩
          | 13, hi =>
            cases (show some _ = some o from hi)
            have e14 : AllocV own u (f.tmps.getD 14 undef) 13 24 32 := depO (V := (VB8 m cap k o Ba off b before x1 y1)) hdep 11 14 (by kernel_rfl) (by kernel_rfl)
            have e47 : f.tmps.getD 47 undef = .agg (ocells x1) := depO (V := (VB8 m cap k o Ba off b before x1 y1)) hdep 9 47 (by kernel_rfl) (by kernel_rfl)
            clear hdep hsame hi hfr
            exact ⟨wanted_none rfl, showsO_store_alloc hsn rfl 24 (.tmp 14) (.tmp 47) rfl e14 (ocells x1) e47 (hszL X1L.out) (by rw [ocells_size, X1L.out]) (ocells_one _) (fun _ h => h)⟩
          | 14, hi =>
            cases (show some _ = some o from hi)
            have e15 : AllocV own u (f.tmps.getD 15 undef) 14 24 32 := depO (V := (VB8 m cap k o Ba off b before x1 y1)) hdep 12 15 (by kernel_rfl) (by kernel_rfl)
            have e48 : f.tmps.getD 48 undef = .agg (ocells y1) := depO (V := (VB8 m cap k o Ba off b before x1 y1)) hdep 10 48 (by kernel_rfl) (by kernel_rfl)
            clear hdep hsame hi hfr
            exact ⟨wanted_none rfl, showsO_store_alloc hsn rfl 24 (.tmp 15) (.tmp 48) rfl e15 (ocells y1) e48 (hszL Y1L.out) (by rw [ocells_size, Y1L.out]) (ocells_one _) (fun _ h => h)⟩
          | n + 15, hi => exact absurd hi (by simp)
        · intro f u own hsame hsn hall
          have hbW := hsn.below (B := N + 3) (fun _ _ => rfl) (Nat.le_of_eq WS.out.symm)
          have hus : N + 3 ≤ u.heap.size := by rw [← WS.out]; exact hsn.size
          have q39 : f.tmps.getD 39 undef = .int .u64 (o : Int) := finO (V := (VB8 m cap k o Ba off b before x1 y1)) hall 0 39 rfl
          have q40 : f.tmps.getD 40 undef = .int .u64 (k : Int) := finO (V := (VB8 m cap k o Ba off b before x1 y1)) hall 1 40 rfl
          have q41 : f.tmps.getD 41 undef = .bool b := finO (V := (VB8 m cap k o Ba off b before x1 y1)) hall 2 41 rfl
          have q42 : f.tmps.getD 42 undef = .agg (ocells before) := finO (V := (VB8 m cap k o Ba off b before x1 y1)) hall 3 42 rfl
          have q43 : f.tmps.getD 43 undef = .slice (some ⟨Ba, off, none⟩) (m + 1) cap := finO (V := (VB8 m cap k o Ba off b before x1 y1)) hall 4 43 rfl
          have q44 : f.tmps.getD 44 undef = .int .i64 (m : Int) := finO (V := (VB8 m cap k o Ba off b before x1 y1)) hall 5 44 rfl
          have q45 : f.tmps.getD 45 undef = .slice (some ⟨Ba, off, none⟩) m cap := finO (V := (VB8 m cap k o Ba off b before x1 y1)) hall 6 45 rfl
          have q46 : f.tmps.getD 46 undef = .tuple #[.agg (ocells x1), .agg (ocells y1)] := finO (V := (VB8 m cap k o Ba off b before x1 y1)) hall 7 46 rfl
          have q38 : f.tmps.getD 38 undef = .tuple #[.agg (ocells x1), .agg (ocells y1)] := finO (V := (VB8 m cap k o Ba off b before x1 y1)) hall 8 38 rfl
          have q47 : f.tmps.getD 47 undef = .agg (ocells x1) := finO (V := (VB8 m cap k o Ba off b before x1 y1)) hall 9 47 rfl
          have q48 : f.tmps.getD 48 undef = .agg (ocells y1) := finO (V := (VB8 m cap k o Ba off b before x1 y1)) hall 10 48 rfl
          obtain ⟨g14, q14, o14, m14⟩ := AllocV.stored (finO (V := (VB8 m cap k o Ba off b before x1 y1)) hall 11 14 rfl) (finN (V := (VB8 m cap k o Ba off b before x1 y1)) hall 13 rfl)
          obtain ⟨g15, q15, o15, m15⟩ := AllocV.stored (finO (V := (VB8 m cap k o Ba off b before x1 y1)) hall 12 15 rfl) (finN (V := (VB8 m cap k o Ba off b before x1 y1)) hall 14 rfl)
          obtain rfl := frame_eq hsame [(39, .int .u64 (o : Int)), (40, .int .u64 (k : Int)), (41, .bool b), (42, .agg (ocells before)), (43, .slice (some ⟨Ba, off, none⟩) (m + 1) cap), (44, .int .i64 (m : Int)), (45, .slice (some ⟨Ba, off, none⟩) m cap), (46, .tuple #[.agg (ocells x1), .agg (ocells y1)]), (38, .tuple #[.agg (ocells x1), .agg (ocells y1)]), (47, .agg (ocells x1)), (48, .agg (ocells y1)), (14, .pointer (some ⟨g14, 0, none⟩)), (15, .pointer (some ⟨g15, 0, none⟩))] (by kernel_rfl) ⟨q39, q40, q41, q42, q43, q44, q45, q46, q38, q47, q48, q14, q15, trivial⟩
          clear hall hsame q39 q40 q41 q42 q43 q44 q45 q46 q38 q47 q48 q14 q15
          simp only [List.foldl, List.setIfInBounds_toArray, List.set_cons_succ, List.set_cons_zero]
          have h1 : N + 3 ≤ g14 := by have := hsn.ge o14 (fun _ _ h => by cases h); rw [WS.out] at this; exact this
          have h2 : N + 3 ≤ g15 := by have := hsn.ge o15 (fun _ _ h => by cases h); rw [WS.out] at this; exact this
          have z1 := (hsn.keep (N + 1) (Array.getElem?_eq_some_iff.1 X1.out).1 rfl).trans X1.out
          have z2 := (hsn.keep (N + 2) (Array.getElem?_eq_some_iff.1 X2.out).1 rfl).trans X2.out
          have kb1 : Below w.heap.size w u := KB.out.trans (hbW.mono (by have := HN.out; omega))
          generalize g14 = g1 at h1 m14 ⊢
          generalize g15 = g2 at h2 m15 ⊢
          have Z1 := Bx.mk z1; have Z2 := Bx.mk z2; have KB1 := Bx.mk kb1; have M1 := Bx.mk m14; have M2 := Bx.mk m15; have G1 := Bx.mk h1; have G2 := Bx.mk h2; have US := Bx.mk hus
          clear hbW hus z1 z2 kb1 m14 m15 o14 o15 h1 h2 hsn X0 X1 X2 KB WS
          go_upto_region 9 with (fail)
          refine wp_region_own (n := 82) VB9mk (fun k => if k = N + 1 then some 7 else if k = N + 2 then some 8 else none) (VB9 N m cap Ba off px x1 y1) (by kernel_rfl) (by kernel_rfl) rfl ?_ ?_ (VB9_mono N m cap Ba off px x1 y1) ?_ ?_
          · exact fun k hk => by have := US.out; rw [if_neg (by omega), if_neg (by omega)]
          · exact fun j i h => by cases h
          · intro oi o hi f u own hsame hsn hfr hdep
            have hb := hsn.below (B := N + 1) (fun k hk => by rw [if_neg (by omega), if_neg (by omega)]) (by have := US.out; omega)
            have hbw := b4w HN.out KB1.out hb
            have hr := rangeAt_below RG.out BLT.out hbw
            have hm1 := (hsn.keep g1 (Array.getElem?_eq_some_iff.1 M1.out).1 (by have := G1.out; rw [if_neg (by omega), if_neg (by omega)])).trans M1.out
            have hm2 := (hsn.keep g2 (Array.getElem?_eq_some_iff.1 M2.out).1 (by have := G2.out; rw [if_neg (by omega), if_neg (by omega)])).trans M2.out
            match oi, hi with
            | 0, hi =>
              cases (show some _ = some o from hi)
              have e14 : f.tmps.getD 14 undef = .pointer (some ⟨g1, 0, none⟩) := hsame.slot 14 (fun i o h => invB2_not 14 (by kernel_rfl) h)
              clear hdep hsame hi hfr
              exact ⟨wanted_none rfl, showsO_row hsn rfl 24 (.tmp 14) rfl g1 e14 (ocells x1) hm1 underH rfl (hszL X1L.out) rfl⟩
            | 1, hi =>
              cases (show some _ = some o from hi)
              have e15 : f.tmps.getD 15 undef = .pointer (some ⟨g2, 0, none⟩) := hsame.slot 15 (fun i o h => invB2_not 15 (by kernel_rfl) h)
              clear hdep hsame hi hfr
              exact ⟨wanted_none rfl, showsO_row hsn rfl 24 (.tmp 15) rfl g2 e15 (ocells y1) hm2 underH rfl (hszL Y1L.out) rfl⟩
            | 2, hi =>
              cases (show some _ = some o from hi)
              have e4 : f.tmps.getD 4 undef = .slice (some ⟨Ba, off, none⟩) (m + 1) cap := hsame.slot 4 (fun i o h => invB2_not 4 (by kernel_rfl) h)
              clear hdep hsame hi hfr
              exact ⟨wanted_none rfl, showsO_move hsn rfl _ rfl e4⟩
            | 3, hi =>
              cases (show some _ = some o from hi)
              have e13 : f.tmps.getD 13 undef = .int .i64 (m : Int) := hsame.slot 13 (fun i o h => invB2_not 13 (by kernel_rfl) h)
              clear hdep hsame hi hfr
              exact ⟨wanted_none rfl, showsO_move hsn rfl _ rfl e13⟩
            | 4, hi =>
              cases (show some _ = some o from hi)
              have e51 : f.tmps.getD 51 undef = .slice (some ⟨Ba, off, none⟩) (m + 1) cap := depO (V := (VB9 N m cap Ba off px x1 y1)) hdep 2 51 (by kernel_rfl) (by kernel_rfl)
              have e52 : f.tmps.getD 52 undef = .int .i64 (m : Int) := depO (V := (VB9 N m cap Ba off px x1 y1)) hdep 3 52 (by kernel_rfl) (by kernel_rfl)
              clear hdep hsame hi hfr
              have f2 : ¬ ((m : Int) + 1 ≤ (m : Int)) := by omega
              exact ⟨wanted_none rfl, showsO_pure hsn rfl (.pointer (some ⟨Ba, off + m * 32, none⟩)) (by simp only [execOp, Act.eval]; go_simp) rfl⟩
            | 5, hi =>
              cases (show some _ = some o from hi)
              have e53 : f.tmps.getD 53 undef = .pointer (some ⟨Ba, off + m * 32, none⟩) := depO (V := (VB9 N m cap Ba off px x1 y1)) hdep 4 53 (by kernel_rfl) (by kernel_rfl)
              clear hdep hsame hi hfr
              exact ⟨wanted_none rfl, showsO_mid hsn rfl 24 (.tmp 53) rfl Ba (off + m * 32) e53 (bcells px) hr underH rfl (hszB PX.out) rfl⟩
            | 6, hi =>
              cases (show some _ = some o from hi)
              have e50 : f.tmps.getD 50 undef = .agg (ocells y1) := depO (V := (VB9 N m cap Ba off px x1 y1)) hdep 1 50 (by kernel_rfl) (by kernel_rfl)
              have e54 : f.tmps.getD 54 undef = .agg (ocells px) := depO (V := (VB9 N m cap Ba off px x1 y1)) hdep 5 54 (by kernel_rfl) (by kernel_rfl)
              clear hdep hsame hi hfr
              have c := rnode_any u y1 px Y1L.out PX.out
              rw [hv_agg, hv_agg, hv_agg] at c
              exact ⟨wanted_none rfl, showsO_call1 hsn rfl 44 #[.agg (ocells y1), .agg (ocells px)] (by simp only [execOp, Act.eval]; go_simp) (c) (fun _ => rfl)⟩
            | 7, hi =>
              cases (show some _ = some o from hi)
              have e10 : f.tmps.getD 10 undef = .pointer (some ⟨N + 1, 0, none⟩) := hsame.slot 10 (fun i o h => invB2_not 10 (by kernel_rfl) h)
              have e49 : f.tmps.getD 49 undef = .agg (ocells x1) := depO (V := (VB9 N m cap Ba off px x1 y1)) hdep 0 49 (by kernel_rfl) (by kernel_rfl)
              clear hdep hsame hi hfr
              exact ⟨wanted_none rfl, showsO_store_out hsn rfl 24 (.tmp 10) (.tmp 49) rfl (N + 1) e10 Z1.out (if_pos rfl) (ocells x1) e49 (hszL X1L.out) (hsoL X1L.out) (ocells_one _) (fun _ h => h)⟩
            | 8, hi =>
              cases (show some _ = some o from hi)
              have e11 : f.tmps.getD 11 undef = .pointer (some ⟨N + 2, 0, none⟩) := hsame.slot 11 (fun i o h => invB2_not 11 (by kernel_rfl) h)
              have e55 : f.tmps.getD 55 undef = .agg (ocells (nd y1 px)) := depO (V := (VB9 N m cap Ba off px x1 y1)) hdep 6 55 (by kernel_rfl) (by kernel_rfl)
              clear hdep hsame hi hfr
              exact ⟨wanted_none rfl, showsO_store_out hsn rfl 24 (.tmp 11) (.tmp 55) rfl (N + 2) e11 Z2.out (by rw [if_neg (by omega), if_pos rfl]) (ocells (nd y1 px)) e55 (hszL (nd_length _ _)) (hsoL (nd_length _ _)) (ocells_one _) (fun _ h => h)⟩
            | n + 9, hi => exact absurd hi (by simp)
          · intro f u own hsame hsn hall
            have hb := hsn.below (B := N + 1) (fun k hk => by rw [if_neg (by omega), if_neg (by omega)]) (by have := US.out; omega)
            have hbw := b4w HN.out KB1.out hb
            have q49 : f.tmps.getD 49 undef = .agg (ocells x1) := finO (V := (VB9 N m cap Ba off px x1 y1)) hall 0 49 rfl
            have q50 : f.tmps.getD 50 undef = .agg (ocells y1) := finO (V := (VB9 N m cap Ba off px x1 y1)) hall 1 50 rfl
            have q51 : f.tmps.getD 51 undef = .slice (some ⟨Ba, off, none⟩) (m + 1) cap := finO (V := (VB9 N m cap Ba off px x1 y1)) hall 2 51 rfl
            have q52 : f.tmps.getD 52 undef = .int .i64 (m : Int) := finO (V := (VB9 N m cap Ba off px x1 y1)) hall 3 52 rfl
            have q53 : f.tmps.getD 53 undef = .pointer (some ⟨Ba, off + m * 32, none⟩) := finO (V := (VB9 N m cap Ba off px x1 y1)) hall 4 53 rfl
            have q54 : f.tmps.getD 54 undef = .agg (ocells px) := finO (V := (VB9 N m cap Ba off px x1 y1)) hall 5 54 rfl
            have q55 : f.tmps.getD 55 undef = .agg (ocells (nd y1 px)) := finO (V := (VB9 N m cap Ba off px x1 y1)) hall 6 55 rfl
            obtain ⟨o_7, m_7⟩ : OutV own u (N + 1) 7 24 (ocells x1) := finN (V := (VB9 N m cap Ba off px x1 y1)) hall 7 rfl
            obtain ⟨o_8, m_8⟩ : OutV own u (N + 2) 8 24 (ocells (nd y1 px)) := finN (V := (VB9 N m cap Ba off px x1 y1)) hall 8 rfl
            obtain rfl := frame_eq hsame [(49, .agg (ocells x1)), (50, .agg (ocells y1)), (51, .slice (some ⟨Ba, off, none⟩) (m + 1) cap), (52, .int .i64 (m : Int)), (53, .pointer (some ⟨Ba, off + m * 32, none⟩)), (54, .agg (ocells px)), (55, .agg (ocells (nd y1 px)))] (by kernel_rfl) ⟨q49, q50, q51, q52, q53, q54, q55, trivial⟩
            clear hall hsame q49 q50 q51 q52 q53 q54 q55
            simp only [List.foldl, List.setIfInBounds_toArray, List.set_cons_succ, List.set_cons_zero]
            have HB := Bx.mk hbw; have HM := Bx.mk m_7; have HM2 := Bx.mk m_8
            clear hb hbw hsn o_7 m_7 o_8 m_8
            go_wp2_with fail
            exact bodyPost_ret (results_two_hashes rfl _ _ (N + 1) (N + 2) _ _ _ _ _ _ rfl HM.out (hszL X1L.out) rfl HM2.out (hszL (nd_length _ _))) rfl ⟨by rw [HVX.out, HVY.out]; rfl, HB.out⟩
      · have hik' : ¬ (o : Int) ≤ (k : Int) := by omega
        have hik2 : decide (o ≤ k) = false := decide_eq_false hik
        have hd := HL2.out hik
        rw [hd] at hok
        obtain ⟨k1, k2, k3⟩ := sub_true (before := before) hok
        have hx32 := subS_32 k1 LL.out hq32
        obtain ⟨x1, hx1⟩ : ∃ x1, x1 = subX false before (hsdirs (o - k) (s - k)) qs := ⟨_, rfl⟩
        obtain ⟨y1, hy1⟩ : ∃ y1, y1 = subY false before (hsdirs (o - k) (s - k)) qs := ⟨_, rfl⟩
        have hx1l : x1.length = 32 := by rw [hx1]; exact climbO_length hx32 _ _
        have hy1l : y1.length = 32 := by rw [hy1]; exact climb_length hx32 _ _
        have ihc := fun u hu => IHH.out (s - k) (by omega) (o - k) false u before (some ⟨Ba, off, none⟩) m cap qs (by omega) (by omega) (by omega) LL.out hu k1
        have hvx : subX b before (hsdirs o s) ps = nd px x1 := by rw [hd, HPS.out, k2, hx1]
        have hvy : subY b before (hsdirs o s) ps = nd px y1 := by rw [hd, HPS.out, k3, hy1]
        rw [← hx1, ← hy1] at ihc
        simp only [hv_agg] at ihc
        have d1 := u64_sub (a := o) (b := k) (by omega) (by omega)
        have d2 := u64_sub (a := s) (b := k) (by omega) (by omega)
        have IH := Bx.mk ihc; have HVX := Bx.mk hvx; have HVY := Bx.mk hvy; have X1L := Bx.mk hx1l; have Y1L := Bx.mk hy1l; have D1 := Bx.mk d1; have D2 := Bx.mk d2
        clear ihc hvx hvy hx1l hy1l hx1 hy1 hd hik hok k1 k2 k3 hx32 hq32 d1 d2 hs g1 g2 g3 h0 hos hlt h2
        go_upto_region 10 with (go_at_call 43; refine (HF.out _).mono ?_; rintro e w' ⟨rfl, rfl⟩)
        clear hik' hik2 hs1 hs1' hm0 hm1 hm2
        refine wp_region_own (n := 82) VB10mk (fun _ => none) (VB10 m cap k o s Ba off before x1 y1) (by kernel_rfl) (by kernel_rfl) rfl ?_ ?_ (VB10_mono m cap k o s Ba off before x1 y1) ?_ ?_
        · exact fun _ _ => rfl
        · exact fun _ _ _ _ h => by cases h
        · intro oi o hi f u own hsame hsn hfr hdep
          have hx0 := (hsn.keep N X0.out.lt rfl).trans X0.out.1
          have hbw := KB.out.trans ((hsn.below (B := N + 3) (fun _ _ => rfl) (Nat.le_of_eq WS.out.symm)).mono (by have := HN.out; omega))
          have hH := HQ.out.below hbw
          match oi, hi with
          | 0, hi =>
            cases (show some _ = some o from hi)
            have e0 : f.tmps.getD 0 undef = .int .u64 (o : Int) := hsame.slot 0 (fun i o h => invB2_not 0 (by kernel_rfl) h)
            clear hdep hsame hi hfr
            exact ⟨wanted_none rfl, showsO_move hsn rfl _ rfl e0⟩
          | 1, hi =>
            cases (show some _ = some o from hi)
            have e12 : f.tmps.getD 12 undef = .int .u64 (k : Int) := hsame.slot 12 (fun i o h => invB2_not 12 (by kernel_rfl) h)
            clear hdep hsame hi hfr
            exact ⟨wanted_none rfl, showsO_move hsn rfl _ rfl e12⟩
          | 2, hi =>
            cases (show some _ = some o from hi)
            have e57 : f.tmps.getD 57 undef = .int .u64 (o : Int) := depO (V := (VB10 m cap k o s Ba off before x1 y1)) hdep 0 57 (by kernel_rfl) (by kernel_rfl)
            have e58 : f.tmps.getD 58 undef = .int .u64 (k : Int) := depO (V := (VB10 m cap k o s Ba off before x1 y1)) hdep 1 58 (by kernel_rfl) (by kernel_rfl)
            clear hdep hsame hi hfr
            have d1 := D1.out
            exact ⟨wanted_none rfl, showsO_pure hsn rfl (.int .u64 ((o - k : Nat) : Int)) (by simp only [execOp, Act.eval]; go_simp) rfl⟩
          | 3, hi =>
            cases (show some _ = some o from hi)
            have e1 : f.tmps.getD 1 undef = .int .u64 (s : Int) := hsame.slot 1 (fun i o h => invB2_not 1 (by kernel_rfl) h)
            clear hdep hsame hi hfr
            exact ⟨wanted_none rfl, showsO_move hsn rfl _ rfl e1⟩
          | 4, hi =>
            cases (show some _ = some o from hi)
            have e12 : f.tmps.getD 12 undef = .int .u64 (k : Int) := hsame.slot 12 (fun i o h => invB2_not 12 (by kernel_rfl) h)
            clear hdep hsame hi hfr
            exact ⟨wanted_none rfl, showsO_move hsn rfl _ rfl e12⟩
          | 5, hi =>
            cases (show some _ = some o from hi)
            have e60 : f.tmps.getD 60 undef = .int .u64 (s : Int) := depO (V := (VB10 m cap k o s Ba off before x1 y1)) hdep 3 60 (by kernel_rfl) (by kernel_rfl)
            have e61 : f.tmps.getD 61 undef = .int .u64 (k : Int) := depO (V := (VB10 m cap k o s Ba off before x1 y1)) hdep 4 61 (by kernel_rfl) (by kernel_rfl)
            clear hdep hsame hi hfr
            have d2 := D2.out
            exact ⟨wanted_none rfl, showsO_pure hsn rfl (.int .u64 ((s - k : Nat) : Int)) (by simp only [execOp, Act.eval]; go_simp) rfl⟩
          | 6, hi =>
            cases (show some _ = some o from hi)
            have e8 : f.tmps.getD 8 undef = .pointer (some ⟨N, 0, none⟩) := hsame.slot 8 (fun i o h => invB2_not 8 (by kernel_rfl) h)
            clear hdep hsame hi hfr
            exact ⟨wanted_none rfl, showsO_row hsn rfl 24 (.tmp 8) rfl N e8 (ocells before) hx0 underH rfl (hszL LL.out) rfl⟩
          | 7, hi =>
            cases (show some _ = some o from hi)
            have e4 : f.tmps.getD 4 undef = .slice (some ⟨Ba, off, none⟩) (m + 1) cap := hsame.slot 4 (fun i o h => invB2_not 4 (by kernel_rfl) h)
            clear hdep hsame hi hfr
            exact ⟨wanted_none rfl, showsO_move hsn rfl _ rfl e4⟩
          | 8, hi =>
            cases (show some _ = some o from hi)
            have e13 : f.tmps.getD 13 undef = .int .i64 (m : Int) := hsame.slot 13 (fun i o h => invB2_not 13 (by kernel_rfl) h)
            clear hdep hsame hi hfr
            exact ⟨wanted_none rfl, showsO_move hsn rfl _ rfl e13⟩
          | 9, hi =>
            cases (show some _ = some o from hi)
            have e64 : f.tmps.getD 64 undef = .slice (some ⟨Ba, off, none⟩) (m + 1) cap := depO (V := (VB10 m cap k o s Ba off before x1 y1)) hdep 7 64 (by kernel_rfl) (by kernel_rfl)
            have e65 : f.tmps.getD 65 undef = .int .i64 (m : Int) := depO (V := (VB10 m cap k o s Ba off before x1 y1)) hdep 8 65 (by kernel_rfl) (by kernel_rfl)
            clear hdep hsame hi hfr
            have f1 : ¬ cap < m := by have := HC1.out; omega
            have f2 : ¬ ((m : Int) + 1 ≤ (m : Int)) := by omega
            have hc2 := HC2.out
            exact ⟨wanted_none rfl, showsO_pure hsn rfl (.slice (some ⟨Ba, off, none⟩) m cap) (by simp only [execOp, Act.eval]; go_simp) rfl⟩
          | 10, hi =>
            cases (show some _ = some o from hi)
            have e59 : f.tmps.getD 59 undef = .int .u64 ((o - k : Nat) : Int) := depO (V := (VB10 m cap k o s Ba off before x1 y1)) hdep 2 59 (by kernel_rfl) (by kernel_rfl)
            have e62 : f.tmps.getD 62 undef = .int .u64 ((s - k : Nat) : Int) := depO (V := (VB10 m cap k o s Ba off before x1 y1)) hdep 5 62 (by kernel_rfl) (by kernel_rfl)
            have e63 : f.tmps.getD 63 undef = .agg (ocells before) := depO (V := (VB10 m cap k o s Ba off before x1 y1)) hdep 6 63 (by kernel_rfl) (by kernel_rfl)
            have e66 : f.tmps.getD 66 undef = .slice (some ⟨Ba, off, none⟩) m cap := depO (V := (VB10 m cap k o s Ba off before x1 y1)) hdep 9 66 (by kernel_rfl) (by kernel_rfl)
            clear hdep hsame hi hfr
            have c := IH.out u hH
            exact ⟨wanted_none rfl, showsO_call1 hsn rfl 37 #[.int .u64 ((o - k : Nat) : Int), .int .u64 ((s - k : Nat) : Int), .bool false, .agg (ocells before), .slice (some ⟨Ba, off, none⟩) m cap] (by simp only [execOp, Act.eval]; go_simp) (c) (fun _ => rfl)⟩
          | 11, hi =>
            cases (show some _ = some o from hi)
            have e67 : f.tmps.getD 67 undef = .tuple #[.agg (ocells x1), .agg (ocells y1)] := depO (V := (VB10 m cap k o s Ba off before x1 y1)) hdep 10 67 (by kernel_rfl) (by kernel_rfl)
            clear hdep hsame hi hfr
            exact ⟨wanted_none rfl, showsO_move hsn rfl _ rfl e67⟩
          | 12, hi =>
            cases (show some _ = some o from hi)
            have e56 : f.tmps.getD 56 undef = .tuple #[.agg (ocells x1), .agg (ocells y1)] := depO (V := (VB10 m cap k o s Ba off before x1 y1)) hdep 11 56 (by kernel_rfl) (by kernel_rfl)
            clear hdep hsame hi hfr
            exact ⟨wanted_none rfl, showsO_pure hsn rfl (.agg (ocells x1)) (by simp only [execOp, Act.eval]; go_simp) rfl⟩
          | 13, hi =>
            cases (show some _ = some o from hi)
            have e56 : f.tmps.getD 56 undef = .tuple #[.agg (ocells x1), .agg (ocells y1)] := depO (V := (VB10 m cap k o s Ba off before x1 y1)) hdep 11 56 (by kernel_rfl) (by kernel_rfl)
            clear hdep hsame hi hfr
            exact ⟨wanted_none rfl, showsO_pure hsn rfl (.agg (ocells y1)) (by simp only [execOp, Act.eval]; go_simp) rfl⟩
          | 14, hi =>
            cases (show some _ = some o from hi)
            clear hdep hsame hi
            exact ⟨wanted_none rfl, showsO_alloc hsn hfr rfl zeros32 24 16 rfl (by simp only [execOp, Act.eval]; go_simp; rfl) (fun h => h)⟩
          | 15, hi =>
            cases (show some _ = some o from hi)
            clear hdep hsame hi
            exact ⟨wanted_none rfl, showsO_alloc hsn hfr rfl zeros32 24 17 rfl (by simp only [execOp, Act.eval]; go_simp; rfl) (fun h => h)⟩
          | 16, hi =>
            cases (show some _ = some o from hi)
            have e16 : AllocV own u (f.tmps.getD 16 undef) 16 24 32 := depO (V := (VB10 m cap k o s Ba off before x1 y1)) hdep 14 16 (by kernel_rfl) (by kernel_rfl)
            have e68 : f.tmps.getD 68 undef = .agg (ocells x1) := depO (V := (VB10 m cap k o s Ba off before x1 y1)) hdep 12 68 (by kernel_rfl) (by kernel_rfl)
            clear hdep hsame hi hfr
            exact ⟨wanted_none rfl, showsO_store_alloc hsn rfl 24 (.tmp 16) (.tmp 68) rfl e16 (ocells x1) e68 (hszL X1L.out) (by rw [ocells_size, X1L.out]) (ocells_one _) (fun _ h => h)⟩
          | 17, hi =>
            cases (show some _ = some o from hi)
            have e17 : AllocV own u (f.tmps.getD 17 undef) 17 24 32 := depO (V := (VB10 m cap k o s Ba off before x1 y1)) hdep 15 17 (by kernel_rfl) (by kernel_rfl)
            have e69 : f.tmps.getD 69 undef = .agg (ocells y1) := depO (V := (VB10 m cap k o s Ba off before x1 y1)) hdep 13 69 (by kernel_rfl) (by kernel_rfl)
            clear hdep hsame hi hfr
            exact ⟨wanted_none rfl, showsO_store_alloc hsn rfl 24 (.tmp 17) (.tmp 69) rfl e17 (ocells y1) e69 (hszL Y1L.out) (by rw [ocells_size, Y1L.out]) (ocells_one _) (fun _ h => h)⟩
          | n + 18, hi => exact absurd hi (by simp)
        · intro f u own hsame hsn hall
          have hbW := hsn.below (B := N + 3) (fun _ _ => rfl) (Nat.le_of_eq WS.out.symm)
          have hus : N + 3 ≤ u.heap.size := by rw [← WS.out]; exact hsn.size
          have q57 : f.tmps.getD 57 undef = .int .u64 (o : Int) := finO (V := (VB10 m cap k o s Ba off before x1 y1)) hall 0 57 rfl
          have q58 : f.tmps.getD 58 undef = .int .u64 (k : Int) := finO (V := (VB10 m cap k o s Ba off before x1 y1)) hall 1 58 rfl
          have q59 : f.tmps.getD 59 undef = .int .u64 ((o - k : Nat) : Int) := finO (V := (VB10 m cap k o s Ba off before x1 y1)) hall 2 59 rfl
          have q60 : f.tmps.getD 60 undef = .int .u64 (s : Int) := finO (V := (VB10 m cap k o s Ba off before x1 y1)) hall 3 60 rfl
          have q61 : f.tmps.getD 61 undef = .int .u64 (k : Int) := finO (V := (VB10 m cap k o s Ba off before x1 y1)) hall 4 61 rfl
          have q62 : f.tmps.getD 62 undef = .int .u64 ((s - k : Nat) : Int) := finO (V := (VB10 m cap k o s Ba off before x1 y1)) hall 5 62 rfl
          have q63 : f.tmps.getD 63 undef = .agg (ocells before) := finO (V := (VB10 m cap k o s Ba off before x1 y1)) hall 6 63 rfl
          have q64 : f.tmps.getD 64 undef = .slice (some ⟨Ba, off, none⟩) (m + 1) cap := finO (V := (VB10 m cap k o s Ba off before x1 y1)) hall 7 64 rfl
          have q65 : f.tmps.getD 65 undef = .int .i64 (m : Int) := finO (V := (VB10 m cap k o s Ba off before x1 y1)) hall 8 65 rfl
          have q66 : f.tmps.getD 66 undef = .slice (some ⟨Ba, off, none⟩) m cap := finO (V := (VB10 m cap k o s Ba off before x1 y1)) hall 9 66 rfl
          have q67 : f.tmps.getD 67 undef = .tuple #[.agg (ocells x1), .agg (ocells y1)] := finO (V := (VB10 m cap k o s Ba off before x1 y1)) hall 10 67 rfl
          have q56 : f.tmps.getD 56 undef = .tuple #[.agg (ocells x1), .agg (ocells y1)] := finO (V := (VB10 m cap k o s Ba off before x1 y1)) hall 11 56 rfl
          have q68 : f.tmps.getD 68 undef = .agg (ocells x1) := finO (V := (VB10 m cap k o s Ba off before x1 y1)) hall 12 68 rfl
          have q69 : f.tmps.getD 69 undef = .agg (ocells y1) := finO (V := (VB10 m cap k o s Ba off before x1 y1)) hall 13 69 rfl
          obtain ⟨g16, q16, o16, m16⟩ := AllocV.stored (finO (V := (VB10 m cap k o s Ba off before x1 y1)) hall 14 16 rfl) (finN (V := (VB10 m cap k o s Ba off before x1 y1)) hall 16 rfl)
          obtain ⟨g17, q17, o17, m17⟩ := AllocV.stored (finO (V := (VB10 m cap k o s Ba off before x1 y1)) hall 15 17 rfl) (finN (V := (VB10 m cap k o s Ba off before x1 y1)) hall 17 rfl)
          obtain rfl := frame_eq hsame [(57, .int .u64 (o : Int)), (58, .int .u64 (k : Int)), (59, .int .u64 ((o - k : Nat) : Int)), (60, .int .u64 (s : Int)), (61, .int .u64 (k : Int)), (62, .int .u64 ((s - k : Nat) : Int)), (63, .agg (ocells before)), (64, .slice (some ⟨Ba, off, none⟩) (m + 1) cap), (65, .int .i64 (m : Int)), (66, .slice (some ⟨Ba, off, none⟩) m cap), (67, .tuple #[.agg (ocells x1), .agg (ocells y1)]), (56, .tuple #[.agg (ocells x1), .agg (ocells y1)]), (68, .agg (ocells x1)), (69, .agg (ocells y1)), (16, .pointer (some ⟨g16, 0, none⟩)), (17, .pointer (some ⟨g17, 0, none⟩))] (by kernel_rfl) ⟨q57, q58, q59, q60, q61, q62, q63, q64, q65, q66, q67, q56, q68, q69, q16, q17, trivial⟩
          clear hall hsame q57 q58 q59 q60 q61 q62 q63 q64 q65 q66 q67 q56 q68 q69 q16 q17
          simp only [List.foldl, List.setIfInBounds_toArray, List.set_cons_succ, List.set_cons_zero]
          have h1 : N + 3 ≤ g16 := by have := hsn.ge o16 (fun _ _ h => by cases h); rw [WS.out] at this; exact this
          have h2 : N + 3 ≤ g17 := by have := hsn.ge o17 (fun _ _ h => by cases h); rw [WS.out] at this; exact this
          have z1 := (hsn.keep (N + 1) (Array.getElem?_eq_some_iff.1 X1.out).1 rfl).trans X1.out
          have z2 := (hsn.keep (N + 2) (Array.getElem?_eq_some_iff.1 X2.out).1 rfl).trans X2.out
          have kb1 : Below w.heap.size w u := KB.out.trans (hbW.mono (by have := HN.out; omega))
          generalize g16 = g1 at h1 m16 ⊢
          generalize g17 = g2 at h2 m17 ⊢
          have Z1 := Bx.mk z1; have Z2 := Bx.mk z2; have KB1 := Bx.mk kb1; have M1 := Bx.mk m16; have M2 := Bx.mk m17; have G1 := Bx.mk h1; have G2 := Bx.mk h2; have US := Bx.mk hus
          clear hbW hus z1 z2 kb1 m16 m17 o16 o17 h1 h2 hsn X0 X1 X2 KB WS
          go_upto_region 11 with (fail)
          refine wp_region_own (n := 82) VB11mk (fun k => if k = N + 1 then some 12 else if k = N + 2 then some 13 else none) (VB11 N m cap Ba off px x1 y1) (by kernel_rfl) (by kernel_rfl) rfl ?_ ?_ (VB11_mono N m cap Ba off px x1 y1) ?_ ?_
          · exact fun k hk => by have := US.out; rw [if_neg (by omega), if_neg (by omega)]
          · exact fun j i h => by cases h
          · intro oi o hi f u own hsame hsn hfr hdep
            have hb := hsn.below (B := N + 1) (fun k hk => by rw [if_neg (by omega), if_neg (by omega)]) (by have := US.out; omega)
            have hbw := b4w HN.out KB1.out hb
            have hr := rangeAt_below RG.out BLT.out hbw
            have hm1 := (hsn.keep g1 (Array.getElem?_eq_some_iff.1 M1.out).1 (by have := G1.out; rw [if_neg (by omega), if_neg (by omega)])).trans M1.out
            have hm2 := (hsn.keep g2 (Array.getElem?_eq_some_iff.1 M2.out).1 (by have := G2.out; rw [if_neg (by omega), if_neg (by omega)])).trans M2.out
            match oi, hi with
            | 0, hi =>
              cases (show some _ = some o from hi)
              have e4 : f.tmps.getD 4 undef = .slice (some ⟨Ba, off, none⟩) (m + 1) cap := hsame.slot 4 (fun i o h => invB2_not 4 (by kernel_rfl) h)
              clear hdep hsame hi hfr
              exact ⟨wanted_none rfl, showsO_move hsn rfl _ rfl e4⟩
            | 1, hi =>
              cases (show some _ = some o from hi)
              have e13 : f.tmps.getD 13 undef = .int .i64 (m : Int) := hsame.slot 13 (fun i o h => invB2_not 13 (by kernel_rfl) h)
              clear hdep hsame hi hfr
              exact ⟨wanted_none rfl, showsO_move hsn rfl _ rfl e13⟩
            | 2, hi =>
              cases (show some _ = some o from hi)
              have e70 : f.tmps.getD 70 undef = .slice (some ⟨Ba, off, none⟩) (m + 1) cap := depO (V := (VB11 N m cap Ba off px x1 y1)) hdep 0 70 (by kernel_rfl) (by kernel_rfl)
              have e71 : f.tmps.getD 71 undef = .int .i64 (m : Int) := depO (V := (VB11 N m cap Ba off px x1 y1)) hdep 1 71 (by kernel_rfl) (by kernel_rfl)
              clear hdep hsame hi hfr
              have f2 : ¬ ((m : Int) + 1 ≤ (m : Int)) := by omega
              exact ⟨wanted_none rfl, showsO_pure hsn rfl (.pointer (some ⟨Ba, off + m * 32, none⟩)) (by simp only [execOp, Act.eval]; go_simp) rfl⟩
            | 3, hi =>
              cases (show some _ = some o from hi)
              have e72 : f.tmps.getD 72 undef = .pointer (some ⟨Ba, off + m * 32, none⟩) := depO (V := (VB11 N m cap Ba off px x1 y1)) hdep 2 72 (by kernel_rfl) (by kernel_rfl)
              clear hdep hsame hi hfr
              exact ⟨wanted_none rfl, showsO_mid hsn rfl 24 (.tmp 72) rfl Ba (off + m * 32) e72 (bcells px) hr underH rfl (hszB PX.out) rfl⟩
            | 4, hi =>
              cases (show some _ = some o from hi)
              have e16 : f.tmps.getD 16 undef = .pointer (some ⟨g1, 0, none⟩) := hsame.slot 16 (fun i o h => invB2_not 16 (by kernel_rfl) h)
              clear hdep hsame hi hfr
              exact ⟨wanted_none rfl, showsO_row hsn rfl 24 (.tmp 16) rfl g1 e16 (ocells x1) hm1 underH rfl (hszL X1L.out) rfl⟩
            | 5, hi =>
              cases (show some _ = some o from hi)
              have e73 : f.tmps.getD 73 undef = .agg (ocells px) := depO (V := (VB11 N m cap Ba off px x1 y1)) hdep 3 73 (by kernel_rfl) (by kernel_rfl)
              have e74 : f.tmps.getD 74 undef = .agg (ocells x1) := depO (V := (VB11 N m cap Ba off px x1 y1)) hdep 4 74 (by kernel_rfl) (by kernel_rfl)
              clear hdep hsame hi hfr
              have c := rnode_any u px x1 PX.out X1L.out
              rw [hv_agg, hv_agg, hv_agg] at c
              exact ⟨wanted_none rfl, showsO_call1 hsn rfl 44 #[.agg (ocells px), .agg (ocells x1)] (by simp only [execOp, Act.eval]; go_simp) (c) (fun _ => rfl)⟩
            | 6, hi =>
              cases (show some _ = some o from hi)
              have e4 : f.tmps.getD 4 undef = .slice (some ⟨Ba, off, none⟩) (m + 1) cap := hsame.slot 4 (fun i o h => invB2_not 4 (by kernel_rfl) h)
              clear hdep hsame hi hfr
              exact ⟨wanted_none rfl, showsO_move hsn rfl _ rfl e4⟩
            | 7, hi =>
              cases (show some _ = some o from hi)
              have e13 : f.tmps.getD 13 undef = .int .i64 (m : Int) := hsame.slot 13 (fun i o h => invB2_not 13 (by kernel_rfl) h)
              clear hdep hsame hi hfr
              exact ⟨wanted_none rfl, showsO_move hsn rfl _ rfl e13⟩
            | 8, hi =>
              cases (show some _ = some o from hi)
              have e76 : f.tmps.getD 76 undef = .slice (some ⟨Ba, off, none⟩) (m + 1) cap := depO (V := (VB11 N m cap Ba off px x1 y1)) hdep 6 76 (by kernel_rfl) (by kernel_rfl)
              have e77 : f.tmps.getD 77 undef = .int .i64 (m : Int) := depO (V := (VB11 N m cap Ba off px x1 y1)) hdep 7 77 (by kernel_rfl) (by kernel_rfl)
              clear hdep hsame hi hfr
              have f2 : ¬ ((m : Int) + 1 ≤ (m : Int)) := by omega
              exact ⟨wanted_none rfl, showsO_pure hsn rfl (.pointer (some ⟨Ba, off + m * 32, none⟩)) (by simp only [execOp, Act.eval]; go_simp) rfl⟩
            | 9, hi =>
              cases (show some _ = some o from hi)
              have e78 : f.tmps.getD 78 undef = .pointer (some ⟨Ba, off + m * 32, none⟩) := depO (V := (VB11 N m cap Ba off px x1 y1)) hdep 8 78 (by kernel_rfl) (by kernel_rfl)
              clear hdep hsame hi hfr
              exact ⟨wanted_none rfl, showsO_mid hsn rfl 24 (.tmp 78) rfl Ba (off + m * 32) e78 (bcells px) hr underH rfl (hszB PX.out) rfl⟩
            | 10, hi =>
              cases (show some _ = some o from hi)
              have e17 : f.tmps.getD 17 undef = .pointer (some ⟨g2, 0, none⟩) := hsame.slot 17 (fun i o h => invB2_not 17 (by kernel_rfl) h)
              clear hdep hsame hi hfr
              exact ⟨wanted_none rfl, showsO_row hsn rfl 24 (.tmp 17) rfl g2 e17 (ocells y1) hm2 underH rfl (hszL Y1L.out) rfl⟩
            | 11, hi =>
              cases (show some _ = some o from hi)
              have e79 : f.tmps.getD 79 undef = .agg (ocells px) := depO (V := (VB11 N m cap Ba off px x1 y1)) hdep 9 79 (by kernel_rfl) (by kernel_rfl)
              have e80 : f.tmps.getD 80 undef = .agg (ocells y1) := depO (V := (VB11 N m cap Ba off px x1 y1)) hdep 10 80 (by kernel_rfl) (by kernel_rfl)
              clear hdep hsame hi hfr
              have c := rnode_any u px y1 PX.out Y1L.out
              rw [hv_agg, hv_agg, hv_agg] at c
              exact ⟨wanted_none rfl, showsO_call1 hsn rfl 44 #[.agg (ocells px), .agg (ocells y1)] (by simp only [execOp, Act.eval]; go_simp) (c) (fun _ => rfl)⟩
            | 12, hi =>
              cases (show some _ = some o from hi)
              have e10 : f.tmps.getD 10 undef = .pointer (some ⟨N + 1, 0, none⟩) := hsame.slot 10 (fun i o h => invB2_not 10 (by kernel_rfl) h)
              have e75 : f.tmps.getD 75 undef = .agg (ocells (nd px x1)) := depO (V := (VB11 N m cap Ba off px x1 y1)) hdep 5 75 (by kernel_rfl) (by kernel_rfl)
              clear hdep hsame hi hfr
              exact ⟨wanted_none rfl, showsO_store_out hsn rfl 24 (.tmp 10) (.tmp 75) rfl (N + 1) e10 Z1.out (if_pos rfl) (ocells (nd px x1)) e75 (hszL (nd_length _ _)) (hsoL (nd_length _ _)) (ocells_one _) (fun _ h => h)⟩
            | 13, hi =>
              cases (show some _ = some o from hi)
              have e11 : f.tmps.getD 11 undef = .pointer (some ⟨N + 2, 0, none⟩) := hsame.slot 11 (fun i o h => invB2_not 11 (by kernel_rfl) h)
              have e81 : f.tmps.getD 81 undef = .agg (ocells (nd px y1)) := depO (V := (VB11 N m cap Ba off px x1 y1)) hdep 11 81 (by kernel_rfl) (by kernel_rfl)
              clear hdep hsame hi hfr
              exact ⟨wanted_none rfl, showsO_store_out hsn rfl 24 (.tmp 11) (.tmp 81) rfl (N + 2) e11 Z2.out (by rw [if_neg (by omega), if_pos rfl]) (ocells (nd px y1)) e81 (hszL (nd_length _ _)) (hsoL (nd_length _ _)) (ocells_one _) (fun _ h => h)⟩
            | n + 14, hi => exact absurd hi (by simp)
          · intro f u own hsame hsn hall
            have hb := hsn.below (B := N + 1) (fun k hk => by rw [if_neg (by omega), if_neg (by omega)]) (by have := US.out; omega)
            have hbw := b4w HN.out KB1.out hb
            have q70 : f.tmps.getD 70 undef = .slice (some ⟨Ba, off, none⟩) (m + 1) cap := finO (V := (VB11 N m cap Ba off px x1 y1)) hall 0 70 rfl
            have q71 : f.tmps.getD 71 undef = .int .i64 (m : Int) := finO (V := (VB11 N m cap Ba off px x1 y1)) hall 1 71 rfl
            have q72 : f.tmps.getD 72 undef = .pointer (some ⟨Ba, off + m * 32, none⟩) := finO (V := (VB11 N m cap Ba off px x1 y1)) hall 2 72 rfl
            have q73 : f.tmps.getD 73 undef = .agg (ocells px) := finO (V := (VB11 N m cap Ba off px x1 y1)) hall 3 73 rfl
            have q74 : f.tmps.getD 74 undef = .agg (ocells x1) := finO (V := (VB11 N m cap Ba off px x1 y1)) hall 4 74 rfl
            have q75 : f.tmps.getD 75 undef = .agg (ocells (nd px x1)) := finO (V := (VB11 N m cap Ba off px x1 y1)) hall 5 75 rfl
            have q76 : f.tmps.getD 76 undef = .slice (some ⟨Ba, off, none⟩) (m + 1) cap := finO (V := (VB11 N m cap Ba off px x1 y1)) hall 6 76 rfl
            have q77 : f.tmps.getD 77 undef = .int .i64 (m : Int) := finO (V := (VB11 N m cap Ba off px x1 y1)) hall 7 77 rfl
            have q78 : f.tmps.getD 78 undef = .pointer (some ⟨Ba, off + m * 32, none⟩) := finO (V := (VB11 N m cap Ba off px x1 y1)) hall 8 78 rfl
            have q79 : f.tmps.getD 79 undef = .agg (ocells px) := finO (V := (VB11 N m cap Ba off px x1 y1)) hall 9 79 rfl
            have q80 : f.tmps.getD 80 undef = .agg (ocells y1) := finO (V := (VB11 N m cap Ba off px x1 y1)) hall 10 80 rfl
            have q81 : f.tmps.getD 81 undef = .agg (ocells (nd px y1)) := finO (V := (VB11 N m cap Ba off px x1 y1)) hall 11 81 rfl
            obtain ⟨o_12, m_12⟩ : OutV own u (N + 1) 12 24 (ocells (nd px x1)) := finN (V := (VB11 N m cap Ba off px x1 y1)) hall 12 rfl
            obtain ⟨o_13, m_13⟩ : OutV own u (N + 2) 13 24 (ocells (nd px y1)) := finN (V := (VB11 N m cap Ba off px x1 y1)) hall 13 rfl
            obtain rfl := frame_eq hsame [(70, .slice (some ⟨Ba, off, none⟩) (m + 1) cap), (71, .int .i64 (m : Int)), (72, .pointer (some ⟨Ba, off + m * 32, none⟩)), (73, .agg (ocells px)), (74, .agg (ocells x1)), (75, .agg (ocells (nd px x1))), (76, .slice (some ⟨Ba, off, none⟩) (m + 1) cap), (77, .int .i64 (m : Int)), (78, .pointer (some ⟨Ba, off + m * 32, none⟩)), (79, .agg (ocells px)), (80, .agg (ocells y1)), (81, .agg (ocells (nd px y1)))] (by kernel_rfl) ⟨q70, q71, q72, q73, q74, q75, q76, q77, q78, q79, q80, q81, trivial⟩
            clear hall hsame q70 q71 q72 q73 q74 q75 q76 q77 q78 q79 q80 q81
            simp only [List.foldl, List.setIfInBounds_toArray, List.set_cons_succ, List.set_cons_zero]
            have HB := Bx.mk hbw; have HM := Bx.mk m_12; have HM2 := Bx.mk m_13
            clear hb hbw hsn o_12 m_12 o_13 m_13
            go_wp2_with fail
            exact bodyPost_ret (results_two_hashes rfl _ _ (N + 1) (N + 2) _ _ _ _ _ _ rfl HM.out (hszL (nd_length _ _)) rfl HM2.out (hszL (nd_length _ _))) rfl ⟨by rw [HVX.out, HVY.out]; rfl, HB.out⟩
end Go.Proofs.YtmlpldkgennmkaaDoor
