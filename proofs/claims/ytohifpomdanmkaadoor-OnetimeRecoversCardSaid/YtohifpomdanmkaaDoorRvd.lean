/- cartularylaw22.OnetimeRecovers walked. -/
import Derived.Test.YtohifpomdanmkaaDoorRvc
import Derived.Test.YtohifpomdanmkaaDoorLeft
import Derived.Test.YtohifpomdanmkaaDoorBey
import Derived.Test.YtohifpomdanmkaaDoorOrl
namespace Go.Proofs.YtohifpomdanmkaaDoor
set_option maxRecDepth 100000
open Go.RowKit
/-- a copy of hashes, its mark behind it, in a block of its own -/
structure TwB (w : World) (B : Nat) (ps : List (List UInt8)) : Prop where
  row : ∀ j (hj : j < ps.length), w.rangeAt B (j * 32) (bcells ps[j])
  mark : w.rangeAt B (ps.length * 32) (bcells markH)
  the : w.there B 0 ((ps.length + 1) * 32)
  lt : B < w.heap.size
  len : ∀ x ∈ ps, x.length = 32
theorem TwB.kept {w w' : World} {B : Nat} {ps : List (List UInt8)} (h : TwB w B ps) {S : Nat → Prop} (k : Keep S w w') (hB : ¬ S B) : TwB w' B ps := by
  have e := k.block B h.lt hB
  have hc : ∀ q, w'.cell? ⟨B, q, none⟩ = w.cell? ⟨B, q, none⟩ := fun q => by unfold World.cell?; simp only [e]
  have hf : ∀ q, w'.frozen? ⟨B, q, none⟩ = w.frozen? ⟨B, q, none⟩ := fun q => by unfold World.frozen?; simp only [e]
  exact ⟨fun j hj i x hx => (hc _).trans (h.row j hj i x hx), fun i x hx => (hc _).trans (h.mark i x hx), fun j hj => by rw [hc, hf]; exact h.the j hj, Nat.lt_of_lt_of_le h.lt k.size, h.len⟩
theorem TwB.below {w w' : World} {B : Nat} {ps : List (List UInt8)} (h : TwB w B ps) (k : Below w.heap.size w w') : TwB w' B ps := h.kept (Keep.of_below k (fun _ => False)) (fun h => h)
theorem TwB.hss {w : World} {B : Nat} {ps : List (List UInt8)} (h : TwB w B ps) (hm : ps.length ≤ 1048576) : Hss w (.slice (some ⟨B, 0, none⟩) ps.length (ps.length + 1)) ps :=
  ⟨h.len, _, ps.length + 1, rfl, by omega, by unfold maxLen; omega, fun _ => ⟨B, 0, rfl, h.lt, fun i hi => by rw [Nat.zero_add]; exact h.row i hi⟩⟩
theorem TwB.twin {w : World} {B : Nat} {ps : List (List UInt8)} (h : TwB w B ps) (hm : ps.length ≤ 1048576) : TwinAt w (.slice (some ⟨B, 0, none⟩) ps.length (ps.length + 1)) ps :=
  ⟨h.hss hm, B, rfl, h.lt, h.mark⟩
theorem TwB.of {w : World} {B : Nat} {v : Value} {ps : List (List UInt8)} (h : TwinAt w v ps) (hv : v = .slice (some ⟨B, 0, none⟩) ps.length (ps.length + 1)) (ht : w.there B 0 ((ps.length + 1) * 32)) : TwB w B ps := by
  subst hv
  obtain ⟨h1, B', e, hB, hr⟩ := h
  cases e
  refine ⟨fun j hj => ?_, hr, ht, hB, h1.1⟩
  obtain ⟨_, _, _, B', off, e, _, h3, _⟩ := h1.at j hj
  cases e
  rwa [Nat.zero_add] at h3
/-- one byte is written -/
theorem TwB.tweak {w : World} {B : Nat} {ps : List (List UInt8)} (h : TwB w B ps) (t q : Nat) (ht : t < ps.length) (hq : q < 32) (x : UInt8) :
    TwB (w.setCell ⟨B, t * 32 + q, none⟩ (.int .u8 (x.toNat : Int))) B (ps.set t (ps[t].set q x)) := by
  have hl : ∀ j (hj : j < ps.length), (bcells ps[j]).length = 32 := fun j hj => by rw [bcells_length]; exact h.len _ (List.getElem_mem hj)
  show TwB (w.setCells B (t * 32 + q) [.int .u8 (x.toNat : Int)]) B _
  have hth : w.there B (t * 32 + q) 1 := fun j hj => by
    have := h.the (t * 32 + q + j) (by omega)
    rwa [Nat.zero_add] at this
  refine ⟨fun j hj => ?_, ?_, ?_, ?_, fun y hy => ?_⟩
  · rw [List.length_set] at hj
    by_cases hjt : j = t
    · subst hjt
      rw [List.getElem_set_self]
      intro i y hy
      by_cases hiq : i = q
      · subst hiq
        have h1 := World.rangeAt_setCells_same w B (j * 32 + i) [.int .u8 (x.toNat : Int)] (by simpa using hth) 0 _ rfl
        have hil : i < ps[j].length := by rw [h.len _ (List.getElem_mem ht)]; exact hq
        have : y = .int .u8 (x.toNat : Int) := by simpa [bcells, bcell, hil] using hy.symm
        subst this
        exact h1
      · have h0 : (bcells ps[j])[i]? = some y := by simpa [bcells, List.getElem?_set, Ne.symm hiq] using hy
        have h1 : w.rangeAt B (j * 32 + i) [y] := fun k z hz => by
          cases k with
          | zero => have e : y = z := by simpa using hz
                    subst e; exact h.row j ht i y h0
          | succ k => simp at hz
        have h2 := World.rangeAt_setCells_apart h1 B (j * 32 + q) [.int .u8 (x.toNat : Int)] (by simp; omega)
        exact h2 0 y rfl
    · rw [List.getElem_set_ne (Ne.symm hjt)]
      refine World.rangeAt_setCells_apart (h.row j hj) B _ _ ?_
      rw [hl j hj]
      simp
      omega
  · rw [List.length_set]
    refine World.rangeAt_setCells_apart h.mark B _ _ ?_
    rw [bcells_length, markH_length]
    simp
    omega
  · rw [List.length_set]
    exact World.there_setCells h.the _ _ _
  · rw [size_setCells]; exact h.lt
  · rcases List.mem_or_eq_of_mem_set hy with h1 | rfl
    · exact h.len _ h1
    · rw [List.length_set]; exact h.len _ (List.getElem_mem ht)
/-- hashes of which the first ones have a byte turned -/
def twk (hs : List (List UInt8)) : Nat → List (List UInt8)
  | 0 => hs
  | t + 1 => (twk hs t).set t (((twk hs t).getD t []).set (t % 32) ((((twk hs t).getD t []).getD (t % 32) 0) ^^^ 64))
theorem twk_length (hs : List (List UInt8)) : ∀ t, (twk hs t).length = hs.length
  | 0 => rfl
  | t + 1 => by rw [twk, List.length_set, twk_length hs t]
theorem heap_alloc_two (w : World) (a b : Obj) : ((w.alloc a).alloc b).heap[w.heap.size]? = some a := (Below.heap_alloc _ _ _ (by simp)).trans (heap_alloc_new _ _)
theorem xor64 : ∀ c : Nat, c < 256 → bits .xor .u8 (c : Int) 64 = ((c ^^^ 64 : Nat) : Int) := by decide +kernel
theorem keep_drew (S : Nat → Prop) (w : World) : Keep S w w.drew := ⟨rfl, rfl, rfl, Nat.le_refl _, fun _ _ _ => rfl⟩
theorem hss_keep {w w' : World} {g n c : Nat} {hs : List (List UInt8)} (h : Hss w (.slice (some ⟨g, 0, none⟩) n c) hs) (e : w'.heap[g]? = w.heap[g]?) (hs' : w.heap.size ≤ w'.heap.size) : Hss w' (.slice (some ⟨g, 0, none⟩) n c) hs := by
  obtain ⟨h0, a', cap', h1, h2, h3, h4⟩ := h
  cases h1
  refine ⟨h0, _, _, rfl, h2, h3, fun hne => ?_⟩
  obtain ⟨B, off, e1, e2, e3⟩ := h4 hne
  cases e1
  refine ⟨g, 0, rfl, Nat.lt_of_lt_of_le e2 hs', fun i hi j v hv => ?_⟩
  have := e3 i hi j v hv
  unfold World.cell? at this ⊢
  simp only [e]
  exact this
/-- a slice of hashes in a block that nothing writes -/
def HssF (own : Nat → Option Nat) (w : World) (v : Value) (n c : Nat) (hs : List (List UInt8)) : Prop := ∃ g, v = .slice (some ⟨g, 0, none⟩) n c ∧ g < w.heap.size ∧ own g = none ∧ Hss w (.slice (some ⟨g, 0, none⟩) n c) hs
theorem HssF.stable {mk own own' : Nat → Option Nat} {w w' : World} {i n c : Nat} {v : Value} {hs : List (List UInt8)} (h : HssF own w v n c hs) (r : Rel mk i own w own' w') : HssF own' w' v n c hs := by
  obtain ⟨g, rfl, h1, h2, h3⟩ := h
  exact ⟨g, rfl, Nat.lt_of_lt_of_le h1 r.size, (r.owns g h1).trans h2, hss_keep h3 (r.keep g h1 (by rw [h2]; simp)) r.size⟩
/-- two blocks that two operations own -/
def ownTwo (g h i j : Nat) : Nat → Option Nat := fun k => if k = g then some i else if k = h then some j else none
theorem ownTwo_none {g h i j k : Nat} (h1 : k ≠ g) (h2 : k ≠ h) : ownTwo g h i j k = none := by unfold ownTwo; rw [if_neg h1, if_neg h2]
theorem ownTwo_one (g h i j : Nat) : ownTwo g h i j g = some i := by unfold ownTwo; rw [if_pos rfl]
theorem ownTwo_two {g h i j : Nat} (hn : h ≠ g) : ownTwo g h i j h = some j := by unfold ownTwo; rw [if_neg hn, if_pos rfl]
theorem Since.keepTwo {g h i j : Nat} {own : Nat → Option Nat} {w0 w : World} (s : Since (ownTwo g h i j) w0 own w) : Keep (fun k => k = g ∨ k = h) w0 w :=
  ⟨s.os, s.tape, s.output, s.size, fun k hk hn => s.keep k hk (ownTwo_none (fun e => hn (.inl e)) (fun e => hn (.inr e)))⟩
/-- the two answers, and that they are the same -/
theorem rec_ways (A : Nat → Addr) (m : List UInt8) (hs : List (List UInt8)) : ∃ (X : List UInt8) (ev : Value) (fc fa : Int), X.length = 32 ∧ recV A m hs = .tuple #[.agg (ocells X), ev] ∧ rrecV m hs = .tuple #[.agg (ocells X), .agg #[.int .i64 fc, .int .i64 fa]] ∧
    ∀ u, Errs u A → Calls Tryd.prog 11 #[ev, .agg #[.int .i64 fc, .int .i64 fa]] u fun e w' => e = .returned (.bool true) ∧ Below u.heap.size u w' := by
  by_cases h : hs.length = 67
  · refine ⟨recoverB m hs, .nilIface, 0, 0, sha_length _, by unfold recV; rw [if_pos h]; rfl, by unfold rrecV; rw [if_pos h]; rfl, fun u hE => (same_err hE .no 0 0).mono fun e w' ⟨h1, h2⟩ => ⟨h1.trans (by simp), h2⟩⟩
  · refine ⟨zero32', argErr A, 2, -1, zero32'_length, by unfold recV; rw [if_neg h]; rfl, by unfold rrecV; rw [if_neg h]; rfl, fun u hE => (same_err hE (.plain 1 (by decide)) 2 (-1)).mono fun e w' ⟨h1, h2⟩ => ⟨h1.trans (by simp), h2⟩⟩
def VRd (_N B l g6 : Nat) (m X' : List UInt8) (fc' fa' : Int) (h2 : List (List UInt8)) (oi : Nat) (v : Value) (own : Nat → Option Nat) (w : World) : Prop :=
  match oi with
  | 0 => v = .agg (ocells (m))
  | 1 => v = .slice (some ⟨B, 0, none⟩) l (l + 1)
  | 2 => HssF own w v l (l + 1) h2
  | 3 => v = .tuple #[.agg (ocells (X')), .agg #[.int .i64 fc', .int .i64 fa']]
  | 4 => v = .tuple #[.agg (ocells (X')), .agg #[.int .i64 fc', .int .i64 fa']]
  | 5 => v = .agg (ocells (X'))
  | 6 => v = .agg #[.int .i64 fc', .int .i64 fa']
  | 7 => OutV own w (g6) 7 23 (ocells X')
  | 8 => OutV own w (g6 + 1) 8 28 #[.int .i64 fc', .int .i64 fa']
  | _ => True
def VRdmk : Nat → Option Nat := fun _ => none
theorem VRd_mono (N B l g6 : Nat) (m X' : List UInt8) (fc' fa' : Int) (h2 : List (List UInt8)) (oi oj : Nat) (v : Value) (own : Nat → Option Nat) (w : World) (own' : Nat → Option Nat) (w' : World) (hij : oi ≠ oj)  (h : VRd N B l g6 m X' fc' fa' h2 oj v own w) (r : Rel VRdmk oi own w own' w') : VRd N B l g6 m X' fc' fa' h2 oj v own' w' := by
  unfold VRd at h ⊢
  split at h
  · exact h
  · exact h
  · exact h.stable r
  · exact h
  · exact h
  · exact h
  · exact h
  · exact h.stable r hij
  · exact h.stable r hij
  · trivial

set_option maxHeartbeats 6400000 in
theorem recovers_any (A : Nat → Addr) (w : World) (m : List UInt8) (hm : m.length = 32) (ad : Option Addr) (n cap : Nat) (hs : List (List UInt8)) (hH : Hss w (.slice ad n cap) hs) (hT : Hs A w) :
    Calls Tryd.prog 3 #[hv m, .slice ad n cap] w fun e w' => e = .returned (.bool true) ∧ Below w.heap.size w w' := by
  have x0 := HashAt.new w m hm
  have kb := er_al (Below.refl w.heap.size w) (.cells (ocells m) 23)
  obtain ⟨_, c', e1, hc1, hc2⟩ := hH.len
  have hcc : cap = c' := by cases e1; rfl
  subst hcc
  have hn : n = hs.length := by cases e1; rfl
  subst hn
  have ML := Bx.mk hm; have HT := Bx.mk hT; have HHS := Bx.mk hH; have HC := Bx.mk (And.intro hc1 hc2)
  clear hm hT hH e1
  unfold hv
  go_enter Tryd.func3, Tryd.ntmps3
  go_upto_region 1 with (fail)
  change Code.wp _ _ _ _ (w.alloc (.cells (ocells m) 23))
  generalize w.alloc (.cells (ocells m) 23) = W at x0 kb ⊢
  obtain ⟨N, hN⟩ : ∃ N, N = w.heap.size := ⟨_, rfl⟩
  rw [← hN] at x0 ⊢
  have X0 := Bx.mk x0; have K0 := Bx.mk kb; have HN := Bx.mk hN
  clear x0 kb hN
  go_wp2_with fail
  have cb := beyond_any (W.alloc (.cells #[.int .i64 (hs.length : Int)] 3)) (.slice (some ⟨W.heap.size, 0, none⟩) 1 1) [hs.length] (ints_one _ _ _ rfl) (by simp; omega)
  have b2 := er_al (Below.refl W.heap.size W) (.cells #[.int .i64 (hs.length : Int)] 3)
  refine cb.mono ?_
  clear cb
  rintro e w2 ⟨rfl, hw2⟩
  rw [hw2] at b2
  clear hw2
  have Y0 := Bx.mk (X0.out.below b2); have K2 := Bx.mk (K0.out.trans (b2.mono K0.out.size))
  clear b2 X0 K0
  rw [show ([hs.length].sum : Nat) = hs.length by simp]
  by_cases hgt : 1048576 < hs.length
  · rw [decide_eq_true hgt]
    go_wp2_with fail
    exact bodyPost_ret (results_tmp rfl _ _ _) rfl ⟨rfl, K2.out⟩
  · rw [decide_eq_false hgt]
    have HG := Bx.mk (Nat.le_of_not_lt hgt)
    obtain ⟨X, ev, fc, fa, hXl, hr1, hr2, hsame⟩ := rec_ways A m hs
    have XL := Bx.mk hXl; have R1 := Bx.mk hr1; have R2 := Bx.mk hr2; have SM := Bx.mk hsame
    clear hgt hXl hr1 hr2 hsame
    have ct := twinB_any w2 ad _ _ hs (HHS.out.below K2.out) HG.out
    go_wp2_with fail
    refine ct.mono ?_
    clear ct
    rintro e w3 ⟨v, rfl, ⟨ht1, ht2, ht3⟩, hb⟩
    have tb := TwB.of ht1 ht2 ht3
    subst ht2
    obtain ⟨B, hB⟩ : ∃ B, B = w2.heap.size := ⟨_, rfl⟩
    rw [← hB] at tb ⊢
    have T3 := Bx.mk tb; have Z0 := Bx.mk (Y0.out.below hb); have K3 := Bx.mk (K2.out.trans (hb.mono K2.out.size)); have HB := Bx.mk hB
    have NB := Bx.mk (show N < B by rw [hB]; exact (Array.getElem?_eq_some_iff.1 Y0.out.1).1)
    clear ht1 ht3 tb hb hB Y0
    go_wp2_with (guard_target =~ wpList _ _ _ (⟨some 18, _, _, _, _, _⟩ :: _) _ _; refine wpList_load_row rfl 23 (.tmp 2) rfl N rfl _ _ _ _ Z0.out.1 underH rfl (hszL ML.out) ?_)
    have cr := rrec22_any w3 m ML.out ad _ cap hs (HHS.out.below K3.out)
    rw [hv_agg, R2.out] at cr
    refine cr.mono ?_
    clear cr
    rintro e w4 ⟨rfl, hb⟩
    have T4 := Bx.mk (T3.out.below hb); have Y0 := Bx.mk (Z0.out.below hb); have K4 := Bx.mk (K3.out.trans (hb.mono K3.out.size))
    clear hb T3 Z0 K3
    go_upto_region 5 with (guard_target =~ wpList _ _ _ (⟨none, _, _, _, _, _⟩ :: _) _ _; refine wpList_store_row rfl 23 (.tmp 6) (.tmp 21) rfl w4.heap.size (ocells X) rfl rfl _ zeros32 (heap_alloc_two _ _ _) (hszL XL.out) (hsoL XL.out) (ocells_one _) ?_; rw [setRow_alloc2 _ _ _ _ _ _ rfl])
    have x6 := heap_alloc_two w4 (.cells (ocells X) 23) (.cells #[.int .i64 fc, .int .i64 fa] 28)
    have x7 : ((w4.alloc (.cells (ocells X) 23)).alloc (.cells #[.int .i64 fc, .int .i64 fa] 28)).heap[w4.heap.size + 1]? = some (.cells #[.int .i64 fc, .int .i64 fa] 28 (0, 0)) := by simpa using heap_alloc_new (w4.alloc (.cells (ocells X) 23)) (.cells #[.int .i64 fc, .int .i64 fa] 28)
    have b5 := er_al (er_al (Below.refl w4.heap.size w4) (.cells (ocells X) 23)) (.cells #[.int .i64 fc, .int .i64 fa] 28)
    generalize (w4.alloc (.cells (ocells X) 23)).alloc (.cells #[.int .i64 fc, .int .i64 fa] 28) = w5 at x6 x7 b5 ⊢
    obtain ⟨g6, hg6⟩ : ∃ g, g = w4.heap.size := ⟨_, rfl⟩
    have NB6 := Bx.mk (show B < g6 by rw [hg6]; exact T4.out.lt)
    rw [← hg6] at x6 x7 ⊢
    have X6 := Bx.mk x6; have X7 := Bx.mk x7
    have T5 := Bx.mk (T4.out.below b5); have Z0 := Bx.mk (Y0.out.below b5); have K5 := Bx.mk (K4.out.trans (b5.mono K4.out.size))
    clear x6 x7 b5 hg6 T4 Y0 K4
    go_wp2_with (guard_target =~ wpList _ _ _ (⟨some 24, _, _, _, _, _⟩ :: _) _ _; refine wpList_load_row rfl 23 (.tmp 2) rfl N rfl _ _ _ _ Z0.out.1 underH rfl (hszL ML.out) ?_)
    have cr := recover_any A w5 m ML.out _ _ _ hs (T5.out.hss HG.out) (HT.out.below K5.out)
    rw [hv_agg, R1.out] at cr
    refine cr.mono ?_
    clear cr
    rintro e w6 ⟨rfl, hb⟩
    have T6 := Bx.mk (T5.out.below hb); have Y0 := Bx.mk (Z0.out.below hb); have K6 := Bx.mk (K5.out.trans (hb.mono K5.out.size))
    have Y6 := Bx.mk ((hb.block _ (Array.getElem?_eq_some_iff.1 X6.out).1).trans X6.out); have Y7 := Bx.mk ((hb.block _ (Array.getElem?_eq_some_iff.1 X7.out).1).trans X7.out)
    clear hb T5 Z0 K5 X6 X7
    go_upto_region 6 with (guard_target =~ wpList _ _ _ (⟨none, _, _, _, _, _⟩ :: _) _ _; refine wpList_store_row rfl 23 (.tmp 8) (.tmp 27) rfl w6.heap.size (ocells X) rfl rfl _ zeros32 (heap_alloc_new _ _) (hszL XL.out) (hsoL XL.out) (ocells_one _) ?_; rw [setRow_alloc_new _ _ _ _ _ rfl])
    have x8 := heap_alloc_new w6 (.cells (ocells X) 23)
    have b7 := er_al (Below.refl w6.heap.size w6) (.cells (ocells X) 23)
    generalize w6.alloc (.cells (ocells X) 23) = w7 at x8 b7 ⊢
    obtain ⟨g8, hg8⟩ : ∃ g, g = w6.heap.size := ⟨_, rfl⟩
    have NB8 := Bx.mk (show g6 + 1 < g8 by rw [hg8]; exact (Array.getElem?_eq_some_iff.1 Y7.out).1)
    rw [← hg8] at x8 ⊢
    have X8 := Bx.mk x8
    have T7 := Bx.mk (T6.out.below b7); have Z0 := Bx.mk (Y0.out.below b7); have K7 := Bx.mk (K6.out.trans (b7.mono K6.out.size))
    have X6 := Bx.mk ((b7.block _ (Array.getElem?_eq_some_iff.1 Y6.out).1).trans Y6.out); have X7 := Bx.mk ((b7.block _ (Array.getElem?_eq_some_iff.1 Y7.out).1).trans Y7.out)
    clear x8 b7 hg8 T6 Y0 K6 Y6 Y7
    have q := fun u => hv_neq u X X XL.out XL.out
    simp only [beq_self_eq_true, hv_agg, Bool.not_true] at q
    go_wp2_with (first
      | (guard_target =~ wpList _ _ _ (⟨some 29, _, _, _, _, _⟩ :: _) _ _; refine wpList_load_row rfl 23 (.tmp 8) rfl g8 rfl _ _ _ _ X8.out underH rfl (hszL XL.out) ?_)
      | (guard_target =~ wpList _ _ _ (⟨some 30, _, _, _, _, _⟩ :: _) _ _; refine wpList_load_row rfl 23 (.tmp 6) rfl g6 rfl _ _ _ _ X6.out underH rfl (hszL XL.out) ?_)
      | (guard_target =~ wpList _ _ _ (⟨some 34, _, _, _, _, _⟩ :: _) _ _; refine wpList_load_row_w (by simp [Region.wanted, yielded]) 28 (.tmp 7) rfl (g6 + 1) rfl _ _ _ _ X7.out Tryd.underlying28 rfl (by kernel_rfl) ?_))
    refine (SM.out w7 (HT.out.below K7.out).err).mono ?_
    rintro e w8 ⟨rfl, hb⟩
    have T8 := Bx.mk (T7.out.below hb); have Y0 := Bx.mk (Z0.out.below hb); have K8 := Bx.mk (K7.out.trans (hb.mono K7.out.size))
    have Y6 := Bx.mk ((hb.block _ (Array.getElem?_eq_some_iff.1 X6.out).1).trans X6.out); have Y7 := Bx.mk ((hb.block _ (Array.getElem?_eq_some_iff.1 X7.out).1).trans X7.out); have Y8 := Bx.mk ((hb.block _ (Array.getElem?_eq_some_iff.1 X8.out).1).trans X8.out)
    clear hb T7 Z0 K7 X6 X7 X8 q
    go_wp2_with fail
    refine (left_any w8 _ hs ad _ cap (T8.out.twin HG.out) (HHS.out.below K8.out) HG.out).mono ?_
    rintro e w9 ⟨rfl, hb⟩
    have T9 := Bx.mk (T8.out.below hb); have Z0 := Bx.mk (Y0.out.below hb); have K9 := Bx.mk (K8.out.trans (hb.mono K8.out.size))
    have X6 := Bx.mk ((hb.block _ (Array.getElem?_eq_some_iff.1 Y6.out).1).trans Y6.out); have X7 := Bx.mk ((hb.block _ (Array.getElem?_eq_some_iff.1 Y7.out).1).trans Y7.out); have X8 := Bx.mk ((hb.block _ (Array.getElem?_eq_some_iff.1 Y8.out).1).trans Y8.out)
    clear hb T8 Y0 K8 Y6 Y7 Y8 hc1 hc2
    go_wp2_with fail
    have hgl := HG.out
    go_loopw [10] (fun iv wr => ∃ t : Nat, t ≤ hs.length ∧ iv = .int .i64 (t : Int) ∧ TwB wr B (twk hs t) ∧ Keep (fun k => k = B) w9 wr) (fun iv _ => hs.length - (intOf iv).toNat)
    case atStart => exact ⟨0, Nat.zero_le _, rfl, T9.out, Keep.refl _ _⟩
    case round =>
      obtain ⟨t, ht, rfl, htw, hk⟩ := hrel
      have HK := Bx.mk hk; have TT := Bx.mk htw
      have hlen := twk_length hs t
      clear hk
      by_cases hlt : t < hs.length
      · have htl : t < (twk hs t).length := by rw [hlen]; exact hlt
        have hq : t % 32 < 32 := Nat.mod_lt _ (by decide)
        have hpl := htw.len _ (List.getElem_mem htl)
        have hql : t % 32 < (twk hs t)[t].length := by rw [hpl]; exact hq
        have hc : wr.cell? ⟨B, t * 32 + t % 32, none⟩ = some (.int .u8 (((twk hs t)[t][t % 32]).toNat : Int)) := htw.row t htl (t % 32) _ (by simp [bcells, bcell, hql])
        have hf : wr.frozen? ⟨B, t * 32 + t % 32, none⟩ = false := by have := (htw.the (t * 32 + t % 32) (by rw [hlen]; omega)).2; rwa [Nat.zero_add] at this
        have hm : ((t : Int)).tmod 32 = ((t % 32 : Nat) : Int) := by rw [Int.tmod_eq_emod_of_nonneg (by omega)]; omega
        have hst : twk hs (t + 1) = (twk hs t).set t ((twk hs t)[t].set (t % 32) ((twk hs t)[t][t % 32] ^^^ 64)) := by
          rw [twk]
          simp only [List.getD_eq_getElem?_getD, List.getElem?_eq_getElem htl, Option.getD_some, List.getElem?_eq_getElem hql]
        have htw2 := htw.tweak t (t % 32) htl hq ((twk hs t)[t][t % 32] ^^^ 64)
        rw [← hst] at htw2
        have hx : (((twk hs t)[t][t % 32] ^^^ 64 : UInt8).toNat) = (twk hs t)[t][t % 32].toNat ^^^ 64 := by rw [UInt8.toNat_xor]; rfl
        rw [hx] at htw2
        have hcl := (twk hs t)[t][t % 32].toNat_lt
        generalize (twk hs t)[t][t % 32].toNat = c at hc htw2 hcl
        rw [← xor64 c hcl] at htw2
        generalize t % 32 = q at hq hc hf hm htw2
        have hl := T9.out.lt
        have TW2 := Bx.mk htw2
        clear htw htw2 hst hx hql hpl htl hlen
        go_upto_region 11 with (fail)
        go_region
        go_wp2_with fail
        go_roundw
        case rel => exact ⟨t + 1, hlt, by go_num, TW2.out.kept (keep_drew (fun _ => False) _) (fun h => h), (HK.out.trans (Keep.setCell wr ⟨B, t * 32 + q, none⟩ _) (fun _ _ h => h)).trans (keep_drew (fun _ => False) _) (fun _ _ h => h.elim)⟩
        case measure => simp [intOf]; omega
      · obtain rfl : t = hs.length := by omega
        clear htw hlt ht
        have lt9 := fun k (h : k < w9.heap.size) => h
        have Y0 := Bx.mk (show HashAt wr N m from ⟨(HK.out.block N (Array.getElem?_eq_some_iff.1 Z0.out.1).1 (by have := NB.out; omega)).trans Z0.out.1, ML.out⟩)
        have Y6 := Bx.mk ((HK.out.block g6 (Array.getElem?_eq_some_iff.1 X6.out).1 (by have := NB6.out; omega)).trans X6.out)
        have Y7 := Bx.mk ((HK.out.block (g6 + 1) (Array.getElem?_eq_some_iff.1 X7.out).1 (by have := NB6.out; omega)).trans X7.out)
        have Y8 := Bx.mk ((HK.out.block g8 (Array.getElem?_eq_some_iff.1 X8.out).1 (by have := NB6.out; have := NB8.out; omega)).trans X8.out)
        have KR := Bx.mk (K9.out.trans (HK.out.below K9.out.size (fun k hk => by subst hk; have := NB.out; have := HN.out; omega)))
        clear lt9 T9 Z0 K9 X6 X7 X8 HK
        obtain ⟨h2, hh2⟩ : ∃ l, l = twk hs hs.length := ⟨_, rfl⟩
        rw [← hh2] at TT hlen
        obtain ⟨l, hl⟩ : ∃ l, l = hs.length := ⟨_, rfl⟩
        rw [← hl] at hlen HG ⊢
        have tw2 := TT.out.hss (by rw [hlen]; exact HG.out)
        rw [hlen] at tw2
        obtain ⟨X', ev', fc', fa', hXl, hr1, hr2, hsame⟩ := rec_ways A m h2
        have XL' := Bx.mk hXl; have R1' := Bx.mk hr1; have R2' := Bx.mk hr2; have SM' := Bx.mk hsame; have TH := Bx.mk tw2; have HL2 := Bx.mk hlen
        clear hXl hr1 hr2 hsame tw2 hh2 hgl hl hlen
        go_upto_region 12 with (fail)
        refine wp_region_own4 (n := 85) VRdmk (ownTwo g6 (g6 + 1) 7 8) (VRd N B l g6 m X' fc' fa' h2) (by kernel_rfl) (by kernel_rfl) rfl (fun k hk => ownTwo_none (by have := (Array.getElem?_eq_some_iff.1 Y6.out).1; omega) (by have := (Array.getElem?_eq_some_iff.1 Y7.out).1; omega)) (fun j i hj _ => by cases hj) ?_ ?_ ?_
        · exact fun oi oj v own w own' w' hij _ h r => VRd_mono N B l g6 m X' fc' fa' h2 oi oj v own w own' w' hij h r
        · intro oi o hi f u own hsame hsn hfr hlate hkeep hdep
          have hk6 := hsn.keepTwo
          match oi, hi with
          | 0, hi =>
            cases (show some _ = some o from hi)
            have e2 : f.tmps.getD 2 undef = .pointer (some ⟨N, 0, none⟩) := hsame.slot 2 (fun i o h => invB2_not 2 (by kernel_rfl) h)
            clear hdep hsame hi hlate hfr hkeep
            exact .inl ⟨wanted_none rfl, showsO_row hsn rfl 23 (.tmp 2) rfl N e2 (ocells m) ((hk6.block N (Array.getElem?_eq_some_iff.1 Y0.out.1).1 (by have := NB.out; have := NB6.out; omega)).trans Y0.out.1) underH rfl (hszL ML.out) rfl⟩
          | 1, hi =>
            cases (show some _ = some o from hi)
            have e5 : f.tmps.getD 5 undef = .slice (some ⟨B, 0, none⟩) l (l + 1) := hsame.slot 5 (fun i o h => invB2_not 5 (by kernel_rfl) h)
            clear hdep hsame hi hlate hfr hkeep
            exact .inl ⟨wanted_none rfl, showsO_move hsn rfl _ rfl e5⟩
          | 2, hi =>
            cases (show some _ = some o from hi)
            have e66 : (f.tmps.getD 66 undef) = .slice (some ⟨B, 0, none⟩) l (l + 1) := depO (V := (VRd N B l g6 m X' fc' fa' h2)) hdep 1 66 (by kernel_rfl) (by kernel_rfl)
            clear hdep hsame hi hlate hfr hkeep
            have th := hss_keep TH.out (hk6.block B TT.out.lt (by have := NB6.out; omega)) hk6.size
            have hlm := HG.out
            have ct := twinB_any u (some ⟨B, 0, none⟩) l (l + 1) h2 th (by rw [HL2.out]; exact hlm)
            rw [HL2.out] at ct
            exact .inl ⟨wanted_none rfl, showsO_call (R := fun v w' => v = .slice (some ⟨u.heap.size, 0, none⟩) l (l + 1) ∧ u.heap.size < w'.heap.size ∧ Hss w' v h2) hsn rfl 8 #[.slice (some ⟨B, 0, none⟩) l (l + 1)] (by simp only [execOp, Act.eval]; go_simp) (ct.mono fun e w' ⟨v, h1, ⟨h3, h4, _⟩, h6⟩ => ⟨v, h1, ⟨h4, by obtain ⟨_, B', e', hB', _⟩ := h3; rw [h4] at e'; cases e'; exact hB', h3.1⟩, h6⟩) (fun v w' ⟨h1, h2', h3⟩ _ => ⟨_, h1, h2', hsn.top _ (Nat.le_refl _), h1 ▸ h3⟩)⟩
          | 3, hi =>
            cases (show some _ = some o from hi)
            have e65 : (f.tmps.getD 65 undef) = .agg (ocells (m)) := depO (V := (VRd N B l g6 m X' fc' fa' h2)) hdep 0 65 (by kernel_rfl) (by kernel_rfl)
            have e67 : HssF own u (f.tmps.getD 67 undef) l (l + 1) h2 := depO (V := (VRd N B l g6 m X' fc' fa' h2)) hdep 2 67 (by kernel_rfl) (by kernel_rfl)
            clear hdep hsame hi hlate hfr hkeep
            obtain ⟨gx, hx1, _, _, hx2⟩ := e67
            have cr := rrec22_any u m ML.out _ _ _ h2 hx2
            rw [hv_agg, R2'.out] at cr
            exact .inl ⟨wanted_none rfl, showsO_call1 hsn rfl 9 #[.agg (ocells (m)), .slice (some ⟨gx, 0, none⟩) l (l + 1)] (by simp only [execOp, Act.eval]; go_simp) cr (fun _ => rfl)⟩
          | 4, hi =>
            cases (show some _ = some o from hi)
            have e68 : (f.tmps.getD 68 undef) = .tuple #[.agg (ocells (X')), .agg #[.int .i64 fc', .int .i64 fa']] := depO (V := (VRd N B l g6 m X' fc' fa' h2)) hdep 3 68 (by kernel_rfl) (by kernel_rfl)
            clear hdep hsame hi hlate hfr hkeep
            exact .inl ⟨wanted_none rfl, showsO_move hsn rfl _ rfl e68⟩
          | 5, hi =>
            cases (show some _ = some o from hi)
            have e64 : (f.tmps.getD 64 undef) = .tuple #[.agg (ocells (X')), .agg #[.int .i64 fc', .int .i64 fa']] := depO (V := (VRd N B l g6 m X' fc' fa' h2)) hdep 4 64 (by kernel_rfl) (by kernel_rfl)
            clear hdep hsame hi hlate hfr hkeep
            exact .inl ⟨wanted_none rfl, showsO_pure hsn rfl (.agg (ocells (X'))) (by simp only [execOp, Act.eval]; go_simp) rfl⟩
          | 6, hi =>
            cases (show some _ = some o from hi)
            have e64 : (f.tmps.getD 64 undef) = .tuple #[.agg (ocells (X')), .agg #[.int .i64 fc', .int .i64 fa']] := depO (V := (VRd N B l g6 m X' fc' fa' h2)) hdep 4 64 (by kernel_rfl) (by kernel_rfl)
            clear hdep hsame hi hlate hfr hkeep
            exact .inl ⟨wanted_none rfl, showsO_pure hsn rfl (.agg #[.int .i64 fc', .int .i64 fa']) (by simp only [execOp, Act.eval]; go_simp) rfl⟩
          | 7, hi =>
            cases (show some _ = some o from hi)
            have e6 : f.tmps.getD 6 undef = .pointer (some ⟨g6, 0, none⟩) := hsame.slot 6 (fun i o h => invB2_not 6 (by kernel_rfl) h)
            have e69 : (f.tmps.getD 69 undef) = .agg (ocells (X')) := depO (V := (VRd N B l g6 m X' fc' fa' h2)) hdep 5 69 (by kernel_rfl) (by kernel_rfl)
            clear hdep hsame hi hlate hfr hkeep
            exact .inl ⟨wanted_none rfl, showsO_store_out hsn rfl 23 (.tmp 6) (.tmp 69) rfl (g6) e6 Y6.out (ownTwo_one _ _ _ _) (ocells X') e69 (hszL XL'.out) (by rw [ocells_size, ocells_size, XL.out, XL'.out]) (ocells_one _) (fun _ h => h)⟩
          | 8, hi =>
            cases (show some _ = some o from hi)
            have e7 : f.tmps.getD 7 undef = .pointer (some ⟨g6 + 1, 0, none⟩) := hsame.slot 7 (fun i o h => invB2_not 7 (by kernel_rfl) h)
            have e70 : (f.tmps.getD 70 undef) = .agg #[.int .i64 fc', .int .i64 fa'] := depO (V := (VRd N B l g6 m X' fc' fa' h2)) hdep 6 70 (by kernel_rfl) (by kernel_rfl)
            clear hdep hsame hi hlate hfr hkeep
            exact .inl ⟨wanted_none rfl, showsO_store_out hsn rfl 28 (.tmp 7) (.tmp 70) rfl (g6 + 1) e7 Y7.out (ownTwo_two (by omega)) #[.int .i64 fc', .int .i64 fa'] e70 (by kernel_rfl) rfl (by simp [Value.oneCell']) (fun _ h => h)⟩
          | n + 9, hi => exact absurd hi (by simp)
        · intro f u own hsame hsn hall
          have hk6 := hsn.keepTwo
          have q65 : f.tmps.getD 65 undef = .agg (ocells (m)) := finO (V := (VRd N B l g6 m X' fc' fa' h2)) hall 0 65 rfl
          have q66 : f.tmps.getD 66 undef = .slice (some ⟨B, 0, none⟩) l (l + 1) := finO (V := (VRd N B l g6 m X' fc' fa' h2)) hall 1 66 rfl
          obtain ⟨g67, q67, _, _, _⟩ := finO (V := (VRd N B l g6 m X' fc' fa' h2)) hall 2 67 rfl
          have q68 : f.tmps.getD 68 undef = .tuple #[.agg (ocells (X')), .agg #[.int .i64 fc', .int .i64 fa']] := finO (V := (VRd N B l g6 m X' fc' fa' h2)) hall 3 68 rfl
          have q64 : f.tmps.getD 64 undef = .tuple #[.agg (ocells (X')), .agg #[.int .i64 fc', .int .i64 fa']] := finO (V := (VRd N B l g6 m X' fc' fa' h2)) hall 4 64 rfl
          have q69 : f.tmps.getD 69 undef = .agg (ocells (X')) := finO (V := (VRd N B l g6 m X' fc' fa' h2)) hall 5 69 rfl
          have q70 : f.tmps.getD 70 undef = .agg #[.int .i64 fc', .int .i64 fa'] := finO (V := (VRd N B l g6 m X' fc' fa' h2)) hall 6 70 rfl
          obtain ⟨o_7, m_7⟩ : OutV own u (g6) 7 23 (ocells X') := finN (V := (VRd N B l g6 m X' fc' fa' h2)) hall 7 rfl
          obtain ⟨o_8, m_8⟩ : OutV own u (g6 + 1) 8 28 #[.int .i64 fc', .int .i64 fa'] := finN (V := (VRd N B l g6 m X' fc' fa' h2)) hall 8 rfl
          obtain rfl := frame_eq hsame [(65, .agg (ocells (m))), (66, .slice (some ⟨B, 0, none⟩) l (l + 1)), (67, .slice (some ⟨g67, 0, none⟩) l (l + 1)), (68, .tuple #[.agg (ocells (X')), .agg #[.int .i64 fc', .int .i64 fa']]), (64, .tuple #[.agg (ocells (X')), .agg #[.int .i64 fc', .int .i64 fa']]), (69, .agg (ocells (X'))), (70, .agg #[.int .i64 fc', .int .i64 fa'])] (by kernel_rfl) ⟨q65, q66, q67, q68, q64, q69, q70, trivial⟩
          clear hall hsame q65 q66 q67 q68 q64 q69 q70
          simp only [List.foldl, List.setIfInBounds_toArray, List.set_cons_succ, List.set_cons_zero]
          have T4 := Bx.mk (TT.out.kept hk6 (by have := NB6.out; omega))
          have Z0 := Bx.mk (show HashAt u N m from ⟨(hk6.block N (Array.getElem?_eq_some_iff.1 Y0.out.1).1 (by have := NB.out; have := NB6.out; omega)).trans Y0.out.1, ML.out⟩)
          have Z8 := Bx.mk ((hk6.block g8 (Array.getElem?_eq_some_iff.1 Y8.out).1 (by have := NB8.out; omega)).trans Y8.out)
          have KU := Bx.mk (KR.out.trans (hk6.below KR.out.size (fun k hk => by have := NB.out; have := NB6.out; have := HN.out; omega)))
          have Z6 := Bx.mk m_7; have Z7 := Bx.mk m_8
          clear hk6 hsn o_7 m_7 o_8 m_8
          go_wp2_with (guard_target =~ wpList _ _ _ (⟨some 72, _, _, _, _, _⟩ :: _) _ _; refine wpList_load_row rfl 23 (.tmp 2) rfl N rfl _ _ _ _ Z0.out.1 underH rfl (hszL ML.out) ?_)
          have th := T4.out.hss (by rw [HL2.out]; exact HG.out)
          rw [HL2.out] at th
          have cr := recover_any A u m ML.out _ _ _ h2 th (HT.out.below KU.out)
          rw [hv_agg, R1'.out] at cr
          clear th
          refine cr.mono ?_
          clear cr
          rintro e w6 ⟨rfl, hb⟩
          have KV := Bx.mk (KU.out.trans (hb.mono KU.out.size))
          have V6 := Bx.mk ((hb.block _ (Array.getElem?_eq_some_iff.1 Z6.out).1).trans Z6.out); have V7 := Bx.mk ((hb.block _ (Array.getElem?_eq_some_iff.1 Z7.out).1).trans Z7.out); have V8 := Bx.mk ((hb.block _ (Array.getElem?_eq_some_iff.1 Z8.out).1).trans Z8.out)
          clear hb Z6 Z7 Z8 Z0 T4
          go_upto_region 14 with (guard_target =~ wpList _ _ _ (⟨none, _, _, _, _, _⟩ :: _) _ _; refine wpList_store_row rfl 23 (.tmp 8) (.tmp 75) rfl g8 (ocells X') rfl rfl _ _ V8.out (hszL XL'.out) (by rw [ocells_size, ocells_size, XL.out, XL'.out]) (ocells_one _) ?_)
          have x8 : (w6.setRow g8 (ocells X')).heap[g8]? = some (.cells (ocells X') 23 (0, 0)) := setRow_heap _ _ _ _ _ _ V8.out
          have x6 := ((heap_setRow_other w6 _ _ _ (by have := NB8.out; omega)).trans V6.out : (w6.setRow g8 (ocells X')).heap[g6]? = _)
          have x7 := ((heap_setRow_other w6 _ _ _ (by have := NB8.out; omega)).trans V7.out : (w6.setRow g8 (ocells X')).heap[g6 + 1]? = _)
          have kx := below_setRow KV.out (show w.heap.size ≤ g8 by have := NB.out; have := NB6.out; have := NB8.out; have := HN.out; omega) (ocells X')
          generalize w6.setRow g8 (ocells X') = wy at x8 x6 x7 kx ⊢
          have X8 := Bx.mk x8; have X6 := Bx.mk x6; have X7 := Bx.mk x7; have KX := Bx.mk kx
          clear x8 x6 x7 kx
          have q := fun u => hv_eq u X' X' XL'.out XL'.out
          simp only [beq_self_eq_true, hv_agg] at q
          go_wp2_with (first
            | (guard_target =~ wpList _ _ _ (⟨some 77, _, _, _, _, _⟩ :: _) _ _; refine wpList_load_row rfl 23 (.tmp 8) rfl g8 rfl _ _ _ _ X8.out underH rfl (hszL XL'.out) ?_)
            | (guard_target =~ wpList _ _ _ (⟨some 78, _, _, _, _, _⟩ :: _) _ _; refine wpList_load_row rfl 23 (.tmp 6) rfl g6 rfl _ _ _ _ X6.out underH rfl (hszL XL'.out) ?_)
            | (guard_target =~ wpList _ _ _ (⟨some 82, _, _, _, _, _⟩ :: _) _ _; refine wpList_load_row_w (by simp [Region.wanted, yielded]) 28 (.tmp 7) rfl (g6 + 1) rfl _ _ _ _ X7.out Tryd.underlying28 rfl (by kernel_rfl) ?_))
          refine (SM'.out wy (HT.out.below KX.out).err).mono ?_
          rintro e w8 ⟨rfl, hb⟩
          have KE := Bx.mk (KX.out.trans (hb.mono KX.out.size))
          clear hb
          go_wp2_with fail
          exact bodyPost_ret (results_tmp rfl _ _ _) rfl ⟨rfl, KE.out⟩
end Go.Proofs.YtohifpomdanmkaaDoor
