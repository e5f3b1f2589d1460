/- compact: a range that is not there: Root, Span, Hashes, Copy, Join. -/
import Derived.Test.YtgbafjmklefoiaaDoorCpE
namespace Go.Proofs.YtgbafjmklefoiaaDoor
set_option maxRecDepth 100000
open Go.RowKit
theorem cell_keepC {w w' : World} {T : Nat → Prop} {a : Addr} {v : Value} (k : Keep T w w') (h : w.cell? a = some v) (hn : ¬ T a.block) : w'.cell? a = some v := by
  have := k.block a.block (block_lt_of_cell h) hn
  unfold World.cell? at h ⊢
  rw [this]
  exact h
def VE2 (A : Nat → Addr) (N : Nat) (oi : Nat) (v : Value) (own : Nat → Option Nat) (w : World) : Prop :=
  match oi with
  | 0 => v = .agg (ocells (zero32'))
  | 1 => v = .iface 129 (.pointer (some (A 0)))
  | 2 => OutV own w (N) 2 28 (ocells (zero32'))
  | 3 => v = .iface 129 (.pointer (some (A 0)))
  | _ => True
def VE2mk : Nat → Option Nat := fun _ => none
theorem VE2_mono (A : Nat → Addr) (N : Nat) (oi oj : Nat) (v : Value) (own : Nat → Option Nat) (w : World) (own' : Nat → Option Nat) (w' : World) (hij : oi ≠ oj)   (h : VE2 A N oj v own w) (r : Rel VE2mk oi own w own' w') : VE2 A N oj v own' w' := by
  unfold VE2 at h ⊢
  split at h
  · exact h
  · exact h
  · exact h.stable r hij
  · exact h
  · trivial

set_option maxHeartbeats 1600000 in
theorem rroot_dead (A : Nat → Addr) (w : World) (v : Value) (h : DeadR w v) (hE : Errs w A) : Calls Tryd.prog 9 #[v] w fun e w' => e = .returned (.tuple #[hv zero32', .iface 129 (.pointer (some (A 0)))]) ∧ Below w.heap.size w w' := by
  have kb := er_al (Below.refl w.heap.size w) (.cells zeros32 28)
  have xN := heap_alloc_new w (.cells zeros32 28)
  have hd := h.below kb
  have he := hE.below kb
  have GL : Bx (0 < w.heap.size) := ⟨block_lt_of_cell (show w.cell? ⟨0, 0, none⟩ = some (.iface 129 (.pointer (some (A 0)))) from hE.glob 0 (by decide))⟩
  go_enter Tryd.func9, Tryd.ntmps9
  go_upto_region 1 with (fail)
  change Code.wp _ _ _ _ (w.alloc (.cells zeros32 28))
  generalize w.alloc (.cells zeros32 28) = W0 at kb xN hd he ⊢
  obtain ⟨N, hN⟩ : ∃ N, N = w.heap.size := ⟨_, rfl⟩
  rw [← hN] at xN ⊢
  have KB := Bx.mk kb; have XN0 := Bx.mk xN; have NL := Bx.mk (show w.heap.size ≤ N by omega); have E0 := Bx.mk he
  clear kb xN hN h hE he
  go_wp2_with fail
  refine (there_dead W0 v hd).mono ?_
  rintro e W ⟨rfl, hb⟩
  have K1 := Bx.mk (KB.out.trans (hb.mono KB.out.size)); have E1 := Bx.mk (E0.out.below hb); have XN := Bx.mk ((hb.block _ (Array.getElem?_eq_some_iff.1 XN0.out).1).trans XN0.out)
  have z1 : zero32'.length = 32 := by decide
  have ZL := Bx.mk z1
  have G0 : Bx (W.cell? ⟨0, 0, none⟩ = some (.iface 129 (.pointer (some (A 0))))) := ⟨E1.out.glob 0 (by decide)⟩
  have GN : Bx (¬ 0 = N) := ⟨fun e => by have := GL.out; have := NL.out; omega⟩
  clear hb KB XN0 E0 hd z1
  go_upto_region 2 with (fail)
  refine wp_region_own8 (n := 60) VE2mk (fun k => if k = N then some 2 else none) (VE2 A N) (by kernel_rfl) (by kernel_rfl) rfl (fun k hk => if_neg (by have := (Array.getElem?_eq_some_iff.1 XN.out).1; omega)) (fun j i hj _ => by cases hj) ?_ ?_ ?_
  · exact fun oi oj v own w own' w' hij _ h r => VE2_mono A N oi oj v own w own' w' hij h r
  · intro oi o hi f u own hsame hsn hfr hlate hkeep8 hdep
    have hkeep := hkeep8 _ (.inl rfl)
    have hk6 := hsn.keepOne
    match oi, hi with
    | 0, hi =>
      cases (show some _ = some o from hi)
      clear hdep hsame hi hlate hfr hkeep
      exact .inl ⟨wanted_none rfl, showsO_build hsn rfl 28 #[] rfl (ocells zero32') (by simp only [List.map_toArray, List.map_nil]; exact built_zeroC) rfl⟩
    | 1, hi =>
      cases (show some _ = some o from hi)
      clear hdep hsame hi hlate hfr hkeep
      have gE := cell_keepC hk6 G0.out GN.out
      exact .inl ⟨wanted_none rfl, showsO_pure hsn rfl (.iface 129 (.pointer (some (A 0)))) (by simp only [execOp, Act.eval]; go_simp) rfl⟩
    | 2, hi =>
      cases (show some _ = some o from hi)
      have e2 : f.tmps.getD 2 undef = .pointer (some ⟨N, 0, none⟩) := hsame.slot 2 (fun i o h => invB2_not 2 (by kernel_rfl) h)
      have e9 : (f.tmps.getD 9 undef) = .agg (ocells (zero32')) := depO (V := (VE2 A N)) hdep 0 9 (by kernel_rfl) (by kernel_rfl)
      clear hdep hsame hi hlate hfr hkeep
      exact .inl ⟨wanted_none rfl, showsO_store_out hsn rfl 28 (.tmp 2) (.tmp 9) rfl (N) e2 XN.out (if_pos rfl) (ocells (zero32')) e9 (hszL ZL.out) (by rw [ocells_size, ZL.out]; rfl) (ocells_one _) (fun _ h => h)⟩
    | 3, hi =>
      cases (show some _ = some o from hi)
      have e10 : (f.tmps.getD 10 undef) = .iface 129 (.pointer (some (A 0))) := depO (V := (VE2 A N)) hdep 1 10 (by kernel_rfl) (by kernel_rfl)
      clear hdep hsame hi hlate hfr hkeep
      exact .inl ⟨wanted_none rfl, showsO_assign hsn rfl _ rfl e10⟩
    | n + 4, hi => exact absurd hi (by simp)
  intro fr u own hsame hsn hall
  have q9 : fr.tmps.getD 9 undef = .agg (ocells (zero32')) := finO (V := (VE2 A N)) hall 0 9 rfl
  have q10 : fr.tmps.getD 10 undef = .iface 129 (.pointer (some (A 0))) := finO (V := (VE2 A N)) hall 1 10 rfl
  obtain ⟨o_2, m_2⟩ : OutV own u (N) 2 28 (ocells (zero32')) := finN (V := (VE2 A N)) hall 2 rfl
  have q3 : fr.tmps.getD 3 undef = .iface 129 (.pointer (some (A 0))) := finO (V := (VE2 A N)) hall 3 3 rfl
  obtain rfl := frame_eq hsame [(9, .agg (ocells (zero32'))), (10, .iface 129 (.pointer (some (A 0)))), (3, .iface 129 (.pointer (some (A 0))))] (by kernel_rfl) ⟨q9, q10, q3, trivial⟩
  clear hall hsame q9 q10 q3
  simp only [List.foldl, List.setIfInBounds_toArray, List.set_cons_succ, List.set_cons_zero]
  have hk6 := hsn.keepOne
  have M9 := Bx.mk m_2
  have K2 := Bx.mk (K1.out.trans (hk6.below (B := w.heap.size) (Nat.le_trans K1.out.size (Nat.le_refl _)) (fun k hk => by have := NL.out; omega)))
  clear hk6 m_2 o_2 hsn
  go_wp2_with fail
  exact bodyPost_ret (res_hbC rfl _ _ N _ (ocells zero32') _ rfl M9.out (hszL ZL.out)) rfl ⟨rfl, K2.out⟩
theorem rspan_dead (w : World) (v : Value) (h : DeadR w v) : Calls Tryd.prog 20 #[v] w fun e w' => e = .returned (.agg #[.int .u64 0, .int .u64 0]) ∧ Below w.heap.size w w' := by
  have kb := er_al (Below.refl w.heap.size w) (.cells #[.int .u64 0, .int .u64 0] 39)
  have xN := heap_alloc_new w (.cells #[.int .u64 0, .int .u64 0] 39)
  have h2 := h.below kb
  clear h
  go_enter Tryd.func20, Tryd.ntmps20
  go_upto_region 1 with (fail)
  change Code.wp _ _ _ _ (w.alloc (.cells #[.int .u64 0, .int .u64 0] 39))
  generalize w.alloc (.cells #[.int .u64 0, .int .u64 0] 39) = W at kb xN h2 ⊢
  obtain ⟨N, hN⟩ : ∃ N, N = w.heap.size := ⟨_, rfl⟩
  rw [← hN] at xN ⊢
  have KB := Bx.mk kb; have XN := Bx.mk xN; have NL := Bx.mk (show w.heap.size ≤ N by omega)
  clear kb xN hN
  go_wp2_with fail
  refine (there_dead W v h2).mono ?_
  rintro e W1 ⟨rfl, hb⟩
  have K1 := Bx.mk (KB.out.trans (hb.mono KB.out.size)); have X1 := Bx.mk ((hb.block _ (Array.getElem?_eq_some_iff.1 XN.out).1).trans XN.out)
  clear hb KB XN h2
  go_wp2_with (guard_target =~ wpList _ _ _ (⟨none, _, _, _, _, _⟩ :: _) _ _; refine wpList_store_row rfl 39 (.tmp 2) (.tmp 6) rfl N #[.int .u64 0, .int .u64 0] rfl rfl _ _ X1.out sizeS rfl (by simp [Value.oneCell']) ?_)
  exact bodyPost_ret (results_cell_row rfl _ _ N _ #[.int .u64 0, .int .u64 0] _ _ rfl (setRow_heap _ _ _ _ _ _ X1.out) Tryd.underlying39 rfl sizeS) rfl ⟨rfl, below_setRow K1.out NL.out _⟩
theorem rhash_dead (w : World) (v : Value) (h : DeadR w v) : Calls Tryd.prog 13 #[v] w fun e w' => e = .returned (.slice none 0 0) ∧ Below w.heap.size w w' := by
  go_enter Tryd.func13, Tryd.ntmps13
  go_wp2_with fail
  refine (there_dead w v h).mono ?_
  rintro e W ⟨rfl, hb⟩
  go_wp2_with fail
  go_ret
  exact ⟨rfl, hb⟩
theorem rcopy_dead (w : World) (v : Value) (h : DeadR w v) : Calls Tryd.prog 17 #[v] w fun e w' => e = .returned (.pointer none) ∧ Below w.heap.size w w' := by
  go_enter Tryd.func17, Tryd.ntmps17
  go_wp2_with fail
  refine (there_dead w v h).mono ?_
  rintro e W ⟨rfl, hb⟩
  go_wp2_with fail
  go_ret
  exact ⟨rfl, hb⟩
theorem rjoin_dead1 (A : Nat → Addr) (w : World) (v x : Value) (h : DeadR w v) (hE : Errs w A) : Calls Tryd.prog 18 #[v, x] w fun e w' => e = .returned (.iface 129 (.pointer (some (A 0)))) ∧ Below w.heap.size w w' := by
  have E0 := Bx.mk hE
  clear hE
  go_enter Tryd.func18, Tryd.ntmps18
  go_wp2_with fail
  refine (there_dead w v h).mono ?_
  rintro e W ⟨rfl, hb⟩
  have gE : W.cell? ⟨0, 0, none⟩ = some (.iface 129 (.pointer (some (A 0)))) := (E0.out.below hb).glob 0 (by decide)
  have K := Bx.mk hb
  clear hb h
  go_wp2_with fail
  go_ret
  exact ⟨rfl, K.out⟩
theorem rjoin_dead2 (A : Nat → Addr) (base : Nat) (w : World) (r B E : Nat) (l : List (Nat × Nat × List UInt8)) (s x : Value) (hR : RaP base w r B E l s) (h : DeadR w x) (hE : Errs w A) : Calls Tryd.prog 18 #[.pointer (some ⟨r, 0, none⟩), x] w fun e w' => e = .returned (.iface 129 (.pointer (some (A 0)))) ∧ Below w.heap.size w w' := by
  have E0 := Bx.mk hE; have R0 := Bx.mk hR
  clear hE hR
  go_enter Tryd.func18, Tryd.ntmps18
  go_wp2_with fail
  refine (there_any R0.out).mono ?_
  rintro e W1 ⟨rfl, hb1⟩
  have K1 := Bx.mk hb1; have D1 := Bx.mk (h.below hb1)
  clear hb1 h
  go_wp2_with fail
  refine (there_dead W1 x D1.out).mono ?_
  rintro e W ⟨rfl, hb⟩
  have K := Bx.mk (K1.out.trans (hb.mono K1.out.size))
  have gE : W.cell? ⟨0, 0, none⟩ = some (.iface 129 (.pointer (some (A 0)))) := (E0.out.below K.out).glob 0 (by decide)
  clear hb
  go_wp2_with fail
  go_ret
  exact ⟨rfl, K.out⟩
end Go.Proofs.YtgbafjmklefoiaaDoor
