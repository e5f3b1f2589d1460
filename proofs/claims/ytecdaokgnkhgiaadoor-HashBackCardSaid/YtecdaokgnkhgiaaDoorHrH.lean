/- hash.Read. -/
import Derived.Test.YtecdaokgnkhgiaaDoorHrR
import Derived.Test.YtecdaokgnkhgiaaDoorHrU
import Derived.Test.YtecdaokgnkhgiaaDoorInv2
import Derived.Lib.OthersKept
namespace Go.Proofs.YtecdaokgnkhgiaaDoor
set_option maxRecDepth 100000
open Go.RowKit
theorem below_iterAt {w W : World} {B k : Nat} (h : Below B w W) (hk : B ≤ k) (s : ByteArray) (pos : Nat) : Below B w (W.iterAt k s pos) := by
  refine ⟨h.os, h.tape, h.output, by rw [Go.Lib.iterAt_size]; exact h.size, fun j hj => ?_⟩
  rw [Go.Lib.iterAt_other W k j s pos (by omega)]
  exact h.block j hj
theorem invB2_not {ops : Array Oper} (s : Nat) (hs : (ops.all fun o => o.dst != some s) = true) {i : Nat} {o : Oper} (hi : ops[i]? = some o) : o.dst ≠ some s := by
  have := Array.all_eq_true_iff_forall_mem.1 hs o (Array.mem_of_getElem? hi)
  simpa using this
/-- what hash.Read hands back -/
def RhOut (A : Nat → Addr) (w' : World) (l : List UInt8) (e : Ending) : Option Nat → Prop
  | none => e = .returned (.tuple #[hv (rdN l 64), .nilIface])
  | some b => ∃ v, e = .returned (.tuple #[hv zero32', v]) ∧ ErrV w' A v 3 (some (b : Int))
/-- what each slot of the first failing region holds -/
def VF1 (A : Nat → Addr) (t : Nat) (n : Nat) (v : Value) (w : World) : Prop :=
  match n with
  | 27 => v = .agg zeros32
  | 28 => v = .iface 126 (.pointer (some (A 2)))
  | 29 => v = .int .i64 (t : Int)
  | 30 => v = .agg #[.iface 126 (.pointer (some (A 2))), .int .i64 (t : Int)]
  | 31 => ∃ b, v = .pointer (some ⟨b, 0, none⟩) ∧ w.heap[b]? = some (.cells #[.iface 126 (.pointer (some (A 2))), .int .i64 (t : Int)] 67 (0, 0))
  | 32 => ∃ b, v = .iface 65 (.pointer (some ⟨b, 0, none⟩)) ∧ w.heap[b]? = some (.cells #[.iface 126 (.pointer (some (A 2))), .int .i64 (t : Int)] 67 (0, 0))
  | 3 => ∃ b, v = .iface 65 (.pointer (some ⟨b, 0, none⟩)) ∧ w.heap[b]? = some (.cells #[.iface 126 (.pointer (some (A 2))), .int .i64 (t : Int)] 67 (0, 0))
  | _ => True
theorem VF1_mono (A : Nat → Addr) (t : Nat) (n : Nat) (v : Value) (w w' : World) (h : VF1 A t n v w) (k : Below w.heap.size w w') : VF1 A t n v w' := by
  unfold VF1 at h ⊢
  split at h
  · exact h
  · exact h
  · exact h
  · exact h
  · obtain ⟨b, e, hb⟩ := h; exact ⟨b, e, (k.block _ (Array.getElem?_eq_some_iff.1 hb).1).trans hb⟩
  · obtain ⟨b, e, hb⟩ := h; exact ⟨b, e, (k.block _ (Array.getElem?_eq_some_iff.1 hb).1).trans hb⟩
  · obtain ⟨b, e, hb⟩ := h; exact ⟨b, e, (k.block _ (Array.getElem?_eq_some_iff.1 hb).1).trans hb⟩
  · trivial
/-- what each slot of the second failing region holds -/
def VF2 (A : Nat → Addr) (t : Nat) (n : Nat) (v : Value) (w : World) : Prop :=
  match n with
  | 47 => v = .agg zeros32
  | 48 => v = .iface 126 (.pointer (some (A 2)))
  | 49 => v = .int .i64 (t : Int)
  | 50 => v = .agg #[.iface 126 (.pointer (some (A 2))), .int .i64 (t : Int)]
  | 51 => ∃ b, v = .pointer (some ⟨b, 0, none⟩) ∧ w.heap[b]? = some (.cells #[.iface 126 (.pointer (some (A 2))), .int .i64 (t : Int)] 67 (0, 0))
  | 52 => ∃ b, v = .iface 65 (.pointer (some ⟨b, 0, none⟩)) ∧ w.heap[b]? = some (.cells #[.iface 126 (.pointer (some (A 2))), .int .i64 (t : Int)] 67 (0, 0))
  | 3 => ∃ b, v = .iface 65 (.pointer (some ⟨b, 0, none⟩)) ∧ w.heap[b]? = some (.cells #[.iface 126 (.pointer (some (A 2))), .int .i64 (t : Int)] 67 (0, 0))
  | _ => True
theorem VF2_mono (A : Nat → Addr) (t : Nat) (n : Nat) (v : Value) (w w' : World) (h : VF2 A t n v w) (k : Below w.heap.size w w') : VF2 A t n v w' := by
  unfold VF2 at h ⊢
  split at h
  · exact h
  · exact h
  · exact h
  · exact h
  · obtain ⟨b, e, hb⟩ := h; exact ⟨b, e, (k.block _ (Array.getElem?_eq_some_iff.1 hb).1).trans hb⟩
  · obtain ⟨b, e, hb⟩ := h; exact ⟨b, e, (k.block _ (Array.getElem?_eq_some_iff.1 hb).1).trans hb⟩
  · obtain ⟨b, e, hb⟩ := h; exact ⟨b, e, (k.block _ (Array.getElem?_eq_some_iff.1 hb).1).trans hb⟩
  · trivial
theorem or8 {y z : UInt8} {k : Nat} (h0 : (0 : Int) ≤ k) (h1 : (k : Int) < 16) (hz : z = y * 16 + UInt8.ofNat k) : bits .or .u8 ((y.toNat : Int) * 16 % 256) (k : Int) = (z.toNat : Int) := by
  have hy : y.toNat < 256 := y.toNat_lt
  have hzn : z.toNat = 16 * (y.toNat % 16) + k := by
    rw [hz, UInt8.toNat_add, UInt8.toNat_mul, UInt8.toNat_ofNat']
    simp
    omega
  show IntKind.u8.wrap (((BitVec.ofInt 8 ((y.toNat : Int) * 16 % 256)) ||| (BitVec.ofInt 8 (k : Int))).toNat : Int) = _
  have e1 : (BitVec.ofInt 8 ((y.toNat : Int) * 16 % 256)).toNat = 2 ^ 4 * (y.toNat % 16) := by rw [BitVec.toNat_ofInt]; omega
  have e2 : (BitVec.ofInt 8 (k : Int)).toNat = k := by rw [BitVec.toNat_ofInt]; omega
  rw [BitVec.toNat_or, e1, e2, ← Nat.two_pow_add_eq_or_of_lt (show k < 2 ^ 4 by omega), hzn]
  simp [IntKind.wrap, IntKind.bits, IntKind.signed]
  omega
theorem shows_build {P : Program} {Q : Exit → Act → World → Prop} {V : Nat → Value → World → Prop} {o : Oper} {a : Act} {w : World} {d : Nat} (hd : o.dst = some d) (t : TypeId) (parts : Array (Nat × Operand)) (ho : o.op = .build t parts) (cs : Array Value)
    (hf : P.built t (parts.map fun (i, x) => (i, a.eval x)).toList = some cs) (hv : V d (.agg cs) w) : Shows P Q V o a w := by
  intro K hK
  refine wp_build t parts ho (by rw [hf]; rfl) ?_
  rw [hf]
  exact hK _ _ (fun d' h => by rw [hd] at h; cases h; exact hv) (Below.refl _ _)
theorem built_fault (a : Addr) (t : Int) : Tryd.prog.built 67 [(0, .iface 126 (.pointer (some a))), (1, .int .i64 t)] = some #[.iface 126 (.pointer (some a)), .int .i64 t] := by kernel_rfl
set_option maxHeartbeats 6400000 in
theorem read_any (A : Nat → Addr) (w : World) (s : ByteArray) (hs : s.size < 9223372036854775808) (hE : Errs w A) :
    Calls Tryd.prog 26 #[.string s] w fun e w' => (∃ p, ReadAns (sb s) p ∧ RhOut A w' (sb s) e p) ∧ Below w.heap.size w w' := by
  have x0 : (((w.alloc (.cells zeros32 24)).alloc (.cells zeros32 24)).alloc (.stringIter s 0)).heap[w.heap.size]? = some (.cells zeros32 24 (0, 0)) := by
    rw [Below.heap_alloc _ _ _ (by simp; omega), Below.heap_alloc _ _ _ (by simp)]; exact heap_alloc_new _ _
  have x1 : (((w.alloc (.cells zeros32 24)).alloc (.cells zeros32 24)).alloc (.stringIter s 0)).heap[w.heap.size + 1]? = some (.cells zeros32 24 (0, 0)) := by
    rw [Below.heap_alloc _ _ _ (by simp)]; simpa using heap_alloc_new (w.alloc (.cells zeros32 24)) (.cells zeros32 24)
  have x2 : (((w.alloc (.cells zeros32 24)).alloc (.cells zeros32 24)).alloc (.stringIter s 0)).heap[w.heap.size + 1 + 1]? = some (.stringIter s 0) := by
    simpa using heap_alloc_new ((w.alloc (.cells zeros32 24)).alloc (.cells zeros32 24)) (.stringIter s 0)
  have kb : Below w.heap.size w (((w.alloc (.cells zeros32 24)).alloc (.cells zeros32 24)).alloc (.stringIter s 0)) := er_al (er_al (er_al (Below.refl _ _) _) _) _
  have HE := Bx.mk hE; clear hE
  go_enter Tryd.func26, Tryd.ntmps26
  go_upto_region 4 with (fail)
  change Code.wp _ _ _ _ (((w.alloc (.cells zeros32 24)).alloc (.cells zeros32 24)).alloc (.stringIter s 0))
  generalize ((w.alloc (.cells zeros32 24)).alloc (.cells zeros32 24)).alloc (.stringIter s 0) = W at x0 x1 x2 kb ⊢
  have X0 := Bx.mk x0; have X1 := Bx.mk x1; have X2 := Bx.mk x2; have KB := Bx.mk kb
  clear x0 x1 x2 kb
  have hz32 : zeros32 = ocells (rdN (sb s) 0) := rfl
  have HZ := Bx.mk hz32; clear hz32
  have hsl : (sb s).length = s.size := sb_length s
  have HSL := Bx.mk hsl; clear hsl
  go_loopw [5, 6, 7, 8, 9] (fun n _ _ _ _ wr => ∃ t : Nat, t ≤ s.size ∧ n = .int .i64 (t : Int) ∧ GoodTo (sb s) t ∧ wr.heap[w.heap.size]? = some (.cells zeros32 24 (0, 0)) ∧ wr.heap[w.heap.size + 1]? = some (.cells (ocells (rdN (sb s) t)) 24 (0, 0)) ∧ wr.heap[w.heap.size + 1 + 1]? = some (.stringIter s t) ∧ Below w.heap.size w wr) (fun n _ _ _ _ _ => s.size - (intOf n).toNat)
  case atStart => exact ⟨0, Nat.zero_le _, rfl, fun j hj => absurd hj (Nat.not_lt_zero _), X0.out, by rw [← HZ.out]; exact X1.out, X2.out, KB.out⟩
  case round =>
    obtain ⟨t, ht, rfl, hg, hu0, hu1, hu2, hb⟩ := hrel
    have HG := Bx.mk hg; have HU0 := Bx.mk hu0; have HU1 := Bx.mk hu1; have HU2 := Bx.mk hu2; have HB := Bx.mk hb
    clear hg hu0 hu1 hu2 hb
    by_cases hlt : t < s.size
    · have hnx := fun ty => Go.Lib.run_next_any_at (P := Tryd.prog) wr (w.heap.size + 1 + 1) s t ty HU2.out hlt
      have hld := lett_decode s t hlt
      have hd1 := lett_one s t hlt
      have hx : (sb s)[t]'(by rw [HSL.out]; omega) = s[t] := rfl
      have hgd : (sb s).getD t 0 = s[t] := by rw [List.getD_eq_getElem?_getD, List.getElem?_eq_getElem (by rw [HSL.out]; omega)]; exact hx
      have HGD := Bx.mk hgd; have HD1 := Bx.mk hd1; clear hx hgd hd1
      have v0 := (Go.Lib.iterAt_other wr (w.heap.size + 1 + 1) w.heap.size s (t + (Utf8.decode s t).2) (by omega)).trans HU0.out
      have v1 := (Go.Lib.iterAt_other wr (w.heap.size + 1 + 1) (w.heap.size + 1) s (t + (Utf8.decode s t).2) (by omega)).trans HU1.out
      have v2 := Go.Lib.iterAt_heap wr (w.heap.size + 1 + 1) s t (t + (Utf8.decode s t).2) HU2.out
      have vb := below_iterAt HB.out (show w.heap.size ≤ w.heap.size + 1 + 1 by omega) s (t + (Utf8.decode s t).2)
      have hlw := fun u => letter_any u ((Utf8.decode s t).1 : Int)
      rw [hld] at hlw
      have HLW := Bx.mk hlw; clear hlw hld
      generalize wr.iterAt (w.heap.size + 1 + 1) s (t + (Utf8.decode s t).2) = w1 at hnx v0 v1 v2 vb
      generalize (Utf8.decode s t).2 = sz at v2 HD1
      generalize ((Utf8.decode s t).1 : Int) = ch at hnx HLW
      have V0 := Bx.mk v0; have V1 := Bx.mk v1; have V2 := Bx.mk v2; have VB := Bx.mk vb
      clear v0 v1 v2 vb HU0 HU1 HU2 HB
      by_cases hbad : (lett (s[t].toNat : Int)).2 = false
      · have hlw := HLW.out
        rw [hbad] at hlw
        have hans : ReadAns (sb s) (some t) := by
          refine ⟨HG.out, ?_⟩
          by_cases h64 : t < 64
          · exact .inr ⟨h64, .inr (by rw [HGD.out]; exact hbad)⟩
          · obtain rfl : t = 64 := by
              rcases Nat.lt_or_ge 64 t with h | h
              · have := (HG.out 64 h).1; omega
              · omega
            exact .inl ⟨rfl, by rw [HSL.out]; exact hlt⟩
        generalize (lett (s[t].toNat : Int)).1 = kk at hlw
        have HLW' := Bx.mk hlw; have HANS := Bx.mk hans
        clear hlw hans hbad HLW
        go_wp2_with fail
        refine (HLW'.out _).mono ?_
        rintro e w' ⟨rfl, rfl⟩
        go_upto_region 8 with (fail)
        refine wp_region_inv2 (n := 54) (VF1 A t) (by kernel_rfl) (by kernel_rfl) rfl (VF1_mono A t) ?_ ?_
        · intro i o hi f u hsame hbel hdep
          have hu := HE.out.below (VB.out.trans (hbel.mono VB.out.size))
          have b2 : f.tmps.getD 2 undef = .pointer (some ⟨w.heap.size, 0, none⟩) := hsame.slot 2 (fun i o h => invB2_not 2 (by kernel_rfl) h)
          have b6 : f.tmps.getD 6 undef = .int .i64 (t : Int) := hsame.slot 6 (fun i o h => invB2_not 6 (by kernel_rfl) h)
          have hx0 := (hbel.block _ (Array.getElem?_eq_some_iff.1 V0.out).1).trans V0.out
          match i, hi with
          | 0, hi =>
            cases (show some _ = some o from hi)
            exact ⟨wanted_none rfl, shows_build rfl 24 #[] rfl zeros32 (by kernel_rfl) rfl⟩
          | 1, hi =>
            cases (show some _ = some o from hi)
            exact ⟨wanted_none rfl, fun K hK => wp_load_iface 30 _ rfl ⟨1, 0, none⟩ rfl _ (hu.glob 2 (by decide)) Tryd.underlying30 (hK _ _ (fun d' h => by cases h; rfl) (Below.refl _ _))⟩
          | 2, hi =>
            cases (show some _ = some o from hi)
            exact ⟨wanted_none rfl, shows_move rfl _ rfl b6⟩
          | 3, hi =>
            cases (show some _ = some o from hi)
            have e1 : f.tmps.getD 28 undef = .iface 126 (.pointer (some (A 2))) := dep_of (V := VF1 A t) hdep 1 28 (by kernel_rfl) (by kernel_rfl)
            have e2 : f.tmps.getD 29 undef = .int .i64 (t : Int) := dep_of (V := VF1 A t) hdep 2 29 (by kernel_rfl) (by kernel_rfl)
            have hbl := built_fault (A 2) (t : Int)
            exact ⟨wanted_none rfl, shows_build rfl 67 _ rfl _ (by rw [Array.toList_map]; show Tryd.prog.built 67 [(0, f.tmps.getD 28 undef), (1, f.tmps.getD 29 undef)] = _; rw [e1, e2]; exact hbl) rfl⟩
          | 4, hi =>
            cases (show some _ = some o from hi)
            have e3 : f.tmps.getD 30 undef = .agg #[.iface 126 (.pointer (some (A 2))), .int .i64 (t : Int)] := dep_of (V := VF1 A t) hdep 3 30 (by kernel_rfl) (by kernel_rfl)
            exact ⟨wanted_none rfl, shows_run rfl (.pointer (some ⟨u.heap.size, 0, none⟩)) (w' := u.alloc (.cells #[.iface 126 (.pointer (some (A 2))), .int .i64 (t : Int)] 67)) (by simp only [execOp, Act.eval]; go_simp) (er_al (Below.refl _ _) _) ⟨_, rfl, heap_alloc_new _ _⟩⟩
          | 5, hi =>
            cases (show some _ = some o from hi)
            obtain ⟨b, e4, hb4⟩ : ∃ b, f.tmps.getD 31 undef = .pointer (some ⟨b, 0, none⟩) ∧ u.heap[b]? = some (.cells #[.iface 126 (.pointer (some (A 2))), .int .i64 (t : Int)] 67 (0, 0)) := dep_of (V := VF1 A t) hdep 4 31 (by kernel_rfl) (by kernel_rfl)
            exact ⟨wanted_none rfl, shows_run rfl (.iface 65 (.pointer (some ⟨b, 0, none⟩))) (w' := u) (by simp only [execOp, Act.eval]; go_simp) (Below.refl _ _) ⟨_, rfl, hb4⟩⟩
          | 6, hi =>
            cases (show some _ = some o from hi)
            have e0 : f.tmps.getD 27 undef = .agg zeros32 := dep_of (V := VF1 A t) hdep 0 27 (by kernel_rfl) (by kernel_rfl)
            refine ⟨wanted_none rfl, fun K hK => wp_store_row 24 (.tmp 2) (.tmp 27) rfl w.heap.size zeros32 b2 e0 _ _ hx0 (hszL zero32'_length) (hsoL zero32'_length) (ocells_one zero32') (hK .nilIface _ (fun d' h => by cases h) (below_same hx0))⟩
          | 7, hi =>
            cases (show some _ = some o from hi)
            have e5 : ∃ b, f.tmps.getD 32 undef = .iface 65 (.pointer (some ⟨b, 0, none⟩)) ∧ u.heap[b]? = some (.cells #[.iface 126 (.pointer (some (A 2))), .int .i64 (t : Int)] 67 (0, 0)) := dep_of (V := VF1 A t) hdep 5 32 (by kernel_rfl) (by kernel_rfl)
            exact ⟨wanted_none rfl, shows_assign rfl _ rfl e5⟩
          | n + 8, hi => exact absurd hi (by simp)
        · intro f u hsame hbel hall
          obtain ⟨b, e3, hb3⟩ : ∃ b, f.tmps.getD 3 undef = .iface 65 (.pointer (some ⟨b, 0, none⟩)) ∧ u.heap[b]? = some (.cells #[.iface 126 (.pointer (some (A 2))), .int .i64 (t : Int)] 67 (0, 0)) := hall 7 _ 3 rfl rfl
          have b2 : f.tmps.getD 2 undef = .pointer (some ⟨w.heap.size, 0, none⟩) := hsame.slot 2 (fun i o h => invB2_not 2 (by kernel_rfl) h)
          have hx0 := (hbel.block _ (Array.getElem?_eq_some_iff.1 V0.out).1).trans V0.out
          have hd : f.defers = [] := hsame.defers
          refine ‹∀ (a : Act) (w : World), Code.wp _ Code.ret _ a w → _› f u ?_
          go_wp2_with fail
          refine bodyPost_ret (results_row_tmp rfl _ _ w.heap.size _ zeros32 _ b2 hx0 (hszL zero32'_length)) hd ⟨⟨some t, HANS.out, f.tmps.getD 3 undef, rfl, ?_⟩, VB.out.trans (hbel.mono VB.out.size)⟩
          rw [e3]
          exact .fault 2 b 0 _ (by decide) (er_cellAt hb3 0 _ rfl) (er_cellAt hb3 1 _ rfl)
      · have hgood : (lett (s[t].toNat : Int)).2 = true := by cases h : (lett (s[t].toNat : Int)).2 <;> simp_all
        by_cases h64 : t < 64
        · obtain ⟨hk0, hk1⟩ := lett_bound (s[t].toNat : Int)
          have hwk := wor_good hgood
          have hlw := HLW.out
          rw [hgood] at hlw
          obtain ⟨k, hk⟩ : ∃ k : Nat, (lett (s[t].toNat : Int)).1 = (k : Int) := ⟨(lett (s[t].toNat : Int)).1.toNat, by omega⟩
          rw [hk] at hlw hwk hk0 hk1
          obtain rfl := HD1.out hgood
          have hstp : rdN (sb s) (t + 1) = (rdN (sb s) t).set (t / 2) ((rdN (sb s) t).getD (t / 2) 0 * 16 + UInt8.ofNat k) := by
            show stp _ t ((sb s).getD t 0) = _
            rw [HGD.out, stp, hwk]
            rfl
          have hrl := rdN_length (sb s) t
          generalize rdN (sb s) t = h at hstp hrl V1
          obtain ⟨q, hq⟩ : ∃ q, q = t / 2 := ⟨_, rfl⟩
          have hq32 : q < h.length := by omega
          rw [← hq, List.getD_eq_getElem?_getD, List.getElem?_eq_getElem hq32, Option.getD_some] at hstp
          have cq : w1.cell? ⟨w.heap.size + 1, q, none⟩ = some (.int .u8 (h[q].toNat : Int)) := er_cellAt V1.out _ _ (by simp [ocells, bcells, bcell, hq32])
          have fq := er_frozen V1.out q
          generalize h[q] = y at cq hstp
          obtain ⟨z, hz⟩ : ∃ z, z = y * 16 + UInt8.ofNat k := ⟨_, rfl⟩
          rw [← hz] at hstp
          have hy : y.toNat < 256 := y.toNat_lt
          have d1 : (t : Int).tdiv 2 = (q : Int) := by rw [Int.tdiv_eq_ediv_of_nonneg (by omega)]; omega
          have d2 : IntKind.i64.wrap (q : Int) = (q : Int) := i64_q (by omega)
          have g1 : (q : Int) < 32 := by omega
          have g3 : ¬ (64 : Int) ≤ (t : Int) := by omega
          have HLW' := Bx.mk hlw; have HS := Bx.mk hstp; have HGO := Bx.mk hgood; have HZ' := Bx.mk hz; have HK0 := Bx.mk hk0; have HK1 := Bx.mk hk1
          clear hlw hstp hgood hbad hwk hk hk0 hk1 hrl hz hq HLW
          go_wp2_with fail
          refine (HLW'.out _).mono ?_
          rintro e w' ⟨rfl, rfl⟩
          have hor := or8 HK0.out HK1.out HZ'.out
          have HOR := Bx.mk hor; clear hor
          go_wp2_with fail
          go_roundw
          case rel =>
            have hs1 := set_one (q := q) V1.out (.int .u8 (z.toNat : Int))
            refine ⟨t + 1, hlt, by go_num, HG.out.step h64 (by rw [HSL.out]; exact hlt) (by rw [HGD.out]; exact HGO.out), ?_, ?_, ?_, ?_⟩
            · rw [HOR.out]; exact (hs1.2 _ (by omega)).trans V0.out
            · rw [HOR.out, HS.out, ← ocells_setI]; exact hs1.1
            · rw [HOR.out]; exact (hs1.2 _ (by omega)).trans V2.out
            · exact VB.out.setCell (Nat.le_succ _) _
          case measure => simp [intOf]; omega
        · have ht64 : t = 64 := by
            rcases Nat.lt_or_ge 64 t with h | h
            · have := (HG.out 64 h).1; omega
            · omega
          have hlw := HLW.out
          rw [hgood] at hlw
          have hans : ReadAns (sb s) (some t) := ⟨HG.out, .inl ⟨ht64, by rw [HSL.out, ← ht64]; exact hlt⟩⟩
          generalize (lett (s[t].toNat : Int)).1 = kk at hlw
          have HLW' := Bx.mk hlw; have HANS := Bx.mk hans
          have g3 : (64 : Int) ≤ (t : Int) := by omega
          clear hlw hans hbad hgood HLW ht64
          go_wp2_with fail
          refine (HLW'.out _).mono ?_
          rintro e w' ⟨rfl, rfl⟩
          go_upto_region 8 with (fail)
          refine wp_region_inv2 (n := 54) (VF1 A t) (by kernel_rfl) (by kernel_rfl) rfl (VF1_mono A t) ?_ ?_
          · intro i o hi f u hsame hbel hdep
            have hu := HE.out.below (VB.out.trans (hbel.mono VB.out.size))
            have b2 : f.tmps.getD 2 undef = .pointer (some ⟨w.heap.size, 0, none⟩) := hsame.slot 2 (fun i o h => invB2_not 2 (by kernel_rfl) h)
            have b6 : f.tmps.getD 6 undef = .int .i64 (t : Int) := hsame.slot 6 (fun i o h => invB2_not 6 (by kernel_rfl) h)
            have hx0 := (hbel.block _ (Array.getElem?_eq_some_iff.1 V0.out).1).trans V0.out
            match i, hi with
            | 0, hi =>
              cases (show some _ = some o from hi)
              exact ⟨wanted_none rfl, shows_build rfl 24 #[] rfl zeros32 (by kernel_rfl) rfl⟩
            | 1, hi =>
              cases (show some _ = some o from hi)
              exact ⟨wanted_none rfl, fun K hK => wp_load_iface 30 _ rfl ⟨1, 0, none⟩ rfl _ (hu.glob 2 (by decide)) Tryd.underlying30 (hK _ _ (fun d' h => by cases h; rfl) (Below.refl _ _))⟩
            | 2, hi =>
              cases (show some _ = some o from hi)
              exact ⟨wanted_none rfl, shows_move rfl _ rfl b6⟩
            | 3, hi =>
              cases (show some _ = some o from hi)
              have e1 : f.tmps.getD 28 undef = .iface 126 (.pointer (some (A 2))) := dep_of (V := VF1 A t) hdep 1 28 (by kernel_rfl) (by kernel_rfl)
              have e2 : f.tmps.getD 29 undef = .int .i64 (t : Int) := dep_of (V := VF1 A t) hdep 2 29 (by kernel_rfl) (by kernel_rfl)
              have hbl := built_fault (A 2) (t : Int)
              exact ⟨wanted_none rfl, shows_build rfl 67 _ rfl _ (by rw [Array.toList_map]; show Tryd.prog.built 67 [(0, f.tmps.getD 28 undef), (1, f.tmps.getD 29 undef)] = _; rw [e1, e2]; exact hbl) rfl⟩
            | 4, hi =>
              cases (show some _ = some o from hi)
              have e3 : f.tmps.getD 30 undef = .agg #[.iface 126 (.pointer (some (A 2))), .int .i64 (t : Int)] := dep_of (V := VF1 A t) hdep 3 30 (by kernel_rfl) (by kernel_rfl)
              exact ⟨wanted_none rfl, shows_run rfl (.pointer (some ⟨u.heap.size, 0, none⟩)) (w' := u.alloc (.cells #[.iface 126 (.pointer (some (A 2))), .int .i64 (t : Int)] 67)) (by simp only [execOp, Act.eval]; go_simp) (er_al (Below.refl _ _) _) ⟨_, rfl, heap_alloc_new _ _⟩⟩
            | 5, hi =>
              cases (show some _ = some o from hi)
              obtain ⟨b, e4, hb4⟩ : ∃ b, f.tmps.getD 31 undef = .pointer (some ⟨b, 0, none⟩) ∧ u.heap[b]? = some (.cells #[.iface 126 (.pointer (some (A 2))), .int .i64 (t : Int)] 67 (0, 0)) := dep_of (V := VF1 A t) hdep 4 31 (by kernel_rfl) (by kernel_rfl)
              exact ⟨wanted_none rfl, shows_run rfl (.iface 65 (.pointer (some ⟨b, 0, none⟩))) (w' := u) (by simp only [execOp, Act.eval]; go_simp) (Below.refl _ _) ⟨_, rfl, hb4⟩⟩
            | 6, hi =>
              cases (show some _ = some o from hi)
              have e0 : f.tmps.getD 27 undef = .agg zeros32 := dep_of (V := VF1 A t) hdep 0 27 (by kernel_rfl) (by kernel_rfl)
              refine ⟨wanted_none rfl, fun K hK => wp_store_row 24 (.tmp 2) (.tmp 27) rfl w.heap.size zeros32 b2 e0 _ _ hx0 (hszL zero32'_length) (hsoL zero32'_length) (ocells_one zero32') (hK .nilIface _ (fun d' h => by cases h) (below_same hx0))⟩
            | 7, hi =>
              cases (show some _ = some o from hi)
              have e5 : ∃ b, f.tmps.getD 32 undef = .iface 65 (.pointer (some ⟨b, 0, none⟩)) ∧ u.heap[b]? = some (.cells #[.iface 126 (.pointer (some (A 2))), .int .i64 (t : Int)] 67 (0, 0)) := dep_of (V := VF1 A t) hdep 5 32 (by kernel_rfl) (by kernel_rfl)
              exact ⟨wanted_none rfl, shows_assign rfl _ rfl e5⟩
            | n + 8, hi => exact absurd hi (by simp)
          · intro f u hsame hbel hall
            obtain ⟨b, e3, hb3⟩ : ∃ b, f.tmps.getD 3 undef = .iface 65 (.pointer (some ⟨b, 0, none⟩)) ∧ u.heap[b]? = some (.cells #[.iface 126 (.pointer (some (A 2))), .int .i64 (t : Int)] 67 (0, 0)) := hall 7 _ 3 rfl rfl
            have b2 : f.tmps.getD 2 undef = .pointer (some ⟨w.heap.size, 0, none⟩) := hsame.slot 2 (fun i o h => invB2_not 2 (by kernel_rfl) h)
            have hx0 := (hbel.block _ (Array.getElem?_eq_some_iff.1 V0.out).1).trans V0.out
            have hd : f.defers = [] := hsame.defers
            refine ‹∀ (a : Act) (w : World), Code.wp _ Code.ret _ a w → _› f u ?_
            go_wp2_with fail
            refine bodyPost_ret (results_row_tmp rfl _ _ w.heap.size _ zeros32 _ b2 hx0 (hszL zero32'_length)) hd ⟨⟨some t, HANS.out, f.tmps.getD 3 undef, rfl, ?_⟩, VB.out.trans (hbel.mono VB.out.size)⟩
            rw [e3]
            exact .fault 2 b 0 _ (by decide) (er_cellAt hb3 0 _ rfl) (er_cellAt hb3 1 _ rfl)
    · have hts : t = s.size := by omega
      have hnx := fun ty => Go.Lib.run_next_end_at (P := Tryd.prog) wr (w.heap.size + 1 + 1) s t ty HU2.out hlt
      by_cases h64 : t < 64
      · have hans : ReadAns (sb s) (some t) := ⟨HG.out, .inr ⟨h64, .inl (by rw [HSL.out]; omega)⟩⟩
        have HANS := Bx.mk hans; clear hans hts
        have g3 : (t : Int) < 64 := by omega
        clear hlt
        go_upto_region 12 with (fail)
        refine wp_region_inv2 (n := 54) (VF2 A t) (by kernel_rfl) (by kernel_rfl) rfl (VF2_mono A t) ?_ ?_
        · intro i o hi f u hsame hbel hdep
          have hu := HE.out.below (HB.out.trans (hbel.mono HB.out.size))
          have b2 : f.tmps.getD 2 undef = .pointer (some ⟨w.heap.size, 0, none⟩) := hsame.slot 2 (fun i o h => invB2_not 2 (by kernel_rfl) h)
          have b6 : f.tmps.getD 5 undef = .int .i64 (t : Int) := hsame.slot 5 (fun i o h => invB2_not 5 (by kernel_rfl) h)
          have hx0 := (hbel.block _ (Array.getElem?_eq_some_iff.1 HU0.out).1).trans HU0.out
          match i, hi with
          | 0, hi =>
            cases (show some _ = some o from hi)
            exact ⟨wanted_none rfl, shows_build rfl 24 #[] rfl zeros32 (by kernel_rfl) rfl⟩
          | 1, hi =>
            cases (show some _ = some o from hi)
            exact ⟨wanted_none rfl, fun K hK => wp_load_iface 30 _ rfl ⟨1, 0, none⟩ rfl _ (hu.glob 2 (by decide)) Tryd.underlying30 (hK _ _ (fun d' h => by cases h; rfl) (Below.refl _ _))⟩
          | 2, hi =>
            cases (show some _ = some o from hi)
            exact ⟨wanted_none rfl, shows_move rfl _ rfl b6⟩
          | 3, hi =>
            cases (show some _ = some o from hi)
            have e1 : f.tmps.getD 48 undef = .iface 126 (.pointer (some (A 2))) := dep_of (V := VF2 A t) hdep 1 48 (by kernel_rfl) (by kernel_rfl)
            have e2 : f.tmps.getD 49 undef = .int .i64 (t : Int) := dep_of (V := VF2 A t) hdep 2 49 (by kernel_rfl) (by kernel_rfl)
            have hbl := built_fault (A 2) (t : Int)
            exact ⟨wanted_none rfl, shows_build rfl 67 _ rfl _ (by rw [Array.toList_map]; show Tryd.prog.built 67 [(0, f.tmps.getD 48 undef), (1, f.tmps.getD 49 undef)] = _; rw [e1, e2]; exact hbl) rfl⟩
          | 4, hi =>
            cases (show some _ = some o from hi)
            have e3 : f.tmps.getD 50 undef = .agg #[.iface 126 (.pointer (some (A 2))), .int .i64 (t : Int)] := dep_of (V := VF2 A t) hdep 3 50 (by kernel_rfl) (by kernel_rfl)
            exact ⟨wanted_none rfl, shows_run rfl (.pointer (some ⟨u.heap.size, 0, none⟩)) (w' := u.alloc (.cells #[.iface 126 (.pointer (some (A 2))), .int .i64 (t : Int)] 67)) (by simp only [execOp, Act.eval]; go_simp) (er_al (Below.refl _ _) _) ⟨_, rfl, heap_alloc_new _ _⟩⟩
          | 5, hi =>
            cases (show some _ = some o from hi)
            obtain ⟨b, e4, hb4⟩ : ∃ b, f.tmps.getD 51 undef = .pointer (some ⟨b, 0, none⟩) ∧ u.heap[b]? = some (.cells #[.iface 126 (.pointer (some (A 2))), .int .i64 (t : Int)] 67 (0, 0)) := dep_of (V := VF2 A t) hdep 4 51 (by kernel_rfl) (by kernel_rfl)
            exact ⟨wanted_none rfl, shows_run rfl (.iface 65 (.pointer (some ⟨b, 0, none⟩))) (w' := u) (by simp only [execOp, Act.eval]; go_simp) (Below.refl _ _) ⟨_, rfl, hb4⟩⟩
          | 6, hi =>
            cases (show some _ = some o from hi)
            have e0 : f.tmps.getD 47 undef = .agg zeros32 := dep_of (V := VF2 A t) hdep 0 47 (by kernel_rfl) (by kernel_rfl)
            refine ⟨wanted_none rfl, fun K hK => wp_store_row 24 (.tmp 2) (.tmp 47) rfl w.heap.size zeros32 b2 e0 _ _ hx0 (hszL zero32'_length) (hsoL zero32'_length) (ocells_one zero32') (hK .nilIface _ (fun d' h => by cases h) (below_same hx0))⟩
          | 7, hi =>
            cases (show some _ = some o from hi)
            have e5 : ∃ b, f.tmps.getD 52 undef = .iface 65 (.pointer (some ⟨b, 0, none⟩)) ∧ u.heap[b]? = some (.cells #[.iface 126 (.pointer (some (A 2))), .int .i64 (t : Int)] 67 (0, 0)) := dep_of (V := VF2 A t) hdep 5 52 (by kernel_rfl) (by kernel_rfl)
            exact ⟨wanted_none rfl, shows_assign rfl _ rfl e5⟩
          | n + 8, hi => exact absurd hi (by simp)
        · intro f u hsame hbel hall
          obtain ⟨b, e3, hb3⟩ : ∃ b, f.tmps.getD 3 undef = .iface 65 (.pointer (some ⟨b, 0, none⟩)) ∧ u.heap[b]? = some (.cells #[.iface 126 (.pointer (some (A 2))), .int .i64 (t : Int)] 67 (0, 0)) := hall 7 _ 3 rfl rfl
          have b2 : f.tmps.getD 2 undef = .pointer (some ⟨w.heap.size, 0, none⟩) := hsame.slot 2 (fun i o h => invB2_not 2 (by kernel_rfl) h)
          have hx0 := (hbel.block _ (Array.getElem?_eq_some_iff.1 HU0.out).1).trans HU0.out
          have hd : f.defers = [] := hsame.defers
          refine ‹∀ (a : Act) (w : World), Code.wp _ Code.ret _ a w → _› f u ?_
          go_wp2_with fail
          refine bodyPost_ret (results_row_tmp rfl _ _ w.heap.size _ zeros32 _ b2 hx0 (hszL zero32'_length)) hd ⟨⟨some t, HANS.out, f.tmps.getD 3 undef, rfl, ?_⟩, HB.out.trans (hbel.mono HB.out.size)⟩
          rw [e3]
          exact .fault 2 b 0 _ (by decide) (er_cellAt hb3 0 _ rfl) (er_cellAt hb3 1 _ rfl)
      · have ht64 : t = 64 := by
          rcases Nat.lt_or_ge 64 t with h | h
          · have := (HG.out 64 h).1; omega
          · omega
        have hans : ReadAns (sb s) none := ⟨by rw [HSL.out]; omega, by rw [← ht64]; exact HG.out⟩
        have hrl := rdN_length (sb s) t
        have HL := Bx.mk hrl; have HANS := Bx.mk hans; have HT := Bx.mk ht64
        have g3 : ¬ (t : Int) < 64 := by omega
        clear hans hts hrl ht64 hlt
        go_wp2_with (first
          | refine wpList_load_row rfl 24 (.tmp 4) rfl (w.heap.size + 1) rfl _ _ _ _ HU1.out underH rfl (hszL HL.out) ?_
          | refine wpList_store_row rfl 24 (.tmp 2) (.tmp 53) rfl w.heap.size (ocells (rdN (sb s) t)) rfl rfl _ _ HU0.out (hszL HL.out) (hsoL HL.out) (ocells_one _) ?_)
        exact bodyPost_ret (results_row_tmp rfl _ _ w.heap.size _ (ocells (rdN (sb s) t)) _ rfl (setRow_heap _ _ _ _ _ _ HU0.out) (hszL HL.out)) rfl ⟨⟨none, HANS.out, by show _ = Ending.returned (.tuple #[hv (rdN (sb s) 64), .nilIface]); rw [← HT.out]; rfl⟩, below_setRow HB.out (Nat.le_refl _) _⟩
end Go.Proofs.YtecdaokgnkhgiaaDoor
