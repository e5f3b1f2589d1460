/- cartularylaw13.CacheKinds walked. -/
import Derived.Test.YtdepmjgibenejaaDoorCaKl
import Derived.Test.YtdepmjgibenejaaDoorCaG
import Derived.Test.YtdepmjgibenejaaDoorMid
import Derived.Lib.Builder
namespace Go.Proofs.YtdepmjgibenejaaDoor
set_option maxRecDepth 100000
open Go.RowKit Go.Maps
theorem infoPz : (Tryd.prog.info? 36).map (fun i => (i.zero, i.size, i.bytes)) = some (some (.pointer none), 1, 8) := by kernel_rfl
theorem underPz : Tryd.prog.underlying 38 = some (.slice 36) := by kernel_rfl
theorem wrapz (t : Nat) (h : t < 1000000) : wrap64 ((t : Int) + 1) = ((t + 1 : Nat) : Int) := by unfold wrap64; omega
theorem run_eql_op {P : Program} {o : Oper} {a : Act} {w : World} (t t' : TypeId) (x y : Operand) (ho : o.op = .binOp .eql t x y t') {vx vy r : Value} (hx : a.eval x = vx) (hy : a.eval y = vy) (hg : (eqGuard .eql t x y vx vy).run P w = .ok () w) (h : (binOp .eql t vx vy).run P w = .ok r w) : (execOp a.eval o).run P w = .ok (.value r) w := by
  unfold execOp
  simp only [ho, hx, hy, Sem.run_bind, hg, h, Result.andThen_ok, Sem.run_pure]
theorem run_neq_op {P : Program} {o : Oper} {a : Act} {w : World} (t t' : TypeId) (x y : Operand) (ho : o.op = .binOp .neq t x y t') {vx vy r : Value} (hx : a.eval x = vx) (hy : a.eval y = vy) (hg : (eqGuard .neq t x y vx vy).run P w = .ok () w) (h : (binOp .neq t vx vy).run P w = .ok r w) : (execOp a.eval o).run P w = .ok (.value r) w := by
  unfold execOp
  simp only [ho, hx, hy, Sem.run_bind, hg, h, Result.andThen_ok, Sem.run_pure]
theorem ptr_neqz (w : World) (q : Nat) : (binOp .neq 36 (.pointer (some ⟨q, 0, none⟩)) (.pointer (some ⟨q, 0, none⟩))).run Tryd.prog w = .ok (.bool false) w := by
  obtain ⟨j, hj, _⟩ := Option.map_eq_some_iff.1 (show (Tryd.prog.info? 40).map (·.size) = some 35 by kernel_rfl)
  exact Lib.run_neq_ptr_same w ⟨q, 0, none⟩ Tryd.underlying36 hj
theorem hash_neqz (w : World) (a : List UInt8) (ha : a.length = 32) : (binOp .neq 32 (.agg (bcells a).toArray) (.agg (bcells a).toArray)).run Tryd.prog w = .ok (.bool false) w := by
  show (binOp .neq 32 (.agg (a.map Extern.Stop.cell).toArray) (.agg (a.map Extern.Stop.cell).toArray)).run Tryd.prog w = _
  rw [run_neq_struct, run_equalIn_bytes w 9998 32 5 32 underHz (by kernel_rfl) (fun _ => by kernel_rfl) a a ha ha, beq_self_eq_true]
  rfl
def thc (k : TlK) : Array Value := (([.int .u8 k.lv, .int .u64 k.ix, .int .i64 k.wd] : List Value) ++ bcells zH).toArray
theorem built_th (k : TlK) : Tryd.prog.built 40 [(0, .agg (kcT k).toArray)] = some (thc k) := by kernel_rfl
def VKI11 (B off N cap ra t : Nat) (fA : Nat → TlK) (vA : Nat → List UInt8) (oi : Nat) (v : Value) (own : Nat → Option Nat) (w : World) : Prop :=
  match oi with
  | 0 => v = .pointer (some ⟨ra, 0, none⟩)
  | 1 => v = .slice (some ⟨B, off, none⟩) N cap
  | 2 => v = .int .i64 (t : Int)
  | 3 => v = .pointer (some ⟨B, off + t * 35, none⟩)
  | 4 => v = .pointer (some ⟨B, off + t * 35, none⟩)
  | 5 => v = .agg (kcT (fA t)).toArray
  | 6 => v = .slice (some ⟨B, off, none⟩) N cap
  | 7 => v = .int .i64 (t : Int)
  | 8 => v = .pointer (some ⟨B, off + t * 35, none⟩)
  | 9 => v = .pointer (some ⟨B, off + t * 35 + 3, none⟩)
  | 10 => v = .agg (bcells (vA t)).toArray
  | _ => True
def VKI11mk : Nat → Option Nat := fun _ => none
theorem VKI11_mono (B off N cap ra t : Nat) (fA : Nat → TlK) (vA : Nat → List UInt8) (oi oj : Nat) (v : Value) (own : Nat → Option Nat) (w : World) (own' : Nat → Option Nat) (w' : World) (hij : oi ≠ oj)   (h : VKI11 B off N cap ra t fA vA oj v own w) (r : Rel VKI11mk oi own w own' w') : VKI11 B off N cap ra t fA vA oj v own' w' := by
  unfold VKI11 at h ⊢
  split at h
  · exact h
  · exact h
  · exact h
  · exact h
  · exact h
  · exact h
  · exact h
  · exact h
  · exact h
  · exact h
  · exact h
  · trivial

def VKI12 (B off N cap rb hb n t q : Nat) (vA : Nat → List UInt8) (oi : Nat) (v : Value) (own : Nat → Option Nat) (w : World) : Prop :=
  match oi with
  | 0 => v = .pointer (some ⟨rb, 0, none⟩)
  | 1 => v = .slice (some ⟨B, off, none⟩) N cap
  | 2 => v = .int .i64 (t : Int)
  | 3 => v = .pointer (some ⟨B, off + t * 35, none⟩)
  | 4 => v = .pointer (some ⟨B, off + t * 35 + 3, none⟩)
  | 5 => v = .agg (bcells (vA t)).toArray
  | 6 => v = .slice (some ⟨hb, 0, none⟩) n n
  | 7 => v = .int .i64 (t : Int)
  | 8 => v = .pointer (some ⟨hb, t, none⟩)
  | 9 => v = .pointer (some ⟨q, 0, none⟩)
  | _ => True
def VKI12mk : Nat → Option Nat := fun _ => none
theorem VKI12_mono (B off N cap rb hb n t q : Nat) (vA : Nat → List UInt8) (oi oj : Nat) (v : Value) (own : Nat → Option Nat) (w : World) (own' : Nat → Option Nat) (w' : World) (hij : oi ≠ oj)   (h : VKI12 B off N cap rb hb n t q vA oj v own w) (r : Rel VKI12mk oi own w own' w') : VKI12 B off N cap rb hb n t q vA oj v own' w' := by
  unfold VKI12 at h ⊢
  split at h
  · exact h
  · exact h
  · exact h
  · exact h
  · exact h
  · exact h
  · exact h
  · exact h
  · exact h
  · exact h
  · trivial

def VKI21 (B off N cap i k : Nat) (fA : Nat → TlK) (bq : Bool) (oi : Nat) (v : Value) (own : Nat → Option Nat) (w : World) : Prop :=
  match oi with
  | 0 => v = .slice (some ⟨B, off, none⟩) N cap
  | 1 => v = .int .i64 (k : Int)
  | 2 => v = .pointer (some ⟨B, off + k * 35, none⟩)
  | 3 => v = .pointer (some ⟨B, off + k * 35, none⟩)
  | 4 => v = .agg (kcT (fA k)).toArray
  | 5 => v = .slice (some ⟨B, off, none⟩) N cap
  | 6 => v = .int .i64 (i : Int)
  | 7 => v = .pointer (some ⟨B, off + i * 35, none⟩)
  | 8 => v = .pointer (some ⟨B, off + i * 35, none⟩)
  | 9 => v = .agg (kcT (fA i)).toArray
  | 10 => v = .bool bq
  | _ => True
def VKI21mk : Nat → Option Nat := fun _ => none
theorem VKI21_mono (B off N cap i k : Nat) (fA : Nat → TlK) (bq : Bool) (oi oj : Nat) (v : Value) (own : Nat → Option Nat) (w : World) (own' : Nat → Option Nat) (w' : World) (hij : oi ≠ oj)   (h : VKI21 B off N cap i k fA bq oj v own w) (r : Rel VKI21mk oi own w own' w') : VKI21 B off N cap i k fA bq oj v own' w' := by
  unfold VKI21 at h ⊢
  split at h
  · exact h
  · exact h
  · exact h
  · exact h
  · exact h
  · exact h
  · exact h
  · exact h
  · exact h
  · exact h
  · exact h
  · trivial

def VKI23 (B off N cap i k : Nat) (vA : Nat → List UInt8) (cq : Bool) (oi : Nat) (v : Value) (own : Nat → Option Nat) (w : World) : Prop :=
  match oi with
  | 0 => v = .slice (some ⟨B, off, none⟩) N cap
  | 1 => v = .int .i64 (k : Int)
  | 2 => v = .pointer (some ⟨B, off + k * 35, none⟩)
  | 3 => v = .pointer (some ⟨B, off + k * 35 + 3, none⟩)
  | 4 => v = .agg (bcells (vA k)).toArray
  | 5 => v = .slice (some ⟨B, off, none⟩) N cap
  | 6 => v = .int .i64 (i : Int)
  | 7 => v = .pointer (some ⟨B, off + i * 35, none⟩)
  | 8 => v = .pointer (some ⟨B, off + i * 35 + 3, none⟩)
  | 9 => v = .agg (bcells (vA i)).toArray
  | 10 => v = .bool cq
  | _ => True
def VKI23mk : Nat → Option Nat := fun _ => none
theorem VKI23_mono (B off N cap i k : Nat) (vA : Nat → List UInt8) (cq : Bool) (oi oj : Nat) (v : Value) (own : Nat → Option Nat) (w : World) (own' : Nat → Option Nat) (w' : World) (hij : oi ≠ oj)   (h : VKI23 B off N cap i k vA cq oj v own w) (r : Rel VKI23mk oi own w own' w') : VKI23 B off N cap i k vA cq oj v own' w' := by
  unfold VKI23 at h ⊢
  split at h
  · exact h
  · exact h
  · exact h
  · exact h
  · exact h
  · exact h
  · exact h
  · exact h
  · exact h
  · exact h
  · exact h
  · trivial

def VKI27 (B off N cap x y hb k G : Nat) (vA : Nat → List UInt8) (p : Nat → Nat) (oi : Nat) (v : Value) (own : Nat → Option Nat) (w : World) : Prop :=
  match oi with
  | 0 => v = .bool true
  | 1 => v = .bool false
  | 2 => v = .bool false
  | 3 => v = .bool true
  | 4 => v = .bool false
  | 5 => v = .bool false
  | 6 => v = .bool false
  | 7 => v = .agg (bcells (vA x)).toArray
  | 8 => v = .slice (some ⟨B, off, none⟩) N cap
  | 9 => v = .int .i64 (x : Int)
  | 10 => v = .pointer (some ⟨B, off + x * 35, none⟩)
  | 11 => v = .pointer (some ⟨B, off + x * 35 + 3, none⟩)
  | 12 => v = .agg (bcells (vA x)).toArray
  | 13 => v = .bool false
  | 14 => v = .bool false
  | 15 => v = .bool false
  | 16 => v = .pointer (some ⟨(p y), 0, none⟩)
  | 17 => v = .slice (some ⟨hb, 0, none⟩) k k
  | 18 => v = .int .i64 (y : Int)
  | 19 => v = .pointer (some ⟨hb, y, none⟩)
  | 20 => v = .pointer (some ⟨(p y), 0, none⟩)
  | 21 => v = .bool false
  | 22 => v = .bool false
  | _ => True
def VKI27mk : Nat → Option Nat := fun _ => none
theorem VKI27_mono (B off N cap x y hb k G : Nat) (vA : Nat → List UInt8) (p : Nat → Nat) (oi oj : Nat) (v : Value) (own : Nat → Option Nat) (w : World) (own' : Nat → Option Nat) (w' : World) (hij : oi ≠ oj)   (h : VKI27 B off N cap x y hb k G vA p oj v own w) (r : Rel VKI27mk oi own w own' w') : VKI27 B off N cap x y hb k G vA p oj v own' w' := by
  unfold VKI27 at h ⊢
  split at h
  · exact h
  · exact h
  · exact h
  · exact h
  · exact h
  · exact h
  · exact h
  · exact h
  · exact h
  · exact h
  · exact h
  · exact h
  · exact h
  · exact h
  · exact h
  · exact h
  · exact h
  · exact h
  · exact h
  · exact h
  · exact h
  · exact h
  · exact h
  · trivial

set_option maxHeartbeats 6400000 in
theorem kinds_any (w : World) (v : Value) (us : List Thg) (hU : ThsC w v us) : Calls Tryd.prog 3 #[v] w fun e w' => e = .returned (.bool true) ∧ Below w.heap.size w w' := by
  obtain ⟨a, cap, rfl, hcap, hcm, hall, hmem⟩ := hU
  obtain ⟨fA, hfA⟩ : ∃ f : Nat → TlK, ∀ i (h : i < us.length), us[i].1 = f i := ⟨fun i => (us.getD i (⟨0, 0, 0⟩, zH)).1, fun i h => by show _ = Prod.fst (us.getD i (⟨0, 0, 0⟩, zH)); rw [List.getD_eq_getElem?_getD, List.getElem?_eq_getElem h]; rfl⟩
  obtain ⟨vA, hvA⟩ : ∃ f : Nat → List UInt8, ∀ i (h : i < us.length), us[i].2 = f i := ⟨fun i => (us.getD i (⟨0, 0, 0⟩, zH)).2, fun i h => by show _ = Prod.snd (us.getD i (⟨0, 0, 0⟩, zH)); rw [List.getD_eq_getElem?_getD, List.getElem?_eq_getElem h]; rfl⟩
  obtain ⟨B, off, hB⟩ : ∃ B off, us ≠ [] → a = some ⟨B, off, none⟩ ∧ B < w.heap.size ∧ ∀ i, i < us.length → w.rangeAt B (off + i * 35) (kcT (fA i)) ∧ w.rangeAt B (off + i * 35 + 3) (bcells (vA i)) := by
    by_cases hne : us = []
    · exact ⟨0, 0, fun h => absurd hne h⟩
    · obtain ⟨B, off, e, hlt, hr⟩ := hmem hne
      exact ⟨B, off, fun _ => ⟨e, hlt, fun i hi => by rw [← hfA i hi, ← hvA i hi]; exact hr i hi⟩⟩
  have HF : Bx (∀ i, i < us.length → kwT (fA i) ∧ (vA i).length = 32 ∧ kwH (vA i)) := ⟨fun i hi => by rw [← hfA i hi, ← hvA i hi]; exact hall _ (List.getElem_mem hi)⟩
  obtain ⟨N, hN⟩ : ∃ N, N = us.length := ⟨_, rfl⟩
  have HN := Bx.mk hN
  have NM := Bx.mk (show N ≤ maxLen by rw [hN]; exact Nat.le_trans hcap hcm)
  have HB := Bx.mk (show 0 < N → a = some ⟨B, off, none⟩ ∧ B < w.heap.size ∧ ∀ i, i < N → w.rangeAt B (off + i * 35) (kcT (fA i)) ∧ w.rangeAt B (off + i * 35 + 3) (bcells (vA i)) from fun h => by
    obtain ⟨q1, q2, q3⟩ := hB (by intro e; rw [e] at hN; simp at hN; omega)
    exact ⟨q1, q2, fun i hi => q3 i (by omega)⟩)
  have HK := Bx.mk (show ∀ i, i < N → kwT (fA i) ∧ (vA i).length = 32 ∧ kwH (vA i) from fun i hi => HF.out i (by omega))
  rw [← hN]
  clear hB hall hmem hfA hvA hcap hcm hN HF
  have cn := ynewT w 1024 (by decide)
  rw [show ((1024 : Nat) : Int) = 1024 from rfl] at cn
  have C1 := Bx.mk cn
  clear cn
  go_enter Tryd.func3, Tryd.ntmps3
  go_wp2_with fail
  refine C1.out.mono ?_
  rintro e w1 ⟨ra, rfl, A, hA, gA, hb1⟩
  have cn := ynewH w1 1024 (by decide)
  rw [show ((1024 : Nat) : Int) = 1024 from rfl] at cn
  have C2 := Bx.mk cn
  have HA := Bx.mk hA; have B1 := Bx.mk hb1
  clear cn hA gA hb1 C1
  go_wp2_with fail
  refine C2.out.mono ?_
  rintro e w2 ⟨rb, rfl, Bs, hBs, gB, hb2⟩
  have HBs := Bx.mk hBs; have B2 := Bx.mk (B1.out.trans (hb2.mono B1.out.size)); have GB := Bx.mk gB; have HA2 := Bx.mk (HA.out.below hb2)
  have C3 := Bx.mk (alive13_any w2)
  clear hBs gB hb2 C2
  go_wp2_with fail
  refine C3.out.mono ?_
  rintro e w3 ⟨rfl, hb3⟩
  have HA3 := Bx.mk (HA2.out.below hb3); have HB3 := Bx.mk ((HBs.out.below hb3).mono B1.out.size); have B3 := Bx.mk (B2.out.trans (hb3.mono B2.out.size))
  have DJ := Bx.mk (show ∀ k, A k → ¬ Bs k from fun k h1 h2 => by have := HA.out.lt k h1; have := GB.out k h2; omega)
  clear hb3 C3 HA2 HBs
  obtain ⟨n, hn⟩ : ∃ n, n = min N 1000 := ⟨_, rfl⟩
  have NN := Bx.mk (show n ≤ N by rw [hn]; exact Nat.min_le_left _ _); have N1 := Bx.mk (show n ≤ 1000 by rw [hn]; exact Nat.min_le_right _ _)
  have hmin : (if (1000 : Int) < (N : Int) then (1000 : Int) else (N : Int)) = (n : Int) := by rw [hn]; split <;> omega
  clear hn
  go_upto_region 6 with (fail)
  clear hmin
  obtain ⟨im, hi1, hi2⟩ := Option.map_eq_some_iff.1 infoPz
  simp only [Prod.mk.injEq] at hi2
  obtain ⟨hz, hsz, hby⟩ := hi2
  have mk : ∀ u : World, (Instr.makeSlice 38 (.int .i64 (n : Int)) (.int .i64 (n : Int))).run Tryd.prog u = .ok (.slice (some ⟨u.heap.size, 0, none⟩) n n) (u.alloc (.cells (madeCells #[.pointer none] n) 36)) := fun u => by
    have := run_make (P := Tryd.prog) u 38 36 im (.pointer none) underPz hi1 hz .i64 .i64 (n : Int) (n : Int) (by omega) (Int.le_refl _) (by rw [hby]; have := N1.out; omega) (by have := N1.out; omega)
    rw [this, hsz, show ((n : Nat) : Int).toNat = n by omega, Nat.mul_one]
    rfl
  clear hz hsz hby hi1
  have kb := er_al (Below.refl w3.heap.size w3) (.cells (madeCells #[.pointer none] n) 36)
  have xh := heap_alloc_new w3 (.cells (madeCells #[.pointer none] n) 36)
  go_upto_region 7 with (fail)
  change Code.wp _ _ _ _ (w3.alloc (.cells (madeCells #[.pointer none] n) 36))
  generalize w3.alloc (.cells (madeCells #[.pointer none] n) 36) = W3 at kb xh ⊢
  obtain ⟨hb, hhb⟩ : ∃ q, q = w3.heap.size := ⟨_, rfl⟩
  rw [← hhb] at xh ⊢
  have S3 := Bx.mk (Nat.le_trans B3.out.size kb.size)
  have KS0 : Bx (KS w.heap.size W3 ra rb hb n fA vA (fun _ => 0) 0 0) := ⟨⟨⟨A, Bs, ⟨[], HA3.out.below kb, InvP.nil _ _, Nat.le_refl _⟩, ⟨[], HB3.out.below kb, InvP.nil _ _, Nat.le_refl _⟩, DJ.out, fun e => by have := HA3.out.lt hb e; omega, fun e => by have := HB3.out.lt hb e; omega⟩, ⟨_, xh, by rw [size_madeCells], fun j hj => absurd hj (Nat.not_lt_zero _)⟩, by rw [hhb]; exact B3.out.size⟩⟩
  have B4 := Bx.mk (B3.out.trans (kb.mono B3.out.size))
  clear xh kb hhb HA3 HB3 DJ HA B1 B2 GB B3 mk
  go_wp2_with fail
  go_loopw [9] (fun iv wr => ∃ t : Nat, t ≤ n ∧ iv = .int .i64 (t : Int) ∧ (∃ p, KS w.heap.size wr ra rb hb n fA vA p t t) ∧ Below w.heap.size w wr ∧ w.heap.size ≤ wr.heap.size) (fun iv _ => n - (intOf iv).toNat)
  case atStart => exact ⟨0, Nat.zero_le _, rfl, ⟨_, KS0.out⟩, B4.out, S3.out⟩
  case round =>
    obtain ⟨t, ht, rfl, ⟨p, hks⟩, hbw, hsz⟩ := hrel
    have KS1 := Bx.mk hks; have BW := Bx.mk hbw; have SW := Bx.mk hsz
    clear hks hbw hsz
    by_cases hlt : t < n
    · have TL := Bx.mk hlt
      have TN := Bx.mk (show t < N by have := NN.out; omega)
      obtain ⟨rfl, hBl, hr⟩ := HB.out (by have := TN.out; omega)
      obtain ⟨rT, rH⟩ := hr t TN.out
      have RT := Bx.mk (rangeB rT hBl BW.out); have RH := Bx.mk (rangeB rH hBl BW.out); have BL := Bx.mk hBl
      clear hBl hr rT rH hlt ht
      obtain ⟨cs, xc, hcs, -⟩ := KS1.out.hd
      have kA := er_al (Below.refl wr.heap.size wr) (.cells (thc (fA t)) 40)
      have xh := (kA.block hb (Array.getElem?_eq_some_iff.1 xc).1).trans xc
      obtain ⟨old, hold⟩ : ∃ old, cs[t]? = some old := ⟨_, Array.getElem?_eq_getElem (show t < cs.size by rw [hcs]; exact TL.out)⟩
      have cc := er_cellAt xh t old hold
      have ff := frozenC xh t
      have f2 : (t : Int) < (n : Int) := by have := TL.out; omega
      have f3 : ¬ (n : Int) ≤ (t : Int) := by have := TL.out; omega
      have f4 : (t : Int) < (N : Int) := by have := TN.out; omega
      have f5 : ¬ (N : Int) ≤ (t : Int) := by have := TN.out; omega
      clear xc hcs hold
      go_upto_region 11 with (first
        | (guard_target =~ wpList _ _ _ (⟨some 60, _, _, _, _, _⟩ :: _) _ _; refine wpList_load_mid rfl 30 (.tmp 59) rfl B (off + t * 35) rfl (kcT (fA t)) _ RT.out Tryd.underlying30 rfl (szTl _) ?_)
        | (guard_target =~ wpList _ _ _ (⟨some 61, _, _, _, _, _⟩ :: _) _ _; refine wpList_build_c (by simp [Region.wanted]) 40 #[(0, .tmp 60)] rfl (thc (fA t)) (by simp only [List.map_toArray, List.map_cons, List.map_nil]; exact built_th _) ?_))
      clear f2 f3 f4 f5 cc ff
      have hs1 := (KS1.out.below kA).store TL.out wr.heap.size
      have hbw1 := (BW.out.trans (kA.mono SW.out)).trans (hs1.2.2.below (B := w.heap.size) (Nat.le_trans SW.out kA.size) (fun j e => by rw [show j = hb from e]; exact KS1.out.bh))
      have KS2 := Bx.mk hs1.1; have HQ := Bx.mk hs1.2.1; have BW1 := Bx.mk hbw1; have SW1 := Bx.mk (Nat.le_trans (Nat.le_trans SW.out kA.size) hs1.2.2.size)
      have kk1 : Below w.heap.size w _ := hbw1
      clear hs1 hbw1 kk1 kA xh
      obtain ⟨q, hq⟩ : ∃ q, q = wr.heap.size := ⟨_, rfl⟩
      rw [← hq] at KS2 HQ BW1 SW1 ⊢
      clear hq
      change Code.wp _ _ _ _ ((wr.alloc (.cells (thc (fA t)) 40)).setCell ⟨hb, t, none⟩ (.pointer (some ⟨q, 0, none⟩)))
      generalize (wr.alloc (.cells (thc (fA t)) 40)).setCell ⟨hb, t, none⟩ (.pointer (some ⟨q, 0, none⟩)) = W4 at KS2 HQ BW1 SW1 ⊢
      clear KS1 BW SW RT RH
      obtain ⟨-, hBl, hr⟩ := HB.out (by have := TN.out; omega)
      obtain ⟨rT, rH⟩ := hr t TN.out
      have RT := Bx.mk (rangeB rT hBl BW1.out); have RH := Bx.mk (rangeB rH hBl BW1.out); have BL4 := Bx.mk (show B < W4.heap.size from Nat.lt_of_lt_of_le hBl SW1.out)
      clear hBl hr rT rH
      refine wp_region_last (n := 167) (m := 11) VKI11mk (fun _ => none) (VKI11 B off N cap ra t fA vA) (by kernel_rfl) (by kernel_rfl) rfl rfl (by kernel_rfl) (fun _ _ => rfl) (fun j i hj _ => by cases hj) ?_ ?_ ?_
      · exact fun oi oj v own w own' w' hij _ h r => VKI11_mono B off N cap ra t fA vA oi oj v own w own' w' hij h r
      · intro oi o hltm hi f u own hsame hsn hfr hlate hkeep8 hdep
        have hkeep := hkeep8 _ (.inl rfl)
        have hb6 := hsn.below (B := W4.heap.size) (fun _ _ => rfl) (Nat.le_refl _)
        match oi, hi with
        | 0, hi =>
          cases (show some _ = some o from hi)
          have e3 : f.tmps.getD 3 undef = .pointer (some ⟨ra, 0, none⟩) := hsame.slot 3 (fun i o h => invB2_not 3 (by kernel_rfl) h)
          clear hdep hsame hi hlate hfr hkeep
          exact .inl ⟨wanted_none rfl, showsO_move hsn rfl _ rfl e3⟩
        | 1, hi =>
          cases (show some _ = some o from hi)
          have e0 : f.tmps.getD 0 undef = .slice (some ⟨B, off, none⟩) N cap := hsame.slot 0 (fun i o h => invB2_not 0 (by kernel_rfl) h)
          clear hdep hsame hi hlate hfr hkeep
          exact .inl ⟨wanted_none rfl, showsO_move hsn rfl _ rfl e0⟩
        | 2, hi =>
          cases (show some _ = some o from hi)
          have e9 : f.tmps.getD 9 undef = .int .i64 (t : Int) := hsame.slot 9 (fun i o h => invB2_not 9 (by kernel_rfl) h)
          clear hdep hsame hi hlate hfr hkeep
          exact .inl ⟨wanted_none rfl, showsO_move hsn rfl _ rfl e9⟩
        | 3, hi =>
          cases (show some _ = some o from hi)
          have e65 : (f.tmps.getD 65 undef) = .slice (some ⟨B, off, none⟩) N cap := depO (V := (VKI11 B off N cap ra t fA vA)) hdep 1 65 (by kernel_rfl) (by kernel_rfl)
          have e66 : (f.tmps.getD 66 undef) = .int .i64 (t : Int) := depO (V := (VKI11 B off N cap ra t fA vA)) hdep 2 66 (by kernel_rfl) (by kernel_rfl)
          clear hdep hsame hi hlate hfr hkeep
          have f2 : ¬ (N : Int) ≤ (t : Int) := by have := TN.out; omega
          have f3 : (t : Int) < (N : Int) := by have := TN.out; omega
          exact .inl ⟨wanted_none rfl, showsO_pure hsn rfl (.pointer (some ⟨B, off + t * 35, none⟩)) (by simp only [execOp, Act.eval]; go_simp) rfl⟩
        | 4, hi =>
          cases (show some _ = some o from hi)
          have e67 : (f.tmps.getD 67 undef) = .pointer (some ⟨B, off + t * 35, none⟩) := depO (V := (VKI11 B off N cap ra t fA vA)) hdep 3 67 (by kernel_rfl) (by kernel_rfl)
          clear hdep hsame hi hlate hfr hkeep
          exact .inl ⟨wanted_none rfl, showsO_pure hsn rfl (.pointer (some ⟨B, off + t * 35, none⟩)) (by simp only [execOp, Act.eval]; go_simp) rfl⟩
        | 5, hi =>
          cases (show some _ = some o from hi)
          have e68 : (f.tmps.getD 68 undef) = .pointer (some ⟨B, off + t * 35, none⟩) := depO (V := (VKI11 B off N cap ra t fA vA)) hdep 4 68 (by kernel_rfl) (by kernel_rfl)
          clear hdep hsame hi hlate hfr hkeep
          exact .inl ⟨wanted_none rfl, showsO_mid hsn rfl 30 (.tmp 68) rfl B (off + t * 35) e68 (kcT (fA t)) (rangeB RT.out BL4.out hb6) Tryd.underlying30 rfl (szTl _) rfl⟩
        | 6, hi =>
          cases (show some _ = some o from hi)
          have e0 : f.tmps.getD 0 undef = .slice (some ⟨B, off, none⟩) N cap := hsame.slot 0 (fun i o h => invB2_not 0 (by kernel_rfl) h)
          clear hdep hsame hi hlate hfr hkeep
          exact .inl ⟨wanted_none rfl, showsO_move hsn rfl _ rfl e0⟩
        | 7, hi =>
          cases (show some _ = some o from hi)
          have e9 : f.tmps.getD 9 undef = .int .i64 (t : Int) := hsame.slot 9 (fun i o h => invB2_not 9 (by kernel_rfl) h)
          clear hdep hsame hi hlate hfr hkeep
          exact .inl ⟨wanted_none rfl, showsO_move hsn rfl _ rfl e9⟩
        | 8, hi =>
          cases (show some _ = some o from hi)
          have e70 : (f.tmps.getD 70 undef) = .slice (some ⟨B, off, none⟩) N cap := depO (V := (VKI11 B off N cap ra t fA vA)) hdep 6 70 (by kernel_rfl) (by kernel_rfl)
          have e71 : (f.tmps.getD 71 undef) = .int .i64 (t : Int) := depO (V := (VKI11 B off N cap ra t fA vA)) hdep 7 71 (by kernel_rfl) (by kernel_rfl)
          clear hdep hsame hi hlate hfr hkeep
          have f2 : ¬ (N : Int) ≤ (t : Int) := by have := TN.out; omega
          have f3 : (t : Int) < (N : Int) := by have := TN.out; omega
          exact .inl ⟨wanted_none rfl, showsO_pure hsn rfl (.pointer (some ⟨B, off + t * 35, none⟩)) (by simp only [execOp, Act.eval]; go_simp) rfl⟩
        | 9, hi =>
          cases (show some _ = some o from hi)
          have e72 : (f.tmps.getD 72 undef) = .pointer (some ⟨B, off + t * 35, none⟩) := depO (V := (VKI11 B off N cap ra t fA vA)) hdep 8 72 (by kernel_rfl) (by kernel_rfl)
          clear hdep hsame hi hlate hfr hkeep
          exact .inl ⟨wanted_none rfl, showsO_pure hsn rfl (.pointer (some ⟨B, off + t * 35 + 3, none⟩)) (by simp only [execOp, Act.eval]; go_simp) rfl⟩
        | 10, hi =>
          cases (show some _ = some o from hi)
          have e73 : (f.tmps.getD 73 undef) = .pointer (some ⟨B, off + t * 35 + 3, none⟩) := depO (V := (VKI11 B off N cap ra t fA vA)) hdep 9 73 (by kernel_rfl) (by kernel_rfl)
          clear hdep hsame hi hlate hfr hkeep
          exact .inl ⟨wanted_none rfl, showsO_mid hsn rfl 32 (.tmp 73) rfl B (off + t * 35 + 3) e73 (bcells (vA t)) (rangeB RH.out BL4.out hb6) underHz rfl (hszl (HK.out t TN.out).2.1) rfl⟩
        | n + 11, hi => exact absurd hltm (by omega)
      intro o ho fr u1 own hsame hsn hla hall
      cases (show some _ = some o from ho)
      have q64 : fr.tmps.getD 64 undef = .pointer (some ⟨ra, 0, none⟩) := finL (V := (VKI11 B off N cap ra t fA vA)) hall 0 64 (by decide) rfl
      have q65 : fr.tmps.getD 65 undef = .slice (some ⟨B, off, none⟩) N cap := finL (V := (VKI11 B off N cap ra t fA vA)) hall 1 65 (by decide) rfl
      have q66 : fr.tmps.getD 66 undef = .int .i64 (t : Int) := finL (V := (VKI11 B off N cap ra t fA vA)) hall 2 66 (by decide) rfl
      have q67 : fr.tmps.getD 67 undef = .pointer (some ⟨B, off + t * 35, none⟩) := finL (V := (VKI11 B off N cap ra t fA vA)) hall 3 67 (by decide) rfl
      have q68 : fr.tmps.getD 68 undef = .pointer (some ⟨B, off + t * 35, none⟩) := finL (V := (VKI11 B off N cap ra t fA vA)) hall 4 68 (by decide) rfl
      have q69 : fr.tmps.getD 69 undef = .agg (kcT (fA t)).toArray := finL (V := (VKI11 B off N cap ra t fA vA)) hall 5 69 (by decide) rfl
      have q70 : fr.tmps.getD 70 undef = .slice (some ⟨B, off, none⟩) N cap := finL (V := (VKI11 B off N cap ra t fA vA)) hall 6 70 (by decide) rfl
      have q71 : fr.tmps.getD 71 undef = .int .i64 (t : Int) := finL (V := (VKI11 B off N cap ra t fA vA)) hall 7 71 (by decide) rfl
      have q72 : fr.tmps.getD 72 undef = .pointer (some ⟨B, off + t * 35, none⟩) := finL (V := (VKI11 B off N cap ra t fA vA)) hall 8 72 (by decide) rfl
      have q73 : fr.tmps.getD 73 undef = .pointer (some ⟨B, off + t * 35 + 3, none⟩) := finL (V := (VKI11 B off N cap ra t fA vA)) hall 9 73 (by decide) rfl
      have q74 : fr.tmps.getD 74 undef = .agg (bcells (vA t)).toArray := finL (V := (VKI11 B off N cap ra t fA vA)) hall 10 74 (by decide) rfl
      obtain ⟨x75, q75⟩ : ∃ x, fr.tmps.getD 75 undef = x := ⟨_, rfl⟩
      obtain rfl := frame_eq hsame [(64, .pointer (some ⟨ra, 0, none⟩)), (65, .slice (some ⟨B, off, none⟩) N cap), (66, .int .i64 (t : Int)), (67, .pointer (some ⟨B, off + t * 35, none⟩)), (68, .pointer (some ⟨B, off + t * 35, none⟩)), (69, .agg (kcT (fA t)).toArray), (70, .slice (some ⟨B, off, none⟩) N cap), (71, .int .i64 (t : Int)), (72, .pointer (some ⟨B, off + t * 35, none⟩)), (73, .pointer (some ⟨B, off + t * 35 + 3, none⟩)), (74, .agg (bcells (vA t)).toArray), (75, x75)] (by kernel_rfl) ⟨q64, q65, q66, q67, q68, q69, q70, q71, q72, q73, q74, q75, trivial⟩
      clear hall hsame q75 q64 q65 q66 q67 q68 q69 q70 q71 q72 q73 q74
      simp only [List.foldl, List.setIfInBounds_toArray, List.set_cons_succ, List.set_cons_zero]
      have hb1 := hsn.below (B := W4.heap.size) (fun _ _ => rfl) (Nat.le_refl _)
      refine ⟨wanted_none rfl, wp_call_enter 9 #[.pointer (some ⟨ra, 0, none⟩), .agg (kcT (fA t)).toArray, .agg (bcells (vA t)).toArray] (by simp only [execOp, Act.eval]; go_simp) (ksPutT w.heap.size u1 ra rb hb n fA vA p t t (KS2.out.below hb1) (Nat.le_trans SW1.out hb1.size) (by have := TL.out; have := N1.out; omega) (HK.out t TN.out).1 (HK.out t TN.out).2.1) ?_⟩
      rintro z W5 ⟨k5, b5, e5⟩
      simp only [Act.put, List.setIfInBounds_toArray, List.set_cons_succ, List.set_cons_zero]
      have KS5 := Bx.mk k5; have BW5 := Bx.mk ((BW1.out.trans (hb1.mono SW1.out)).trans b5); have SW5 := Bx.mk (Nat.le_trans (Nat.le_trans SW1.out hb1.size) b5.size)
      have HQ5 : Bx (∃ cs : Array Value, W5.heap[hb]? = some (.cells cs 36 (0, 0)) ∧ cs[t]? = some (.pointer (some ⟨q, 0, none⟩))) := ⟨by
        obtain ⟨cs, q1, q2⟩ := HQ.out
        exact ⟨cs, (e5.trans (hb1.block hb (Array.getElem?_eq_some_iff.1 q1).1)).trans q1, q2⟩⟩
      clear k5 b5 e5 hb1 hsn hla ho
      clear own
      clear RT RH BL4 KS2 HQ BW1 SW1
      obtain ⟨-, hBl, hr⟩ := HB.out (by have := TN.out; omega)
      have RH := Bx.mk (rangeB (hr t TN.out).2 hBl BW5.out); have BL5 := Bx.mk (show B < W5.heap.size from Nat.lt_of_lt_of_le hBl SW5.out)
      obtain ⟨cs5, xc5, ct5⟩ := HQ5.out
      have XC := Bx.mk xc5; have CT5 := Bx.mk ct5
      clear hBl hr xc5 ct5
      go_upto_region 12 with (fail)
      refine wp_region_last (n := 167) (m := 10) VKI12mk (fun _ => none) (VKI12 B off N cap rb hb n t q vA) (by kernel_rfl) (by kernel_rfl) rfl rfl (by kernel_rfl) (fun _ _ => rfl) (fun j i hj _ => by cases hj) ?_ ?_ ?_
      · exact fun oi oj v own w own' w' hij _ h r => VKI12_mono B off N cap rb hb n t q vA oi oj v own w own' w' hij h r
      · intro oi o hltm hi f u own hsame hsn hfr hlate hkeep8 hdep
        have hkeep := hkeep8 _ (.inl rfl)
        have hb6 := hsn.below (B := W5.heap.size) (fun _ _ => rfl) (Nat.le_refl _)
        match oi, hi with
        | 0, hi =>
          cases (show some _ = some o from hi)
          have e5 : f.tmps.getD 5 undef = .pointer (some ⟨rb, 0, none⟩) := hsame.slot 5 (fun i o h => invB2_not 5 (by kernel_rfl) h)
          clear hdep hsame hi hlate hfr hkeep
          exact .inl ⟨wanted_none rfl, showsO_move hsn rfl _ rfl e5⟩
        | 1, hi =>
          cases (show some _ = some o from hi)
          have e0 : f.tmps.getD 0 undef = .slice (some ⟨B, off, none⟩) N cap := hsame.slot 0 (fun i o h => invB2_not 0 (by kernel_rfl) h)
          clear hdep hsame hi hlate hfr hkeep
          exact .inl ⟨wanted_none rfl, showsO_move hsn rfl _ rfl e0⟩
        | 2, hi =>
          cases (show some _ = some o from hi)
          have e9 : f.tmps.getD 9 undef = .int .i64 (t : Int) := hsame.slot 9 (fun i o h => invB2_not 9 (by kernel_rfl) h)
          clear hdep hsame hi hlate hfr hkeep
          exact .inl ⟨wanted_none rfl, showsO_move hsn rfl _ rfl e9⟩
        | 3, hi =>
          cases (show some _ = some o from hi)
          have e77 : (f.tmps.getD 77 undef) = .slice (some ⟨B, off, none⟩) N cap := depO (V := (VKI12 B off N cap rb hb n t q vA)) hdep 1 77 (by kernel_rfl) (by kernel_rfl)
          have e78 : (f.tmps.getD 78 undef) = .int .i64 (t : Int) := depO (V := (VKI12 B off N cap rb hb n t q vA)) hdep 2 78 (by kernel_rfl) (by kernel_rfl)
          clear hdep hsame hi hlate hfr hkeep
          have f2 : ¬ (N : Int) ≤ (t : Int) := by have := TN.out; omega
          have f3 : (t : Int) < (N : Int) := by have := TN.out; omega
          exact .inl ⟨wanted_none rfl, showsO_pure hsn rfl (.pointer (some ⟨B, off + t * 35, none⟩)) (by simp only [execOp, Act.eval]; go_simp) rfl⟩
        | 4, hi =>
          cases (show some _ = some o from hi)
          have e79 : (f.tmps.getD 79 undef) = .pointer (some ⟨B, off + t * 35, none⟩) := depO (V := (VKI12 B off N cap rb hb n t q vA)) hdep 3 79 (by kernel_rfl) (by kernel_rfl)
          clear hdep hsame hi hlate hfr hkeep
          exact .inl ⟨wanted_none rfl, showsO_pure hsn rfl (.pointer (some ⟨B, off + t * 35 + 3, none⟩)) (by simp only [execOp, Act.eval]; go_simp) rfl⟩
        | 5, hi =>
          cases (show some _ = some o from hi)
          have e80 : (f.tmps.getD 80 undef) = .pointer (some ⟨B, off + t * 35 + 3, none⟩) := depO (V := (VKI12 B off N cap rb hb n t q vA)) hdep 4 80 (by kernel_rfl) (by kernel_rfl)
          clear hdep hsame hi hlate hfr hkeep
          exact .inl ⟨wanted_none rfl, showsO_mid hsn rfl 32 (.tmp 80) rfl B (off + t * 35 + 3) e80 (bcells (vA t)) (rangeB RH.out BL5.out hb6) underHz rfl (hszl (HK.out t TN.out).2.1) rfl⟩
        | 6, hi =>
          cases (show some _ = some o from hi)
          have e8 : f.tmps.getD 8 undef = .slice (some ⟨hb, 0, none⟩) n n := hsame.slot 8 (fun i o h => invB2_not 8 (by kernel_rfl) h)
          clear hdep hsame hi hlate hfr hkeep
          exact .inl ⟨wanted_none rfl, showsO_move hsn rfl _ rfl e8⟩
        | 7, hi =>
          cases (show some _ = some o from hi)
          have e9 : f.tmps.getD 9 undef = .int .i64 (t : Int) := hsame.slot 9 (fun i o h => invB2_not 9 (by kernel_rfl) h)
          clear hdep hsame hi hlate hfr hkeep
          exact .inl ⟨wanted_none rfl, showsO_move hsn rfl _ rfl e9⟩
        | 8, hi =>
          cases (show some _ = some o from hi)
          have e82 : (f.tmps.getD 82 undef) = .slice (some ⟨hb, 0, none⟩) n n := depO (V := (VKI12 B off N cap rb hb n t q vA)) hdep 6 82 (by kernel_rfl) (by kernel_rfl)
          have e83 : (f.tmps.getD 83 undef) = .int .i64 (t : Int) := depO (V := (VKI12 B off N cap rb hb n t q vA)) hdep 7 83 (by kernel_rfl) (by kernel_rfl)
          clear hdep hsame hi hlate hfr hkeep
          have f2 : ¬ (n : Int) ≤ (t : Int) := by have := TL.out; omega
          have f3 : (t : Int) < (n : Int) := by have := TL.out; omega
          exact .inl ⟨wanted_none rfl, showsO_pure hsn rfl (.pointer (some ⟨hb, t, none⟩)) (by simp only [execOp, Act.eval]; go_simp) rfl⟩
        | 9, hi =>
          cases (show some _ = some o from hi)
          have e84 : (f.tmps.getD 84 undef) = .pointer (some ⟨hb, t, none⟩) := depO (V := (VKI12 B off N cap rb hb n t q vA)) hdep 8 84 (by kernel_rfl) (by kernel_rfl)
          clear hdep hsame hi hlate hfr hkeep
          have c85 := er_cellAt ((hb6.block hb (Array.getElem?_eq_some_iff.1 XC.out).1).trans XC.out) t _ CT5.out
          exact .inl ⟨wanted_none rfl, showsO_pure hsn rfl (.pointer (some ⟨q, 0, none⟩)) (by simp only [execOp, Act.eval]; go_simp) rfl⟩
        | n + 10, hi => exact absurd hltm (by omega)
      intro o ho fr u2 own hsame hsn hla hall
      cases (show some _ = some o from ho)
      have q76 : fr.tmps.getD 76 undef = .pointer (some ⟨rb, 0, none⟩) := finL (V := (VKI12 B off N cap rb hb n t q vA)) hall 0 76 (by decide) rfl
      have q77 : fr.tmps.getD 77 undef = .slice (some ⟨B, off, none⟩) N cap := finL (V := (VKI12 B off N cap rb hb n t q vA)) hall 1 77 (by decide) rfl
      have q78 : fr.tmps.getD 78 undef = .int .i64 (t : Int) := finL (V := (VKI12 B off N cap rb hb n t q vA)) hall 2 78 (by decide) rfl
      have q79 : fr.tmps.getD 79 undef = .pointer (some ⟨B, off + t * 35, none⟩) := finL (V := (VKI12 B off N cap rb hb n t q vA)) hall 3 79 (by decide) rfl
      have q80 : fr.tmps.getD 80 undef = .pointer (some ⟨B, off + t * 35 + 3, none⟩) := finL (V := (VKI12 B off N cap rb hb n t q vA)) hall 4 80 (by decide) rfl
      have q81 : fr.tmps.getD 81 undef = .agg (bcells (vA t)).toArray := finL (V := (VKI12 B off N cap rb hb n t q vA)) hall 5 81 (by decide) rfl
      have q82 : fr.tmps.getD 82 undef = .slice (some ⟨hb, 0, none⟩) n n := finL (V := (VKI12 B off N cap rb hb n t q vA)) hall 6 82 (by decide) rfl
      have q83 : fr.tmps.getD 83 undef = .int .i64 (t : Int) := finL (V := (VKI12 B off N cap rb hb n t q vA)) hall 7 83 (by decide) rfl
      have q84 : fr.tmps.getD 84 undef = .pointer (some ⟨hb, t, none⟩) := finL (V := (VKI12 B off N cap rb hb n t q vA)) hall 8 84 (by decide) rfl
      have q85 : fr.tmps.getD 85 undef = .pointer (some ⟨q, 0, none⟩) := finL (V := (VKI12 B off N cap rb hb n t q vA)) hall 9 85 (by decide) rfl
      obtain ⟨x86, q86⟩ : ∃ x, fr.tmps.getD 86 undef = x := ⟨_, rfl⟩
      obtain rfl := frame_eq hsame [(76, .pointer (some ⟨rb, 0, none⟩)), (77, .slice (some ⟨B, off, none⟩) N cap), (78, .int .i64 (t : Int)), (79, .pointer (some ⟨B, off + t * 35, none⟩)), (80, .pointer (some ⟨B, off + t * 35 + 3, none⟩)), (81, .agg (bcells (vA t)).toArray), (82, .slice (some ⟨hb, 0, none⟩) n n), (83, .int .i64 (t : Int)), (84, .pointer (some ⟨hb, t, none⟩)), (85, .pointer (some ⟨q, 0, none⟩)), (86, x86)] (by kernel_rfl) ⟨q76, q77, q78, q79, q80, q81, q82, q83, q84, q85, q86, trivial⟩
      clear hall hsame q86 q76 q77 q78 q79 q80 q81 q82 q83 q84 q85
      simp only [List.foldl, List.setIfInBounds_toArray, List.set_cons_succ, List.set_cons_zero]
      have hb2 := hsn.below (B := W5.heap.size) (fun _ _ => rfl) (Nat.le_refl _)
      refine ⟨wanted_none rfl, wp_call_enter 10 #[.pointer (some ⟨rb, 0, none⟩), .agg (bcells (vA t)).toArray, .pointer (some ⟨q, 0, none⟩)] (by simp only [execOp, Act.eval]; go_simp) (ksPutH w.heap.size u2 ra rb hb n fA vA p (t + 1) t (KS5.out.below hb2) (Nat.le_trans SW5.out hb2.size) (by have := TL.out; have := N1.out; omega) (HK.out t TN.out).2.2 q ⟨cs5, (hb2.block hb (Array.getElem?_eq_some_iff.1 XC.out).1).trans XC.out, CT5.out⟩) ?_⟩
      rintro z2 W6 ⟨k6, b6⟩
      simp only [Act.put, List.setIfInBounds_toArray, List.set_cons_succ, List.set_cons_zero]
      have KS6 := Bx.mk k6; have BW6 := Bx.mk ((BW5.out.trans (hb2.mono SW5.out)).trans b6); have SW6 := Bx.mk (Nat.le_trans (Nat.le_trans SW5.out hb2.size) b6.size)
      clear k6 b6 hb2 hsn hla ho
      clear own
      clear RH BL5 XC CT5 HQ5 KS5 BW5 SW5
      go_wp2_with fail
      go_roundw
      case rel => exact ⟨t + 1, TL.out, (by rw [wrapz t (by have := TL.out; have := N1.out; omega)]), KS6.out, BW6.out, SW6.out⟩
      case measure => rw [wrapz t (by have := TL.out; have := N1.out; omega)]; have := TL.out; simp [intOf]; omega
    · obtain rfl : t = n := by omega
      have f1 : ¬ (t : Int) < (t : Int) := by omega
      clear hlt ht
      go_wp2_with fail
      clear f1
      go_loopw [10] (fun iv wr2 => ∃ i : Nat, i ≤ t ∧ iv = .int .i64 (i : Int) ∧ KS w.heap.size wr2 ra rb hb t fA vA p t t ∧ Below w.heap.size w wr2 ∧ w.heap.size ≤ wr2.heap.size) (fun iv _ => t - (intOf iv).toNat)
      case atStart => exact ⟨0, Nat.zero_le _, rfl, KS1.out, BW.out, SW.out⟩
      case round =>
        obtain ⟨i, hi, rfl, hks, hbw, hsz⟩ := hrel
        have KS2 := Bx.mk hks; have BW2 := Bx.mk hbw; have SW2 := Bx.mk hsz
        clear hks hbw hsz
        by_cases hlt : i < t
        · have IL := Bx.mk hlt
          have IN := Bx.mk (show i < N by have := NN.out; omega)
          obtain ⟨rfl, hBl, hr⟩ := HB.out (by have := IN.out; omega)
          have HR := Bx.mk hr; have BL0 := Bx.mk hBl
          have f1 : (i : Int) < (t : Int) := by omega
          clear hlt hi hBl hr
          go_wp2_with fail
          clear f1
          go_loopw [11, 12, 13] (fun xv yv kv wr3 => ∃ x y k : Nat, i ≤ k ∧ k ≤ t ∧ xv = .int .i64 (x : Int) ∧ yv = .int .i64 (y : Int) ∧ kv = .int .i64 (k : Int) ∧ IsLast fA i (max k (i + 1)) x ∧ IsLast vA i (max k (i + 1)) y ∧ KS w.heap.size wr3 ra rb hb t fA vA p t t ∧ Below w.heap.size w wr3 ∧ w.heap.size ≤ wr3.heap.size) (fun _ _ kv _ => t - (intOf kv).toNat)
          case atStart => exact ⟨i, i, i, Nat.le_refl _, Nat.le_of_lt IL.out, rfl, rfl, rfl, by rw [Nat.max_eq_right (by omega)]; exact IsLast.one _ _, by rw [Nat.max_eq_right (by omega)]; exact IsLast.one _ _, KS2.out, BW2.out, SW2.out⟩
          case round =>
            obtain ⟨x, y, k, hik, hkt, rfl, rfl, rfl, hlx, hly, hks, hbw, hsz⟩ := hrel
            have KS3 := Bx.mk hks; have BW3 := Bx.mk hbw; have SW3 := Bx.mk hsz; have LX := Bx.mk hlx; have LY := Bx.mk hly; have IK := Bx.mk hik
            clear hks hbw hsz hlx hly hik
            have RTi := Bx.mk (rangeB (HR.out i IN.out).1 BL0.out BW3.out); have RHi := Bx.mk (rangeB (HR.out i IN.out).2 BL0.out BW3.out); have BL3 := Bx.mk (show B < wr.heap.size from Nat.lt_of_lt_of_le BL0.out SW3.out)
            by_cases hlt : k < t
            · have KL := Bx.mk hlt
              have KN := Bx.mk (show k < N by have := NN.out; omega)
              have RTk := Bx.mk (rangeB (HR.out k KN.out).1 BL0.out BW3.out); have RHk := Bx.mk (rangeB (HR.out k KN.out).2 BL0.out BW3.out)
              obtain ⟨bq, hbq⟩ : ∃ bq, bq = tlEq (fA k) (fA i) := ⟨_, rfl⟩
              obtain ⟨cq, hcq⟩ : ∃ cq, cq = (vA k == vA i) := ⟨_, rfl⟩
              have EQ := Bx.mk (fun u => tile_eqz u (fA k) (fA i))
              have EQH := Bx.mk (fun u => hash_eqz u (vA k) (vA i) (HK.out k KN.out).2.1 (HK.out i IN.out).2.1)
              rw [← hbq] at EQ
              rw [← hcq] at EQH
              have HBQ := Bx.mk hbq; have HCQ := Bx.mk hcq
              have f1 : (k : Int) < (t : Int) := by omega
              clear hbq hcq hlt hkt
              go_upto_region 21 with (fail)
              clear f1
              refine wp_region_own8 (n := 167) VKI21mk (fun _ => none) (VKI21 B off N cap i k fA bq) (by kernel_rfl) (by kernel_rfl) rfl (fun _ _ => rfl) (fun j i hj _ => by cases hj) ?_ ?_ ?_
              · exact fun oi oj v own w own' w' hij _ h r => VKI21_mono B off N cap i k fA bq oi oj v own w own' w' hij h r
              · intro oi o hi f u own hsame hsn hfr hlate hkeep8 hdep
                have hkeep := hkeep8 _ (.inl rfl)
                have hb6 := hsn.below (B := wr.heap.size) (fun _ _ => rfl) (Nat.le_refl _)
                match oi, hi with
                | 0, hi =>
                  cases (show some _ = some o from hi)
                  have e0 : f.tmps.getD 0 undef = .slice (some ⟨B, off, none⟩) N cap := hsame.slot 0 (fun i o h => invB2_not 0 (by kernel_rfl) h)
                  clear hdep hsame hi hlate hfr hkeep
                  exact .inl ⟨wanted_none rfl, showsO_move hsn rfl _ rfl e0⟩
                | 1, hi =>
                  cases (show some _ = some o from hi)
                  have e13 : f.tmps.getD 13 undef = .int .i64 (k : Int) := hsame.slot 13 (fun i o h => invB2_not 13 (by kernel_rfl) h)
                  clear hdep hsame hi hlate hfr hkeep
                  exact .inl ⟨wanted_none rfl, showsO_move hsn rfl _ rfl e13⟩
                | 2, hi =>
                  cases (show some _ = some o from hi)
                  have e100 : (f.tmps.getD 100 undef) = .slice (some ⟨B, off, none⟩) N cap := depO (V := (VKI21 B off N cap i k fA bq)) hdep 0 100 (by kernel_rfl) (by kernel_rfl)
                  have e101 : (f.tmps.getD 101 undef) = .int .i64 (k : Int) := depO (V := (VKI21 B off N cap i k fA bq)) hdep 1 101 (by kernel_rfl) (by kernel_rfl)
                  clear hdep hsame hi hlate hfr hkeep
                  have f2 : ¬ (N : Int) ≤ (k : Int) := by have := KN.out; omega
                  have f3 : (k : Int) < (N : Int) := by have := KN.out; omega
                  exact .inl ⟨wanted_none rfl, showsO_pure hsn rfl (.pointer (some ⟨B, off + k * 35, none⟩)) (by simp only [execOp, Act.eval]; go_simp) rfl⟩
                | 3, hi =>
                  cases (show some _ = some o from hi)
                  have e102 : (f.tmps.getD 102 undef) = .pointer (some ⟨B, off + k * 35, none⟩) := depO (V := (VKI21 B off N cap i k fA bq)) hdep 2 102 (by kernel_rfl) (by kernel_rfl)
                  clear hdep hsame hi hlate hfr hkeep
                  exact .inl ⟨wanted_none rfl, showsO_pure hsn rfl (.pointer (some ⟨B, off + k * 35, none⟩)) (by simp only [execOp, Act.eval]; go_simp) rfl⟩
                | 4, hi =>
                  cases (show some _ = some o from hi)
                  have e103 : (f.tmps.getD 103 undef) = .pointer (some ⟨B, off + k * 35, none⟩) := depO (V := (VKI21 B off N cap i k fA bq)) hdep 3 103 (by kernel_rfl) (by kernel_rfl)
                  clear hdep hsame hi hlate hfr hkeep
                  exact .inl ⟨wanted_none rfl, showsO_mid hsn rfl 30 (.tmp 103) rfl B (off + k * 35) e103 (kcT (fA k)) (rangeB RTk.out BL3.out hb6) Tryd.underlying30 rfl (szTl _) rfl⟩
                | 5, hi =>
                  cases (show some _ = some o from hi)
                  have e0 : f.tmps.getD 0 undef = .slice (some ⟨B, off, none⟩) N cap := hsame.slot 0 (fun i o h => invB2_not 0 (by kernel_rfl) h)
                  clear hdep hsame hi hlate hfr hkeep
                  exact .inl ⟨wanted_none rfl, showsO_move hsn rfl _ rfl e0⟩
                | 6, hi =>
                  cases (show some _ = some o from hi)
                  have e10 : f.tmps.getD 10 undef = .int .i64 (i : Int) := hsame.slot 10 (fun i o h => invB2_not 10 (by kernel_rfl) h)
                  clear hdep hsame hi hlate hfr hkeep
                  exact .inl ⟨wanted_none rfl, showsO_move hsn rfl _ rfl e10⟩
                | 7, hi =>
                  cases (show some _ = some o from hi)
                  have e105 : (f.tmps.getD 105 undef) = .slice (some ⟨B, off, none⟩) N cap := depO (V := (VKI21 B off N cap i k fA bq)) hdep 5 105 (by kernel_rfl) (by kernel_rfl)
                  have e106 : (f.tmps.getD 106 undef) = .int .i64 (i : Int) := depO (V := (VKI21 B off N cap i k fA bq)) hdep 6 106 (by kernel_rfl) (by kernel_rfl)
                  clear hdep hsame hi hlate hfr hkeep
                  have f2 : ¬ (N : Int) ≤ (i : Int) := by have := IN.out; omega
                  have f3 : (i : Int) < (N : Int) := by have := IN.out; omega
                  exact .inl ⟨wanted_none rfl, showsO_pure hsn rfl (.pointer (some ⟨B, off + i * 35, none⟩)) (by simp only [execOp, Act.eval]; go_simp) rfl⟩
                | 8, hi =>
                  cases (show some _ = some o from hi)
                  have e107 : (f.tmps.getD 107 undef) = .pointer (some ⟨B, off + i * 35, none⟩) := depO (V := (VKI21 B off N cap i k fA bq)) hdep 7 107 (by kernel_rfl) (by kernel_rfl)
                  clear hdep hsame hi hlate hfr hkeep
                  exact .inl ⟨wanted_none rfl, showsO_pure hsn rfl (.pointer (some ⟨B, off + i * 35, none⟩)) (by simp only [execOp, Act.eval]; go_simp) rfl⟩
                | 9, hi =>
                  cases (show some _ = some o from hi)
                  have e108 : (f.tmps.getD 108 undef) = .pointer (some ⟨B, off + i * 35, none⟩) := depO (V := (VKI21 B off N cap i k fA bq)) hdep 8 108 (by kernel_rfl) (by kernel_rfl)
                  clear hdep hsame hi hlate hfr hkeep
                  exact .inl ⟨wanted_none rfl, showsO_mid hsn rfl 30 (.tmp 108) rfl B (off + i * 35) e108 (kcT (fA i)) (rangeB RTi.out BL3.out hb6) Tryd.underlying30 rfl (szTl _) rfl⟩
                | 10, hi =>
                  cases (show some _ = some o from hi)
                  have e104 : (f.tmps.getD 104 undef) = .agg (kcT (fA k)).toArray := depO (V := (VKI21 B off N cap i k fA bq)) hdep 4 104 (by kernel_rfl) (by kernel_rfl)
                  have e109 : (f.tmps.getD 109 undef) = .agg (kcT (fA i)).toArray := depO (V := (VKI21 B off N cap i k fA bq)) hdep 9 109 (by kernel_rfl) (by kernel_rfl)
                  clear hdep hsame hi hlate hfr hkeep
                  exact .inl ⟨wanted_none rfl, showsO_pure hsn rfl (.bool bq) (run_eql_op 30 30 (.tmp 104) (.tmp 109) rfl e104 e109 (by first | rfl | (unfold eqGuard; rfl) | (simp [eqGuard]; done) | (unfold eqGuard; go_simp)) (EQ.out u)) rfl⟩
                | n + 11, hi => exact absurd hi (by simp)
              intro fr u1 own hsame hsn hall
              have q100 : fr.tmps.getD 100 undef = .slice (some ⟨B, off, none⟩) N cap := finO (V := (VKI21 B off N cap i k fA bq)) hall 0 100 rfl
              have q101 : fr.tmps.getD 101 undef = .int .i64 (k : Int) := finO (V := (VKI21 B off N cap i k fA bq)) hall 1 101 rfl
              have q102 : fr.tmps.getD 102 undef = .pointer (some ⟨B, off + k * 35, none⟩) := finO (V := (VKI21 B off N cap i k fA bq)) hall 2 102 rfl
              have q103 : fr.tmps.getD 103 undef = .pointer (some ⟨B, off + k * 35, none⟩) := finO (V := (VKI21 B off N cap i k fA bq)) hall 3 103 rfl
              have q104 : fr.tmps.getD 104 undef = .agg (kcT (fA k)).toArray := finO (V := (VKI21 B off N cap i k fA bq)) hall 4 104 rfl
              have q105 : fr.tmps.getD 105 undef = .slice (some ⟨B, off, none⟩) N cap := finO (V := (VKI21 B off N cap i k fA bq)) hall 5 105 rfl
              have q106 : fr.tmps.getD 106 undef = .int .i64 (i : Int) := finO (V := (VKI21 B off N cap i k fA bq)) hall 6 106 rfl
              have q107 : fr.tmps.getD 107 undef = .pointer (some ⟨B, off + i * 35, none⟩) := finO (V := (VKI21 B off N cap i k fA bq)) hall 7 107 rfl
              have q108 : fr.tmps.getD 108 undef = .pointer (some ⟨B, off + i * 35, none⟩) := finO (V := (VKI21 B off N cap i k fA bq)) hall 8 108 rfl
              have q109 : fr.tmps.getD 109 undef = .agg (kcT (fA i)).toArray := finO (V := (VKI21 B off N cap i k fA bq)) hall 9 109 rfl
              have q110 : fr.tmps.getD 110 undef = .bool bq := finO (V := (VKI21 B off N cap i k fA bq)) hall 10 110 rfl
              obtain rfl := frame_eq hsame [(100, .slice (some ⟨B, off, none⟩) N cap), (101, .int .i64 (k : Int)), (102, .pointer (some ⟨B, off + k * 35, none⟩)), (103, .pointer (some ⟨B, off + k * 35, none⟩)), (104, .agg (kcT (fA k)).toArray), (105, .slice (some ⟨B, off, none⟩) N cap), (106, .int .i64 (i : Int)), (107, .pointer (some ⟨B, off + i * 35, none⟩)), (108, .pointer (some ⟨B, off + i * 35, none⟩)), (109, .agg (kcT (fA i)).toArray), (110, .bool bq)] (by kernel_rfl) ⟨q100, q101, q102, q103, q104, q105, q106, q107, q108, q109, q110, trivial⟩
              clear hall hsame q100 q101 q102 q103 q104 q105 q106 q107 q108 q109 q110
              simp only [List.foldl, List.setIfInBounds_toArray, List.set_cons_succ, List.set_cons_zero]
              have hb := hsn.below (B := wr.heap.size) (fun _ _ => rfl) (Nat.le_refl _)
              have KS4 := Bx.mk (KS3.out.below hb); have BW4 := Bx.mk (BW3.out.trans (hb.mono SW3.out)); have SW4 := Bx.mk (Nat.le_trans SW3.out hb.size)
              have RH4k := Bx.mk (rangeB RHk.out BL3.out hb); have RH4i := Bx.mk (rangeB RHi.out BL3.out hb); have BL4 := Bx.mk (show B < u1.heap.size from Nat.lt_of_lt_of_le BL3.out hb.size)
              clear hb hsn RTk RTi RHk RHi
              clear own
              clear KS3 BW3 SW3 BL3
              cases bq with
              | true =>
                have LX2 : Bx (IsLast fA i (k + 1) k) := ⟨IsLast.same IK.out (tlEq_true.1 HBQ.out.symm)⟩
                clear HBQ EQ LX
                go_upto_region 23 with (fail)
                refine wp_region_own8 (n := 167) VKI23mk (fun _ => none) (VKI23 B off N cap i k vA cq) (by kernel_rfl) (by kernel_rfl) rfl (fun _ _ => rfl) (fun j i hj _ => by cases hj) ?_ ?_ ?_
                · exact fun oi oj v own w own' w' hij _ h r => VKI23_mono B off N cap i k vA cq oi oj v own w own' w' hij h r
                · intro oi o hi f u own hsame hsn hfr hlate hkeep8 hdep
                  have hkeep := hkeep8 _ (.inl rfl)
                  have hb6 := hsn.below (B := u1.heap.size) (fun _ _ => rfl) (Nat.le_refl _)
                  match oi, hi with
                  | 0, hi =>
                    cases (show some _ = some o from hi)
                    have e0 : f.tmps.getD 0 undef = .slice (some ⟨B, off, none⟩) N cap := hsame.slot 0 (fun i o h => invB2_not 0 (by kernel_rfl) h)
                    clear hdep hsame hi hlate hfr hkeep
                    exact .inl ⟨wanted_none rfl, showsO_move hsn rfl _ rfl e0⟩
                  | 1, hi =>
                    cases (show some _ = some o from hi)
                    have e13 : f.tmps.getD 13 undef = .int .i64 (k : Int) := hsame.slot 13 (fun i o h => invB2_not 13 (by kernel_rfl) h)
                    clear hdep hsame hi hlate hfr hkeep
                    exact .inl ⟨wanted_none rfl, showsO_move hsn rfl _ rfl e13⟩
                  | 2, hi =>
                    cases (show some _ = some o from hi)
                    have e112 : (f.tmps.getD 112 undef) = .slice (some ⟨B, off, none⟩) N cap := depO (V := (VKI23 B off N cap i k vA cq)) hdep 0 112 (by kernel_rfl) (by kernel_rfl)
                    have e113 : (f.tmps.getD 113 undef) = .int .i64 (k : Int) := depO (V := (VKI23 B off N cap i k vA cq)) hdep 1 113 (by kernel_rfl) (by kernel_rfl)
                    clear hdep hsame hi hlate hfr hkeep
                    have f2 : ¬ (N : Int) ≤ (k : Int) := by have := KN.out; omega
                    have f3 : (k : Int) < (N : Int) := by have := KN.out; omega
                    exact .inl ⟨wanted_none rfl, showsO_pure hsn rfl (.pointer (some ⟨B, off + k * 35, none⟩)) (by simp only [execOp, Act.eval]; go_simp) rfl⟩
                  | 3, hi =>
                    cases (show some _ = some o from hi)
                    have e114 : (f.tmps.getD 114 undef) = .pointer (some ⟨B, off + k * 35, none⟩) := depO (V := (VKI23 B off N cap i k vA cq)) hdep 2 114 (by kernel_rfl) (by kernel_rfl)
                    clear hdep hsame hi hlate hfr hkeep
                    exact .inl ⟨wanted_none rfl, showsO_pure hsn rfl (.pointer (some ⟨B, off + k * 35 + 3, none⟩)) (by simp only [execOp, Act.eval]; go_simp) rfl⟩
                  | 4, hi =>
                    cases (show some _ = some o from hi)
                    have e115 : (f.tmps.getD 115 undef) = .pointer (some ⟨B, off + k * 35 + 3, none⟩) := depO (V := (VKI23 B off N cap i k vA cq)) hdep 3 115 (by kernel_rfl) (by kernel_rfl)
                    clear hdep hsame hi hlate hfr hkeep
                    exact .inl ⟨wanted_none rfl, showsO_mid hsn rfl 32 (.tmp 115) rfl B (off + k * 35 + 3) e115 (bcells (vA k)) (rangeB RH4k.out BL4.out hb6) underHz rfl (hszl (HK.out k KN.out).2.1) rfl⟩
                  | 5, hi =>
                    cases (show some _ = some o from hi)
                    have e0 : f.tmps.getD 0 undef = .slice (some ⟨B, off, none⟩) N cap := hsame.slot 0 (fun i o h => invB2_not 0 (by kernel_rfl) h)
                    clear hdep hsame hi hlate hfr hkeep
                    exact .inl ⟨wanted_none rfl, showsO_move hsn rfl _ rfl e0⟩
                  | 6, hi =>
                    cases (show some _ = some o from hi)
                    have e10 : f.tmps.getD 10 undef = .int .i64 (i : Int) := hsame.slot 10 (fun i o h => invB2_not 10 (by kernel_rfl) h)
                    clear hdep hsame hi hlate hfr hkeep
                    exact .inl ⟨wanted_none rfl, showsO_move hsn rfl _ rfl e10⟩
                  | 7, hi =>
                    cases (show some _ = some o from hi)
                    have e117 : (f.tmps.getD 117 undef) = .slice (some ⟨B, off, none⟩) N cap := depO (V := (VKI23 B off N cap i k vA cq)) hdep 5 117 (by kernel_rfl) (by kernel_rfl)
                    have e118 : (f.tmps.getD 118 undef) = .int .i64 (i : Int) := depO (V := (VKI23 B off N cap i k vA cq)) hdep 6 118 (by kernel_rfl) (by kernel_rfl)
                    clear hdep hsame hi hlate hfr hkeep
                    have f2 : ¬ (N : Int) ≤ (i : Int) := by have := IN.out; omega
                    have f3 : (i : Int) < (N : Int) := by have := IN.out; omega
                    exact .inl ⟨wanted_none rfl, showsO_pure hsn rfl (.pointer (some ⟨B, off + i * 35, none⟩)) (by simp only [execOp, Act.eval]; go_simp) rfl⟩
                  | 8, hi =>
                    cases (show some _ = some o from hi)
                    have e119 : (f.tmps.getD 119 undef) = .pointer (some ⟨B, off + i * 35, none⟩) := depO (V := (VKI23 B off N cap i k vA cq)) hdep 7 119 (by kernel_rfl) (by kernel_rfl)
                    clear hdep hsame hi hlate hfr hkeep
                    exact .inl ⟨wanted_none rfl, showsO_pure hsn rfl (.pointer (some ⟨B, off + i * 35 + 3, none⟩)) (by simp only [execOp, Act.eval]; go_simp) rfl⟩
                  | 9, hi =>
                    cases (show some _ = some o from hi)
                    have e120 : (f.tmps.getD 120 undef) = .pointer (some ⟨B, off + i * 35 + 3, none⟩) := depO (V := (VKI23 B off N cap i k vA cq)) hdep 8 120 (by kernel_rfl) (by kernel_rfl)
                    clear hdep hsame hi hlate hfr hkeep
                    exact .inl ⟨wanted_none rfl, showsO_mid hsn rfl 32 (.tmp 120) rfl B (off + i * 35 + 3) e120 (bcells (vA i)) (rangeB RH4i.out BL4.out hb6) underHz rfl (hszl (HK.out i IN.out).2.1) rfl⟩
                  | 10, hi =>
                    cases (show some _ = some o from hi)
                    have e116 : (f.tmps.getD 116 undef) = .agg (bcells (vA k)).toArray := depO (V := (VKI23 B off N cap i k vA cq)) hdep 4 116 (by kernel_rfl) (by kernel_rfl)
                    have e121 : (f.tmps.getD 121 undef) = .agg (bcells (vA i)).toArray := depO (V := (VKI23 B off N cap i k vA cq)) hdep 9 121 (by kernel_rfl) (by kernel_rfl)
                    clear hdep hsame hi hlate hfr hkeep
                    exact .inl ⟨wanted_none rfl, showsO_pure hsn rfl (.bool cq) (run_eql_op 32 32 (.tmp 116) (.tmp 121) rfl e116 e121 (by first | rfl | (unfold eqGuard; rfl) | (simp [eqGuard]; done) | (unfold eqGuard; go_simp)) (EQH.out u)) rfl⟩
                  | n + 11, hi => exact absurd hi (by simp)
                intro fr u2 own hsame hsn hall
                have q112 : fr.tmps.getD 112 undef = .slice (some ⟨B, off, none⟩) N cap := finO (V := (VKI23 B off N cap i k vA cq)) hall 0 112 rfl
                have q113 : fr.tmps.getD 113 undef = .int .i64 (k : Int) := finO (V := (VKI23 B off N cap i k vA cq)) hall 1 113 rfl
                have q114 : fr.tmps.getD 114 undef = .pointer (some ⟨B, off + k * 35, none⟩) := finO (V := (VKI23 B off N cap i k vA cq)) hall 2 114 rfl
                have q115 : fr.tmps.getD 115 undef = .pointer (some ⟨B, off + k * 35 + 3, none⟩) := finO (V := (VKI23 B off N cap i k vA cq)) hall 3 115 rfl
                have q116 : fr.tmps.getD 116 undef = .agg (bcells (vA k)).toArray := finO (V := (VKI23 B off N cap i k vA cq)) hall 4 116 rfl
                have q117 : fr.tmps.getD 117 undef = .slice (some ⟨B, off, none⟩) N cap := finO (V := (VKI23 B off N cap i k vA cq)) hall 5 117 rfl
                have q118 : fr.tmps.getD 118 undef = .int .i64 (i : Int) := finO (V := (VKI23 B off N cap i k vA cq)) hall 6 118 rfl
                have q119 : fr.tmps.getD 119 undef = .pointer (some ⟨B, off + i * 35, none⟩) := finO (V := (VKI23 B off N cap i k vA cq)) hall 7 119 rfl
                have q120 : fr.tmps.getD 120 undef = .pointer (some ⟨B, off + i * 35 + 3, none⟩) := finO (V := (VKI23 B off N cap i k vA cq)) hall 8 120 rfl
                have q121 : fr.tmps.getD 121 undef = .agg (bcells (vA i)).toArray := finO (V := (VKI23 B off N cap i k vA cq)) hall 9 121 rfl
                have q122 : fr.tmps.getD 122 undef = .bool cq := finO (V := (VKI23 B off N cap i k vA cq)) hall 10 122 rfl
                obtain rfl := frame_eq hsame [(112, .slice (some ⟨B, off, none⟩) N cap), (113, .int .i64 (k : Int)), (114, .pointer (some ⟨B, off + k * 35, none⟩)), (115, .pointer (some ⟨B, off + k * 35 + 3, none⟩)), (116, .agg (bcells (vA k)).toArray), (117, .slice (some ⟨B, off, none⟩) N cap), (118, .int .i64 (i : Int)), (119, .pointer (some ⟨B, off + i * 35, none⟩)), (120, .pointer (some ⟨B, off + i * 35 + 3, none⟩)), (121, .agg (bcells (vA i)).toArray), (122, .bool cq)] (by kernel_rfl) ⟨q112, q113, q114, q115, q116, q117, q118, q119, q120, q121, q122, trivial⟩
                clear hall hsame q112 q113 q114 q115 q116 q117 q118 q119 q120 q121 q122
                simp only [List.foldl, List.setIfInBounds_toArray, List.set_cons_succ, List.set_cons_zero]
                have hb := hsn.below (B := u1.heap.size) (fun _ _ => rfl) (Nat.le_refl _)
                have KS5 := Bx.mk (KS4.out.below hb); have BW5 := Bx.mk (BW4.out.trans (hb.mono SW4.out)); have SW5 := Bx.mk (Nat.le_trans SW4.out hb.size)
                clear hb hsn RH4k RH4i
                clear own
                clear KS4 BW4 SW4 BL4
                cases cq with
                | true =>
                  have LY2 : Bx (IsLast vA i (k + 1) k) := ⟨IsLast.same IK.out (eq_of_beq HCQ.out.symm)⟩
                  clear HCQ EQH LY
                  go_wp2_with fail
                  go_roundw
                  case rel => exact ⟨_, _, k + 1, by have := IK.out; omega, KL.out, rfl, rfl, by rw [wrapz k (by have := KL.out; have := N1.out; omega)], by rw [Nat.max_eq_left (by have := IK.out; omega)]; exact LX2.out, by rw [Nat.max_eq_left (by have := IK.out; omega)]; exact LY2.out, KS5.out, BW5.out, SW5.out⟩
                  case measure => rw [wrapz k (by have := KL.out; have := N1.out; omega)]; have := KL.out; simp [intOf]; omega
                | false =>
                  have LY2 : Bx (IsLast vA i (k + 1) y) := ⟨by
                    have hne : vA k ≠ vA i := fun e => by have h1 := HCQ.out; rw [e] at h1; simp at h1
                    have h2 : i < k := by
                      rcases Nat.lt_or_ge i k with h | h
                      · exact h
                      · have := IK.out; exact absurd (by rw [show k = i by omega]) hne
                    have h3 := LY.out
                    rw [Nat.max_eq_left (by omega)] at h3
                    exact h3.skip hne⟩
                  clear HCQ EQH LY
                  go_wp2_with fail
                  go_roundw
                  case rel => exact ⟨_, _, k + 1, by have := IK.out; omega, KL.out, rfl, rfl, by rw [wrapz k (by have := KL.out; have := N1.out; omega)], by rw [Nat.max_eq_left (by have := IK.out; omega)]; exact LX2.out, by rw [Nat.max_eq_left (by have := IK.out; omega)]; exact LY2.out, KS5.out, BW5.out, SW5.out⟩
                  case measure => rw [wrapz k (by have := KL.out; have := N1.out; omega)]; have := KL.out; simp [intOf]; omega
              | false =>
                have LX2 : Bx (IsLast fA i (k + 1) x) := ⟨by
                  have hne : fA k ≠ fA i := fun e => by have h1 := HBQ.out; rw [tlEq_true.2 e] at h1; cases h1
                  have h2 : i < k := by
                    rcases Nat.lt_or_ge i k with h | h
                    · exact h
                    · have := IK.out; exact absurd (by rw [show k = i by omega]) hne
                  have h3 := LX.out
                  rw [Nat.max_eq_left (by omega)] at h3
                  exact h3.skip hne⟩
                clear HBQ EQ LX
                go_upto_region 23 with (fail)
                refine wp_region_own8 (n := 167) VKI23mk (fun _ => none) (VKI23 B off N cap i k vA cq) (by kernel_rfl) (by kernel_rfl) rfl (fun _ _ => rfl) (fun j i hj _ => by cases hj) ?_ ?_ ?_
                · exact fun oi oj v own w own' w' hij _ h r => VKI23_mono B off N cap i k vA cq oi oj v own w own' w' hij h r
                · intro oi o hi f u own hsame hsn hfr hlate hkeep8 hdep
                  have hkeep := hkeep8 _ (.inl rfl)
                  have hb6 := hsn.below (B := u1.heap.size) (fun _ _ => rfl) (Nat.le_refl _)
                  match oi, hi with
                  | 0, hi =>
                    cases (show some _ = some o from hi)
                    have e0 : f.tmps.getD 0 undef = .slice (some ⟨B, off, none⟩) N cap := hsame.slot 0 (fun i o h => invB2_not 0 (by kernel_rfl) h)
                    clear hdep hsame hi hlate hfr hkeep
                    exact .inl ⟨wanted_none rfl, showsO_move hsn rfl _ rfl e0⟩
                  | 1, hi =>
                    cases (show some _ = some o from hi)
                    have e13 : f.tmps.getD 13 undef = .int .i64 (k : Int) := hsame.slot 13 (fun i o h => invB2_not 13 (by kernel_rfl) h)
                    clear hdep hsame hi hlate hfr hkeep
                    exact .inl ⟨wanted_none rfl, showsO_move hsn rfl _ rfl e13⟩
                  | 2, hi =>
                    cases (show some _ = some o from hi)
                    have e112 : (f.tmps.getD 112 undef) = .slice (some ⟨B, off, none⟩) N cap := depO (V := (VKI23 B off N cap i k vA cq)) hdep 0 112 (by kernel_rfl) (by kernel_rfl)
                    have e113 : (f.tmps.getD 113 undef) = .int .i64 (k : Int) := depO (V := (VKI23 B off N cap i k vA cq)) hdep 1 113 (by kernel_rfl) (by kernel_rfl)
                    clear hdep hsame hi hlate hfr hkeep
                    have f2 : ¬ (N : Int) ≤ (k : Int) := by have := KN.out; omega
                    have f3 : (k : Int) < (N : Int) := by have := KN.out; omega
                    exact .inl ⟨wanted_none rfl, showsO_pure hsn rfl (.pointer (some ⟨B, off + k * 35, none⟩)) (by simp only [execOp, Act.eval]; go_simp) rfl⟩
                  | 3, hi =>
                    cases (show some _ = some o from hi)
                    have e114 : (f.tmps.getD 114 undef) = .pointer (some ⟨B, off + k * 35, none⟩) := depO (V := (VKI23 B off N cap i k vA cq)) hdep 2 114 (by kernel_rfl) (by kernel_rfl)
                    clear hdep hsame hi hlate hfr hkeep
                    exact .inl ⟨wanted_none rfl, showsO_pure hsn rfl (.pointer (some ⟨B, off + k * 35 + 3, none⟩)) (by simp only [execOp, Act.eval]; go_simp) rfl⟩
                  | 4, hi =>
                    cases (show some _ = some o from hi)
                    have e115 : (f.tmps.getD 115 undef) = .pointer (some ⟨B, off + k * 35 + 3, none⟩) := depO (V := (VKI23 B off N cap i k vA cq)) hdep 3 115 (by kernel_rfl) (by kernel_rfl)
                    clear hdep hsame hi hlate hfr hkeep
                    exact .inl ⟨wanted_none rfl, showsO_mid hsn rfl 32 (.tmp 115) rfl B (off + k * 35 + 3) e115 (bcells (vA k)) (rangeB RH4k.out BL4.out hb6) underHz rfl (hszl (HK.out k KN.out).2.1) rfl⟩
                  | 5, hi =>
                    cases (show some _ = some o from hi)
                    have e0 : f.tmps.getD 0 undef = .slice (some ⟨B, off, none⟩) N cap := hsame.slot 0 (fun i o h => invB2_not 0 (by kernel_rfl) h)
                    clear hdep hsame hi hlate hfr hkeep
                    exact .inl ⟨wanted_none rfl, showsO_move hsn rfl _ rfl e0⟩
                  | 6, hi =>
                    cases (show some _ = some o from hi)
                    have e10 : f.tmps.getD 10 undef = .int .i64 (i : Int) := hsame.slot 10 (fun i o h => invB2_not 10 (by kernel_rfl) h)
                    clear hdep hsame hi hlate hfr hkeep
                    exact .inl ⟨wanted_none rfl, showsO_move hsn rfl _ rfl e10⟩
                  | 7, hi =>
                    cases (show some _ = some o from hi)
                    have e117 : (f.tmps.getD 117 undef) = .slice (some ⟨B, off, none⟩) N cap := depO (V := (VKI23 B off N cap i k vA cq)) hdep 5 117 (by kernel_rfl) (by kernel_rfl)
                    have e118 : (f.tmps.getD 118 undef) = .int .i64 (i : Int) := depO (V := (VKI23 B off N cap i k vA cq)) hdep 6 118 (by kernel_rfl) (by kernel_rfl)
                    clear hdep hsame hi hlate hfr hkeep
                    have f2 : ¬ (N : Int) ≤ (i : Int) := by have := IN.out; omega
                    have f3 : (i : Int) < (N : Int) := by have := IN.out; omega
                    exact .inl ⟨wanted_none rfl, showsO_pure hsn rfl (.pointer (some ⟨B, off + i * 35, none⟩)) (by simp only [execOp, Act.eval]; go_simp) rfl⟩
                  | 8, hi =>
                    cases (show some _ = some o from hi)
                    have e119 : (f.tmps.getD 119 undef) = .pointer (some ⟨B, off + i * 35, none⟩) := depO (V := (VKI23 B off N cap i k vA cq)) hdep 7 119 (by kernel_rfl) (by kernel_rfl)
                    clear hdep hsame hi hlate hfr hkeep
                    exact .inl ⟨wanted_none rfl, showsO_pure hsn rfl (.pointer (some ⟨B, off + i * 35 + 3, none⟩)) (by simp only [execOp, Act.eval]; go_simp) rfl⟩
                  | 9, hi =>
                    cases (show some _ = some o from hi)
                    have e120 : (f.tmps.getD 120 undef) = .pointer (some ⟨B, off + i * 35 + 3, none⟩) := depO (V := (VKI23 B off N cap i k vA cq)) hdep 8 120 (by kernel_rfl) (by kernel_rfl)
                    clear hdep hsame hi hlate hfr hkeep
                    exact .inl ⟨wanted_none rfl, showsO_mid hsn rfl 32 (.tmp 120) rfl B (off + i * 35 + 3) e120 (bcells (vA i)) (rangeB RH4i.out BL4.out hb6) underHz rfl (hszl (HK.out i IN.out).2.1) rfl⟩
                  | 10, hi =>
                    cases (show some _ = some o from hi)
                    have e116 : (f.tmps.getD 116 undef) = .agg (bcells (vA k)).toArray := depO (V := (VKI23 B off N cap i k vA cq)) hdep 4 116 (by kernel_rfl) (by kernel_rfl)
                    have e121 : (f.tmps.getD 121 undef) = .agg (bcells (vA i)).toArray := depO (V := (VKI23 B off N cap i k vA cq)) hdep 9 121 (by kernel_rfl) (by kernel_rfl)
                    clear hdep hsame hi hlate hfr hkeep
                    exact .inl ⟨wanted_none rfl, showsO_pure hsn rfl (.bool cq) (run_eql_op 32 32 (.tmp 116) (.tmp 121) rfl e116 e121 (by first | rfl | (unfold eqGuard; rfl) | (simp [eqGuard]; done) | (unfold eqGuard; go_simp)) (EQH.out u)) rfl⟩
                  | n + 11, hi => exact absurd hi (by simp)
                intro fr u2 own hsame hsn hall
                have q112 : fr.tmps.getD 112 undef = .slice (some ⟨B, off, none⟩) N cap := finO (V := (VKI23 B off N cap i k vA cq)) hall 0 112 rfl
                have q113 : fr.tmps.getD 113 undef = .int .i64 (k : Int) := finO (V := (VKI23 B off N cap i k vA cq)) hall 1 113 rfl
                have q114 : fr.tmps.getD 114 undef = .pointer (some ⟨B, off + k * 35, none⟩) := finO (V := (VKI23 B off N cap i k vA cq)) hall 2 114 rfl
                have q115 : fr.tmps.getD 115 undef = .pointer (some ⟨B, off + k * 35 + 3, none⟩) := finO (V := (VKI23 B off N cap i k vA cq)) hall 3 115 rfl
                have q116 : fr.tmps.getD 116 undef = .agg (bcells (vA k)).toArray := finO (V := (VKI23 B off N cap i k vA cq)) hall 4 116 rfl
                have q117 : fr.tmps.getD 117 undef = .slice (some ⟨B, off, none⟩) N cap := finO (V := (VKI23 B off N cap i k vA cq)) hall 5 117 rfl
                have q118 : fr.tmps.getD 118 undef = .int .i64 (i : Int) := finO (V := (VKI23 B off N cap i k vA cq)) hall 6 118 rfl
                have q119 : fr.tmps.getD 119 undef = .pointer (some ⟨B, off + i * 35, none⟩) := finO (V := (VKI23 B off N cap i k vA cq)) hall 7 119 rfl
                have q120 : fr.tmps.getD 120 undef = .pointer (some ⟨B, off + i * 35 + 3, none⟩) := finO (V := (VKI23 B off N cap i k vA cq)) hall 8 120 rfl
                have q121 : fr.tmps.getD 121 undef = .agg (bcells (vA i)).toArray := finO (V := (VKI23 B off N cap i k vA cq)) hall 9 121 rfl
                have q122 : fr.tmps.getD 122 undef = .bool cq := finO (V := (VKI23 B off N cap i k vA cq)) hall 10 122 rfl
                obtain rfl := frame_eq hsame [(112, .slice (some ⟨B, off, none⟩) N cap), (113, .int .i64 (k : Int)), (114, .pointer (some ⟨B, off + k * 35, none⟩)), (115, .pointer (some ⟨B, off + k * 35 + 3, none⟩)), (116, .agg (bcells (vA k)).toArray), (117, .slice (some ⟨B, off, none⟩) N cap), (118, .int .i64 (i : Int)), (119, .pointer (some ⟨B, off + i * 35, none⟩)), (120, .pointer (some ⟨B, off + i * 35 + 3, none⟩)), (121, .agg (bcells (vA i)).toArray), (122, .bool cq)] (by kernel_rfl) ⟨q112, q113, q114, q115, q116, q117, q118, q119, q120, q121, q122, trivial⟩
                clear hall hsame q112 q113 q114 q115 q116 q117 q118 q119 q120 q121 q122
                simp only [List.foldl, List.setIfInBounds_toArray, List.set_cons_succ, List.set_cons_zero]
                have hb := hsn.below (B := u1.heap.size) (fun _ _ => rfl) (Nat.le_refl _)
                have KS5 := Bx.mk (KS4.out.below hb); have BW5 := Bx.mk (BW4.out.trans (hb.mono SW4.out)); have SW5 := Bx.mk (Nat.le_trans SW4.out hb.size)
                clear hb hsn RH4k RH4i
                clear own
                clear KS4 BW4 SW4 BL4
                cases cq with
                | true =>
                  have LY2 : Bx (IsLast vA i (k + 1) k) := ⟨IsLast.same IK.out (eq_of_beq HCQ.out.symm)⟩
                  clear HCQ EQH LY
                  go_wp2_with fail
                  go_roundw
                  case rel => exact ⟨_, _, k + 1, by have := IK.out; omega, KL.out, rfl, rfl, by rw [wrapz k (by have := KL.out; have := N1.out; omega)], by rw [Nat.max_eq_left (by have := IK.out; omega)]; exact LX2.out, by rw [Nat.max_eq_left (by have := IK.out; omega)]; exact LY2.out, KS5.out, BW5.out, SW5.out⟩
                  case measure => rw [wrapz k (by have := KL.out; have := N1.out; omega)]; have := KL.out; simp [intOf]; omega
                | false =>
                  have LY2 : Bx (IsLast vA i (k + 1) y) := ⟨by
                    have hne : vA k ≠ vA i := fun e => by have h1 := HCQ.out; rw [e] at h1; simp at h1
                    have h2 : i < k := by
                      rcases Nat.lt_or_ge i k with h | h
                      · exact h
                      · have := IK.out; exact absurd (by rw [show k = i by omega]) hne
                    have h3 := LY.out
                    rw [Nat.max_eq_left (by omega)] at h3
                    exact h3.skip hne⟩
                  clear HCQ EQH LY
                  go_wp2_with fail
                  go_roundw
                  case rel => exact ⟨_, _, k + 1, by have := IK.out; omega, KL.out, rfl, rfl, by rw [wrapz k (by have := KL.out; have := N1.out; omega)], by rw [Nat.max_eq_left (by have := IK.out; omega)]; exact LX2.out, by rw [Nat.max_eq_left (by have := IK.out; omega)]; exact LY2.out, KS5.out, BW5.out, SW5.out⟩
                  case measure => rw [wrapz k (by have := KL.out; have := N1.out; omega)]; have := KL.out; simp [intOf]; omega
            · obtain rfl : k = t := by omega
              have XN := Bx.mk (show x < N by have h1 := LX.out.2.1; have := NN.out; have := IL.out; omega); have YT := Bx.mk (show y < k by have h1 := LY.out.2.1; have := IL.out; omega)
              have LX2 : Bx (IsLast fA i k x) := ⟨by have h := LX.out; rw [Nat.max_eq_left (by have := IL.out; omega)] at h; exact h⟩
              have LY2 : Bx (IsLast vA i k y) := ⟨by have h := LY.out; rw [Nat.max_eq_left (by have := IL.out; omega)] at h; exact h⟩
              have C7 := Bx.mk (ksGetT w.heap.size wr ra rb hb k fA vA p k KS3.out SW3.out i x IL.out LX2.out (HK.out i IN.out).1)
              have f1 : ¬ (k : Int) < (k : Int) := by omega
              have f2 : (i : Int) < (N : Int) := by have := IN.out; omega
              have f3 : ¬ (N : Int) ≤ (i : Int) := by have := IN.out; omega
              clear hlt hkt LX LY
              go_wp2_with (guard_target =~ wpList _ _ _ (⟨some 130, _, _, _, _, _⟩ :: _) _ _; refine wpList_load_mid rfl 30 (.tmp 129) rfl B (off + i * 35) rfl (kcT (fA i)) _ RTi.out Tryd.underlying30 rfl (szTl _) ?_)
              refine C7.out.mono ?_
              rintro e w7 ⟨rfl, k7, b7⟩
              have KS7 := Bx.mk k7; have BW7 := Bx.mk (BW3.out.trans b7); have SW7 := Bx.mk (Nat.le_trans SW3.out b7.size)
              have RX := Bx.mk ((HK.out x XN.out).2.1)
              clear k7 b7 C7 KS3 BW3 SW3 RTi RHi BL3 f1
              go_upto_region 26 with (guard_target =~ wpList _ _ _ (⟨none, _, _, _, _, _⟩ :: _) _ _; refine wpList_store_row rfl 32 (.tmp 14) (.tmp 132) rfl w7.heap.size (bcells (vA x)).toArray rfl rfl _ _ (heap_alloc_new w7 _) (hsz RX.out) (by rw [show (bcells (vA x)).toArray.size = 32 by rw [List.size_toArray, blen, RX.out]]; rfl) (bone _) ?_)
              change Code.wp _ _ _ _ ((w7.alloc (.cells (bcells zH).toArray 32)).setRow w7.heap.size (bcells (vA x)).toArray)
              have k8 : Below w7.heap.size w7 ((w7.alloc (.cells (bcells zH).toArray 32)).setRow w7.heap.size (bcells (vA x)).toArray) := below_setRow (er_al (Below.refl _ _) _) (Nat.le_refl _) _
              have x8 := setRow_heap _ _ _ (bcells (vA x)).toArray _ _ (heap_alloc_new w7 (.cells (bcells zH).toArray 32))
              generalize (w7.alloc (.cells (bcells zH).toArray 32)).setRow w7.heap.size (bcells (vA x)).toArray = w8 at k8 x8 ⊢
              obtain ⟨G, hG⟩ : ∃ G, G = w7.heap.size := ⟨_, rfl⟩
              rw [← hG] at x8 ⊢
              have KS8 := Bx.mk (KS7.out.below k8); have BW8 := Bx.mk (BW7.out.trans (k8.mono SW7.out)); have SW8 := Bx.mk (Nat.le_trans SW7.out k8.size); have X8 := Bx.mk x8; have HG := Bx.mk (show w.heap.size ≤ G by rw [hG]; exact SW7.out)
              have RHi := Bx.mk (rangeB (HR.out i IN.out).2 BL0.out BW8.out)
              have C9 := Bx.mk (ksGetH w.heap.size w7 w8 ra rb hb k fA vA p k KS7.out k8 SW8.out i y IL.out LY2.out (HK.out i IN.out).2.2)
              have G7 := Bx.mk (Nat.le_of_eq hG.symm)
              clear k8 x8 hG KS7 BW7 SW7
              go_wp2_with (guard_target =~ wpList _ _ _ (⟨some 140, _, _, _, _, _⟩ :: _) _ _; refine wpList_load_mid rfl 32 (.tmp 139) rfl B (off + i * 35 + 3) rfl (bcells (vA i)) _ RHi.out underHz rfl (hszl (HK.out i IN.out).2.1) ?_)
              refine C9.out.mono ?_
              rintro e w9 ⟨rfl, k9, b9, x9⟩
              have KS9 := Bx.mk k9; have BW9 := Bx.mk (BW8.out.trans b9); have SW9 := Bx.mk (Nat.le_trans SW8.out b9.size)
              have X9 := Bx.mk ((x9 G G7.out (Array.getElem?_eq_some_iff.1 X8.out).1).trans X8.out)
              clear k9 b9 x9 C9 KS8 BW8 SW8 RHi f2 f3
              have RHx := Bx.mk (rangeB (HR.out x XN.out).2 BL0.out BW9.out); have BL9 := Bx.mk (show B < w9.heap.size from Nat.lt_of_lt_of_le BL0.out SW9.out)
              obtain ⟨cs9, xc9, -, ct9⟩ := KS9.out.hd
              have XC := Bx.mk xc9; have CT9 := Bx.mk (ct9 y YT.out)
              have NEQ := Bx.mk (fun u => hash_neqz u (vA x) RX.out)
              clear xc9 ct9
              go_upto_region 27 with (fail)
              refine wp_region_own8 (n := 167) VKI27mk (fun _ => none) (VKI27 B off N cap x y hb k G vA p) (by kernel_rfl) (by kernel_rfl) rfl (fun _ _ => rfl) (fun j i hj _ => by cases hj) ?_ ?_ ?_
              · exact fun oi oj v own w own' w' hij _ h r => VKI27_mono B off N cap x y hb k G vA p oi oj v own w own' w' hij h r
              · intro oi o hi f u own hsame hsn hfr hlate hkeep8 hdep
                have hkeep := hkeep8 _ (.inl rfl)
                have hb6 := hsn.below (B := w9.heap.size) (fun _ _ => rfl) (Nat.le_refl _)
                match oi, hi with
                | 0, hi =>
                  cases (show some _ = some o from hi)
                  have e15 : f.tmps.getD 15 undef = .bool true := hsame.slot 15 (fun i o h => invB2_not 15 (by kernel_rfl) h)
                  clear hdep hsame hi hlate hfr hkeep
                  exact .inl ⟨wanted_none rfl, showsO_move hsn rfl _ rfl e15⟩
                | 1, hi =>
                  cases (show some _ = some o from hi)
                  have e144 : (f.tmps.getD 144 undef) = .bool true := depO (V := (VKI27 B off N cap x y hb k G vA p)) hdep 0 144 (by kernel_rfl) (by kernel_rfl)
                  clear hdep hsame hi hlate hfr hkeep
                  exact .inl ⟨wanted_none rfl, showsO_pure hsn rfl (.bool false) (by simp only [execOp, Act.eval]; go_simp) rfl⟩
                | 2, hi =>
                  cases (show some _ = some o from hi)
                  have e145 : (f.tmps.getD 145 undef) = .bool false := depO (V := (VKI27 B off N cap x y hb k G vA p)) hdep 1 145 (by kernel_rfl) (by kernel_rfl)
                  clear hdep hsame hi hlate hfr hkeep
                  exact .inl ⟨wanted_none rfl, showsO_move hsn rfl _ rfl e145⟩
                | 3, hi =>
                  cases (show some _ = some o from hi)
                  have e17 : f.tmps.getD 17 undef = .bool true := hsame.slot 17 (fun i o h => invB2_not 17 (by kernel_rfl) h)
                  have eg : f.tmps.getD 146 undef = .bool false := depO (V := (VKI27 B off N cap x y hb k G vA p)) hdep 2 146 (by kernel_rfl) (by kernel_rfl)
                  clear hdep hsame hi hlate hfr hkeep
                  exact .inl ⟨wanted_of 2 rfl eg (by kernel_rfl), showsO_move hsn rfl _ rfl e17⟩
                | 4, hi =>
                  cases (show some _ = some o from hi)
                  have e147 : (f.tmps.getD 147 undef) = .bool true := depO (V := (VKI27 B off N cap x y hb k G vA p)) hdep 3 147 (by kernel_rfl) (by kernel_rfl)
                  have eg : f.tmps.getD 146 undef = .bool false := depO (V := (VKI27 B off N cap x y hb k G vA p)) hdep 2 146 (by kernel_rfl) (by kernel_rfl)
                  clear hdep hsame hi hlate hfr hkeep
                  exact .inl ⟨wanted_of 2 rfl eg (by kernel_rfl), showsO_pure hsn rfl (.bool false) (by simp only [execOp, Act.eval]; go_simp) rfl⟩
                | 5, hi =>
                  cases (show some _ = some o from hi)
                  have e146 : (f.tmps.getD 146 undef) = .bool false := depO (V := (VKI27 B off N cap x y hb k G vA p)) hdep 2 146 (by kernel_rfl) (by kernel_rfl)
                  have e148 : (f.tmps.getD 148 undef) = .bool false := depO (V := (VKI27 B off N cap x y hb k G vA p)) hdep 4 148 (by kernel_rfl) (by kernel_rfl)
                  clear hdep hsame hi hlate hfr hkeep
                  exact .inl ⟨wanted_none rfl, showsO_pure hsn rfl (.bool false) (by simp only [execOp, Act.eval]; go_simp) rfl⟩
                | 6, hi =>
                  cases (show some _ = some o from hi)
                  have e149 : (f.tmps.getD 149 undef) = .bool false := depO (V := (VKI27 B off N cap x y hb k G vA p)) hdep 5 149 (by kernel_rfl) (by kernel_rfl)
                  clear hdep hsame hi hlate hfr hkeep
                  exact .inl ⟨wanted_none rfl, showsO_move hsn rfl _ rfl e149⟩
                | 7, hi =>
                  cases (show some _ = some o from hi)
                  have e14 : f.tmps.getD 14 undef = .pointer (some ⟨G, 0, none⟩) := hsame.slot 14 (fun i o h => invB2_not 14 (by kernel_rfl) h)
                  have eg : f.tmps.getD 150 undef = .bool false := depO (V := (VKI27 B off N cap x y hb k G vA p)) hdep 6 150 (by kernel_rfl) (by kernel_rfl)
                  clear hdep hsame hi hlate hfr hkeep
                  exact .inl ⟨wanted_of 6 rfl eg (by kernel_rfl), showsO_row hsn rfl 32 (.tmp 14) rfl G e14 (bcells (vA x)).toArray ((hb6.block _ (Array.getElem?_eq_some_iff.1 X9.out).1).trans X9.out) underHz rfl (hsz RX.out) rfl⟩
                | 8, hi =>
                  cases (show some _ = some o from hi)
                  have e0 : f.tmps.getD 0 undef = .slice (some ⟨B, off, none⟩) N cap := hsame.slot 0 (fun i o h => invB2_not 0 (by kernel_rfl) h)
                  have eg : f.tmps.getD 150 undef = .bool false := depO (V := (VKI27 B off N cap x y hb k G vA p)) hdep 6 150 (by kernel_rfl) (by kernel_rfl)
                  clear hdep hsame hi hlate hfr hkeep
                  exact .inl ⟨wanted_of 6 rfl eg (by kernel_rfl), showsO_move hsn rfl _ rfl e0⟩
                | 9, hi =>
                  cases (show some _ = some o from hi)
                  have e11 : f.tmps.getD 11 undef = .int .i64 (x : Int) := hsame.slot 11 (fun i o h => invB2_not 11 (by kernel_rfl) h)
                  have eg : f.tmps.getD 150 undef = .bool false := depO (V := (VKI27 B off N cap x y hb k G vA p)) hdep 6 150 (by kernel_rfl) (by kernel_rfl)
                  clear hdep hsame hi hlate hfr hkeep
                  exact .inl ⟨wanted_of 6 rfl eg (by kernel_rfl), showsO_move hsn rfl _ rfl e11⟩
                | 10, hi =>
                  cases (show some _ = some o from hi)
                  have e152 : (f.tmps.getD 152 undef) = .slice (some ⟨B, off, none⟩) N cap := depO (V := (VKI27 B off N cap x y hb k G vA p)) hdep 8 152 (by kernel_rfl) (by kernel_rfl)
                  have e153 : (f.tmps.getD 153 undef) = .int .i64 (x : Int) := depO (V := (VKI27 B off N cap x y hb k G vA p)) hdep 9 153 (by kernel_rfl) (by kernel_rfl)
                  have eg : f.tmps.getD 150 undef = .bool false := depO (V := (VKI27 B off N cap x y hb k G vA p)) hdep 6 150 (by kernel_rfl) (by kernel_rfl)
                  clear hdep hsame hi hlate hfr hkeep
                  have f2 : ¬ (N : Int) ≤ (x : Int) := by have := XN.out; omega
                  have f3 : (x : Int) < (N : Int) := by have := XN.out; omega
                  exact .inl ⟨wanted_of 6 rfl eg (by kernel_rfl), showsO_pure hsn rfl (.pointer (some ⟨B, off + x * 35, none⟩)) (by simp only [execOp, Act.eval]; go_simp) rfl⟩
                | 11, hi =>
                  cases (show some _ = some o from hi)
                  have e154 : (f.tmps.getD 154 undef) = .pointer (some ⟨B, off + x * 35, none⟩) := depO (V := (VKI27 B off N cap x y hb k G vA p)) hdep 10 154 (by kernel_rfl) (by kernel_rfl)
                  have eg : f.tmps.getD 150 undef = .bool false := depO (V := (VKI27 B off N cap x y hb k G vA p)) hdep 6 150 (by kernel_rfl) (by kernel_rfl)
                  clear hdep hsame hi hlate hfr hkeep
                  exact .inl ⟨wanted_of 6 rfl eg (by kernel_rfl), showsO_pure hsn rfl (.pointer (some ⟨B, off + x * 35 + 3, none⟩)) (by simp only [execOp, Act.eval]; go_simp) rfl⟩
                | 12, hi =>
                  cases (show some _ = some o from hi)
                  have e155 : (f.tmps.getD 155 undef) = .pointer (some ⟨B, off + x * 35 + 3, none⟩) := depO (V := (VKI27 B off N cap x y hb k G vA p)) hdep 11 155 (by kernel_rfl) (by kernel_rfl)
                  have eg : f.tmps.getD 150 undef = .bool false := depO (V := (VKI27 B off N cap x y hb k G vA p)) hdep 6 150 (by kernel_rfl) (by kernel_rfl)
                  clear hdep hsame hi hlate hfr hkeep
                  exact .inl ⟨wanted_of 6 rfl eg (by kernel_rfl), showsO_mid hsn rfl 32 (.tmp 155) rfl B (off + x * 35 + 3) e155 (bcells (vA x)) (rangeB RHx.out BL9.out hb6) underHz rfl (hszl RX.out) rfl⟩
                | 13, hi =>
                  cases (show some _ = some o from hi)
                  have e151 : (f.tmps.getD 151 undef) = .agg (bcells (vA x)).toArray := depO (V := (VKI27 B off N cap x y hb k G vA p)) hdep 7 151 (by kernel_rfl) (by kernel_rfl)
                  have e156 : (f.tmps.getD 156 undef) = .agg (bcells (vA x)).toArray := depO (V := (VKI27 B off N cap x y hb k G vA p)) hdep 12 156 (by kernel_rfl) (by kernel_rfl)
                  have eg : f.tmps.getD 150 undef = .bool false := depO (V := (VKI27 B off N cap x y hb k G vA p)) hdep 6 150 (by kernel_rfl) (by kernel_rfl)
                  clear hdep hsame hi hlate hfr hkeep
                  exact .inl ⟨wanted_of 6 rfl eg (by kernel_rfl), showsO_pure hsn rfl (.bool false) (run_neq_op 32 32 (.tmp 151) (.tmp 156) rfl e151 e156 (by first | rfl | (unfold eqGuard; rfl) | (simp [eqGuard]; done) | (unfold eqGuard; go_simp)) (NEQ.out u)) rfl⟩
                | 14, hi =>
                  cases (show some _ = some o from hi)
                  have e150 : (f.tmps.getD 150 undef) = .bool false := depO (V := (VKI27 B off N cap x y hb k G vA p)) hdep 6 150 (by kernel_rfl) (by kernel_rfl)
                  have e157 : (f.tmps.getD 157 undef) = .bool false := depO (V := (VKI27 B off N cap x y hb k G vA p)) hdep 13 157 (by kernel_rfl) (by kernel_rfl)
                  clear hdep hsame hi hlate hfr hkeep
                  exact .inl ⟨wanted_none rfl, showsO_pure hsn rfl (.bool false) (by simp only [execOp, Act.eval]; go_simp) rfl⟩
                | 15, hi =>
                  cases (show some _ = some o from hi)
                  have e158 : (f.tmps.getD 158 undef) = .bool false := depO (V := (VKI27 B off N cap x y hb k G vA p)) hdep 14 158 (by kernel_rfl) (by kernel_rfl)
                  clear hdep hsame hi hlate hfr hkeep
                  exact .inl ⟨wanted_none rfl, showsO_move hsn rfl _ rfl e158⟩
                | 16, hi =>
                  cases (show some _ = some o from hi)
                  have e16 : f.tmps.getD 16 undef = .pointer (some ⟨(p y), 0, none⟩) := hsame.slot 16 (fun i o h => invB2_not 16 (by kernel_rfl) h)
                  have eg : f.tmps.getD 159 undef = .bool false := depO (V := (VKI27 B off N cap x y hb k G vA p)) hdep 15 159 (by kernel_rfl) (by kernel_rfl)
                  clear hdep hsame hi hlate hfr hkeep
                  exact .inl ⟨wanted_of 15 rfl eg (by kernel_rfl), showsO_move hsn rfl _ rfl e16⟩
                | 17, hi =>
                  cases (show some _ = some o from hi)
                  have e8 : f.tmps.getD 8 undef = .slice (some ⟨hb, 0, none⟩) k k := hsame.slot 8 (fun i o h => invB2_not 8 (by kernel_rfl) h)
                  have eg : f.tmps.getD 159 undef = .bool false := depO (V := (VKI27 B off N cap x y hb k G vA p)) hdep 15 159 (by kernel_rfl) (by kernel_rfl)
                  clear hdep hsame hi hlate hfr hkeep
                  exact .inl ⟨wanted_of 15 rfl eg (by kernel_rfl), showsO_move hsn rfl _ rfl e8⟩
                | 18, hi =>
                  cases (show some _ = some o from hi)
                  have e12 : f.tmps.getD 12 undef = .int .i64 (y : Int) := hsame.slot 12 (fun i o h => invB2_not 12 (by kernel_rfl) h)
                  have eg : f.tmps.getD 159 undef = .bool false := depO (V := (VKI27 B off N cap x y hb k G vA p)) hdep 15 159 (by kernel_rfl) (by kernel_rfl)
                  clear hdep hsame hi hlate hfr hkeep
                  exact .inl ⟨wanted_of 15 rfl eg (by kernel_rfl), showsO_move hsn rfl _ rfl e12⟩
                | 19, hi =>
                  cases (show some _ = some o from hi)
                  have e161 : (f.tmps.getD 161 undef) = .slice (some ⟨hb, 0, none⟩) k k := depO (V := (VKI27 B off N cap x y hb k G vA p)) hdep 17 161 (by kernel_rfl) (by kernel_rfl)
                  have e162 : (f.tmps.getD 162 undef) = .int .i64 (y : Int) := depO (V := (VKI27 B off N cap x y hb k G vA p)) hdep 18 162 (by kernel_rfl) (by kernel_rfl)
                  have eg : f.tmps.getD 159 undef = .bool false := depO (V := (VKI27 B off N cap x y hb k G vA p)) hdep 15 159 (by kernel_rfl) (by kernel_rfl)
                  clear hdep hsame hi hlate hfr hkeep
                  have f2 : ¬ (k : Int) ≤ (y : Int) := by have := YT.out; omega
                  have f3 : (y : Int) < (k : Int) := by have := YT.out; omega
                  exact .inl ⟨wanted_of 15 rfl eg (by kernel_rfl), showsO_pure hsn rfl (.pointer (some ⟨hb, y, none⟩)) (by simp only [execOp, Act.eval]; go_simp) rfl⟩
                | 20, hi =>
                  cases (show some _ = some o from hi)
                  have e163 : (f.tmps.getD 163 undef) = .pointer (some ⟨hb, y, none⟩) := depO (V := (VKI27 B off N cap x y hb k G vA p)) hdep 19 163 (by kernel_rfl) (by kernel_rfl)
                  have eg : f.tmps.getD 159 undef = .bool false := depO (V := (VKI27 B off N cap x y hb k G vA p)) hdep 15 159 (by kernel_rfl) (by kernel_rfl)
                  clear hdep hsame hi hlate hfr hkeep
                  have c164 := er_cellAt ((hb6.block hb (Array.getElem?_eq_some_iff.1 XC.out).1).trans XC.out) y _ CT9.out
                  exact .inl ⟨wanted_of 15 rfl eg (by kernel_rfl), showsO_pure hsn rfl (.pointer (some ⟨(p y), 0, none⟩)) (by simp only [execOp, Act.eval]; go_simp) rfl⟩
                | 21, hi =>
                  cases (show some _ = some o from hi)
                  have e160 : (f.tmps.getD 160 undef) = .pointer (some ⟨(p y), 0, none⟩) := depO (V := (VKI27 B off N cap x y hb k G vA p)) hdep 16 160 (by kernel_rfl) (by kernel_rfl)
                  have e164 : (f.tmps.getD 164 undef) = .pointer (some ⟨(p y), 0, none⟩) := depO (V := (VKI27 B off N cap x y hb k G vA p)) hdep 20 164 (by kernel_rfl) (by kernel_rfl)
                  have eg : f.tmps.getD 159 undef = .bool false := depO (V := (VKI27 B off N cap x y hb k G vA p)) hdep 15 159 (by kernel_rfl) (by kernel_rfl)
                  clear hdep hsame hi hlate hfr hkeep
                  exact .inl ⟨wanted_of 15 rfl eg (by kernel_rfl), showsO_pure hsn rfl (.bool false) (run_neq_op 36 36 (.tmp 160) (.tmp 164) rfl e160 e164 (by first | rfl | (unfold eqGuard; rfl) | (simp [eqGuard]; done) | (unfold eqGuard; go_simp)) (ptr_neqz u (p y))) rfl⟩
                | 22, hi =>
                  cases (show some _ = some o from hi)
                  have e159 : (f.tmps.getD 159 undef) = .bool false := depO (V := (VKI27 B off N cap x y hb k G vA p)) hdep 15 159 (by kernel_rfl) (by kernel_rfl)
                  have e165 : (f.tmps.getD 165 undef) = .bool false := depO (V := (VKI27 B off N cap x y hb k G vA p)) hdep 21 165 (by kernel_rfl) (by kernel_rfl)
                  clear hdep hsame hi hlate hfr hkeep
                  exact .inl ⟨wanted_none rfl, showsO_pure hsn rfl (.bool false) (by simp only [execOp, Act.eval]; go_simp) rfl⟩
                | n + 23, hi => exact absurd hi (by simp)
              intro fr u9 own hsame hsn hall
              have q144 : fr.tmps.getD 144 undef = .bool true := finO (V := (VKI27 B off N cap x y hb k G vA p)) hall 0 144 rfl
              have q145 : fr.tmps.getD 145 undef = .bool false := finO (V := (VKI27 B off N cap x y hb k G vA p)) hall 1 145 rfl
              have q146 : fr.tmps.getD 146 undef = .bool false := finO (V := (VKI27 B off N cap x y hb k G vA p)) hall 2 146 rfl
              have q147 : fr.tmps.getD 147 undef = .bool true := finO (V := (VKI27 B off N cap x y hb k G vA p)) hall 3 147 rfl
              have q148 : fr.tmps.getD 148 undef = .bool false := finO (V := (VKI27 B off N cap x y hb k G vA p)) hall 4 148 rfl
              have q149 : fr.tmps.getD 149 undef = .bool false := finO (V := (VKI27 B off N cap x y hb k G vA p)) hall 5 149 rfl
              have q150 : fr.tmps.getD 150 undef = .bool false := finO (V := (VKI27 B off N cap x y hb k G vA p)) hall 6 150 rfl
              have q151 : fr.tmps.getD 151 undef = .agg (bcells (vA x)).toArray := finO (V := (VKI27 B off N cap x y hb k G vA p)) hall 7 151 rfl
              have q152 : fr.tmps.getD 152 undef = .slice (some ⟨B, off, none⟩) N cap := finO (V := (VKI27 B off N cap x y hb k G vA p)) hall 8 152 rfl
              have q153 : fr.tmps.getD 153 undef = .int .i64 (x : Int) := finO (V := (VKI27 B off N cap x y hb k G vA p)) hall 9 153 rfl
              have q154 : fr.tmps.getD 154 undef = .pointer (some ⟨B, off + x * 35, none⟩) := finO (V := (VKI27 B off N cap x y hb k G vA p)) hall 10 154 rfl
              have q155 : fr.tmps.getD 155 undef = .pointer (some ⟨B, off + x * 35 + 3, none⟩) := finO (V := (VKI27 B off N cap x y hb k G vA p)) hall 11 155 rfl
              have q156 : fr.tmps.getD 156 undef = .agg (bcells (vA x)).toArray := finO (V := (VKI27 B off N cap x y hb k G vA p)) hall 12 156 rfl
              have q157 : fr.tmps.getD 157 undef = .bool false := finO (V := (VKI27 B off N cap x y hb k G vA p)) hall 13 157 rfl
              have q158 : fr.tmps.getD 158 undef = .bool false := finO (V := (VKI27 B off N cap x y hb k G vA p)) hall 14 158 rfl
              have q159 : fr.tmps.getD 159 undef = .bool false := finO (V := (VKI27 B off N cap x y hb k G vA p)) hall 15 159 rfl
              have q160 : fr.tmps.getD 160 undef = .pointer (some ⟨(p y), 0, none⟩) := finO (V := (VKI27 B off N cap x y hb k G vA p)) hall 16 160 rfl
              have q161 : fr.tmps.getD 161 undef = .slice (some ⟨hb, 0, none⟩) k k := finO (V := (VKI27 B off N cap x y hb k G vA p)) hall 17 161 rfl
              have q162 : fr.tmps.getD 162 undef = .int .i64 (y : Int) := finO (V := (VKI27 B off N cap x y hb k G vA p)) hall 18 162 rfl
              have q163 : fr.tmps.getD 163 undef = .pointer (some ⟨hb, y, none⟩) := finO (V := (VKI27 B off N cap x y hb k G vA p)) hall 19 163 rfl
              have q164 : fr.tmps.getD 164 undef = .pointer (some ⟨(p y), 0, none⟩) := finO (V := (VKI27 B off N cap x y hb k G vA p)) hall 20 164 rfl
              have q165 : fr.tmps.getD 165 undef = .bool false := finO (V := (VKI27 B off N cap x y hb k G vA p)) hall 21 165 rfl
              have q166 : fr.tmps.getD 166 undef = .bool false := finO (V := (VKI27 B off N cap x y hb k G vA p)) hall 22 166 rfl
              obtain rfl := frame_eq hsame [(144, .bool true), (145, .bool false), (146, .bool false), (147, .bool true), (148, .bool false), (149, .bool false), (150, .bool false), (151, .agg (bcells (vA x)).toArray), (152, .slice (some ⟨B, off, none⟩) N cap), (153, .int .i64 (x : Int)), (154, .pointer (some ⟨B, off + x * 35, none⟩)), (155, .pointer (some ⟨B, off + x * 35 + 3, none⟩)), (156, .agg (bcells (vA x)).toArray), (157, .bool false), (158, .bool false), (159, .bool false), (160, .pointer (some ⟨(p y), 0, none⟩)), (161, .slice (some ⟨hb, 0, none⟩) k k), (162, .int .i64 (y : Int)), (163, .pointer (some ⟨hb, y, none⟩)), (164, .pointer (some ⟨(p y), 0, none⟩)), (165, .bool false), (166, .bool false)] (by kernel_rfl) ⟨q144, q145, q146, q147, q148, q149, q150, q151, q152, q153, q154, q155, q156, q157, q158, q159, q160, q161, q162, q163, q164, q165, q166, trivial⟩
              clear hall hsame q144 q145 q146 q147 q148 q149 q150 q151 q152 q153 q154 q155 q156 q157 q158 q159 q160 q161 q162 q163 q164 q165 q166
              simp only [List.foldl, List.setIfInBounds_toArray, List.set_cons_succ, List.set_cons_zero]
              have hb := hsn.below (B := w9.heap.size) (fun _ _ => rfl) (Nat.le_refl _)
              have KSa := Bx.mk (KS9.out.below hb); have BWa := Bx.mk (BW9.out.trans (hb.mono SW9.out)); have SWa := Bx.mk (Nat.le_trans SW9.out hb.size)
              clear hb hsn
              clear own
              clear KS9 BW9 SW9 X9 XC CT9 RHx BL9
              go_wp2_with fail
              go_roundw
              case rel => exact ⟨i + 1, IL.out, by rw [wrapz i (by have := IL.out; have := N1.out; omega)], KSa.out, BWa.out, SWa.out⟩
              case measure => rw [wrapz i (by have := IL.out; have := N1.out; omega)]; have := IL.out; simp [intOf]; omega
        · have FB := BW2
          have f1 : ¬ (i : Int) < (t : Int) := by omega
          clear hlt hi
          go_wp2_with fail
          go_ret
          exact ⟨rfl, FB.out⟩
end Go.Proofs.YtdepmjgibenejaaDoor
