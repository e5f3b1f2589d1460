/- cartularylaw13.CachePlays walked. -/
import Derived.Test.YtdepmjgibenejaaGreatDoorRcG
namespace Go.Proofs.YtdepmjgibenejaaGreatDoor.K
set_option maxRecDepth 100000
open Go.RowKit
/-- an op that came in -/
structure OpC where
  kd : Int
  on : Int
  key : Int
  val : Int
def opcs (u : OpC) : List Value := [.int .i64 u.kd, .int .i64 u.on, .int .i64 u.key, .int .i64 u.val]
/-- a slice that reads as ops -/
def OpsC (w : World) (v : Value) (us : List OpC) : Prop :=
  ∃ (a : Option Addr) (cap : Nat), v = .slice a us.length cap ∧ us.length ≤ cap ∧ cap ≤ maxLen ∧ (∀ u ∈ us, kwI u.key) ∧
    (us ≠ [] → ∃ B off, a = some ⟨B, off, none⟩ ∧ B < w.heap.size ∧ ∀ i, (h : i < us.length) → w.rangeAt B (off + i * 4) (opcs us[i]))
def pvC (f : Nat → Nat) (t i : Nat) : Value := if i < t then .pointer (some ⟨f i, 0, none⟩) else .pointer none
/-- the world while the caches are laid -/
def wcC (s r : Nat → Nat) (t u : Nat) : Array Value := #[pvC s t 0, pvC s t 1, pvC r u 0, pvC r u 1]
theorem wcC_s (s r : Nat → Nat) (t u x : Nat) (ht : t < 2) : (wcC s r t u).setIfInBounds t (.pointer (some ⟨x, 0, none⟩)) = wcC (updF s t x) r (t + 1) u := by
  rcases (show t = 0 ∨ t = 1 by omega) with rfl | rfl <;> simp [wcC, pvC, updF]
theorem wcC_r (s r : Nat → Nat) (t u x : Nat) (hu : u < 2) : (wcC s r t u).setIfInBounds (2 + u) (.pointer (some ⟨x, 0, none⟩)) = wcC s (updF r u x) t (u + 1) := by
  rcases (show u = 0 ∨ u = 1 by omega) with rfl | rfl <;> simp [wcC, pvC, updF]
theorem wcC_at (s r : Nat → Nat) (t u k : Nat) (hk : k < 2) : (wcC s r t u)[k]? = some (pvC s t k) ∧ (wcC s r t u)[2 + k]? = some (pvC r u k) := by
  rcases (show k = 0 ∨ k = 1 by omega) with rfl | rfl <;> exact ⟨rfl, rfl⟩
/-- a new cache in a region -/
def NewS (vf : Nat → Value) (own : Nat → Option Nat) (w : World) (v : Value) (base WS : Nat) : Prop := ∃ x Bx, v = vf x ∧ CaXI base w x 3 [] Bx ∧ ∀ j, Bx j → own j = none ∧ WS ≤ j
theorem NewS.stable {vf : Nat → Value} {mk own own' : Nat → Option Nat} {w w' : World} {i : Nat} {v : Value} {base WS : Nat} (h : NewS vf own w v base WS) (r : Rel mk i own w own' w') : NewS vf own' w' v base WS := by
  obtain ⟨x, Bx, e, h1, h2⟩ := h
  exact ⟨x, Bx, e, h1.kept r.kp (fun j hj e => by rw [(h2 j hj).1] at e; cases e), fun j hj => ⟨(r.owns j (h1.lt j hj)).trans (h2 j hj).1, (h2 j hj).2⟩⟩
def NewR (vf : Nat → Value) (own : Nat → Option Nat) (w : World) (v : Value) (base WS : Nat) : Prop := ∃ x, v = vf x ∧ RfM base w x 3 [] (.slice none 0 0) ∧ own x = none ∧ WS ≤ x
theorem NewR.stable {vf : Nat → Value} {mk own own' : Nat → Option Nat} {w w' : World} {i : Nat} {v : Value} {base WS : Nat} (h : NewR vf own w v base WS) (r : Rel mk i own w own' w') : NewR vf own' w' v base WS := by
  obtain ⟨x, e, h1, h2, h3⟩ := h
  exact ⟨x, e, h1.kept r.kp (fun e => by rw [h2] at e; cases e) (fun j hj => by cases hj), (r.owns x (Array.getElem?_eq_some_iff.1 h1.hb).1).trans h2, h3⟩
theorem showsO_storeW {mk own : Nat → Option Nat} {w : World} {P : Program} {Q : Exit → Act → World → Prop} {V : Nat → Value → (Nat → Option Nat) → World → Prop} {i : Nat} {o : Oper} {a : Act} (hd : o.dst = none) {w' : World} (hr : (execOp a.eval o).run P w = .ok .skip w') (hrel : Rel mk i own w own w') (hv : V i undef own w') : ShowsO mk P Q V i o a own w := by
  intro K hK
  unfold Oper.wp
  rw [hr]
  exact hK undef w' own (by unfold laid; rw [hd]; exact hv) hrel
def StN5 (own : Nat → Option Nat) (w : World) (base WS wb k : Nat) (s r : Nat → Nat) : Prop := ∃ x Bx, w.heap[wb]? = some (.cells (wcC (updF s k x) r (k + 1) k) 29 (0, 0)) ∧ own wb = some 9 ∧ CaXI base w x 3 [] Bx ∧ ∀ j, Bx j → own j = none ∧ WS ≤ j
theorem StN5.stable {mk own own' : Nat → Option Nat} {w w' : World} {i : Nat} {base WS wb k : Nat} {s r : Nat → Nat} (h : StN5 own w base WS wb k s r) (r1 : Rel mk i own w own' w') (hi : i ≠ 9) : StN5 own' w' base WS wb k s r := by
  obtain ⟨x, Bx, e, h0, h1, h2⟩ := h
  have hl := (Array.getElem?_eq_some_iff.1 e).1
  exact ⟨x, Bx, (r1.keep wb hl (by rw [h0]; exact fun e => hi (Option.some.inj e).symm)).trans e, (r1.owns wb hl).trans h0, h1.kept r1.kp (fun j hj e => by rw [(h2 j hj).1] at e; cases e), fun j hj => ⟨(r1.owns j (h1.lt j hj)).trans (h2 j hj).1, (h2 j hj).2⟩⟩
def VN5 (base WS wb k : Nat) (s r : Nat → Nat) (oi : Nat) (v : Value) (own : Nat → Option Nat) (w : World) : Prop :=
  match oi with
  | 0 => v = .pointer (some ⟨wb, 0, none⟩)
  | 1 => v = .int .i64 (k : Int)
  | 2 => NewS (fun x => .tuple #[.pointer (some ⟨x, 0, none⟩), Value.nilIface]) own w v base WS
  | 3 => NewS (fun x => .tuple #[.pointer (some ⟨x, 0, none⟩), Value.nilIface]) own w v base WS
  | 4 => NewS (fun x => .pointer (some ⟨x, 0, none⟩)) own w v base WS
  | 5 => v = .nilIface
  | 6 => v = .pointer (some ⟨wb, 0, none⟩)
  | 7 => v = .pointer (some ⟨wb, 0, none⟩)
  | 8 => v = .pointer (some ⟨wb, k, none⟩)
  | 9 => StN5 own w base WS wb k s r
  | _ => True
def VN5mk : Nat → Option Nat := fun _ => none
theorem VN5_mono (base WS wb k : Nat) (s r : Nat → Nat) (oi oj : Nat) (v : Value) (own : Nat → Option Nat) (w : World) (own' : Nat → Option Nat) (w' : World) (hij : oi ≠ oj)   (h : VN5 base WS wb k s r oj v own w) (r1 : Rel VN5mk oi own w own' w') : VN5 base WS wb k s r oj v own' w' := by
  unfold VN5 at h ⊢
  split at h
  · exact h
  · exact h
  · exact h.stable r1
  · exact h.stable r1
  · exact h.stable r1
  · exact h
  · exact h
  · exact h
  · exact h
  · exact h.stable r1 hij
  · trivial

def StN6 (own : Nat → Option Nat) (w : World) (base WS wb k : Nat) (s r : Nat → Nat) : Prop := ∃ x, w.heap[wb]? = some (.cells (wcC s (updF r k x) (k + 1) (k + 1)) 29 (0, 0)) ∧ own wb = some 9 ∧ RfM base w x 3 [] (.slice none 0 0) ∧ own x = none ∧ WS ≤ x
theorem StN6.stable {mk own own' : Nat → Option Nat} {w w' : World} {i : Nat} {base WS wb k : Nat} {s r : Nat → Nat} (h : StN6 own w base WS wb k s r) (r1 : Rel mk i own w own' w') (hi : i ≠ 9) : StN6 own' w' base WS wb k s r := by
  obtain ⟨x, e, h0, h1, h2, h3⟩ := h
  have hl := (Array.getElem?_eq_some_iff.1 e).1
  exact ⟨x, (r1.keep wb hl (by rw [h0]; exact fun e => hi (Option.some.inj e).symm)).trans e, (r1.owns wb hl).trans h0, h1.kept r1.kp (fun e => by rw [h2] at e; cases e) (fun j hj => by cases hj), (r1.owns x (Array.getElem?_eq_some_iff.1 h1.hb).1).trans h2, h3⟩
def VN6 (base WS wb k : Nat) (s r : Nat → Nat) (oi : Nat) (v : Value) (own : Nat → Option Nat) (w : World) : Prop :=
  match oi with
  | 0 => v = .pointer (some ⟨wb, 0, none⟩)
  | 1 => v = .int .i64 (k : Int)
  | 2 => NewR (fun x => .tuple #[.pointer (some ⟨x, 0, none⟩), .agg #[.int .i64 0, .int .i64 0]]) own w v base WS
  | 3 => NewR (fun x => .tuple #[.pointer (some ⟨x, 0, none⟩), .agg #[.int .i64 0, .int .i64 0]]) own w v base WS
  | 4 => NewR (fun x => .pointer (some ⟨x, 0, none⟩)) own w v base WS
  | 5 => v = .agg #[.int .i64 0, .int .i64 0]
  | 6 => v = .pointer (some ⟨wb, 0, none⟩)
  | 7 => v = .pointer (some ⟨wb, 2, none⟩)
  | 8 => v = .pointer (some ⟨wb, 2 + k, none⟩)
  | 9 => StN6 own w base WS wb k s r
  | _ => True
def VN6mk : Nat → Option Nat := fun _ => none
theorem VN6_mono (base WS wb k : Nat) (s r : Nat → Nat) (oi oj : Nat) (v : Value) (own : Nat → Option Nat) (w : World) (own' : Nat → Option Nat) (w' : World) (hij : oi ≠ oj)   (h : VN6 base WS wb k s r oj v own w) (r1 : Rel VN6mk oi own w own' w') : VN6 base WS wb k s r oj v own' w' := by
  unfold VN6 at h ⊢
  split at h
  · exact h
  · exact h
  · exact h.stable r1
  · exact h.stable r1
  · exact h.stable r1
  · exact h
  · exact h
  · exact h
  · exact h
  · exact h.stable r1 hij
  · trivial

def CWx (base : Nat) (u : World) : Prop := ∃ s r most es B L, CW base u base s r most es B L
theorem cwx_below {base : Nat} {u u' : World} (h : CWx base u) (hb : Below u.heap.size u u') : CWx base u' := by
  obtain ⟨s, r, most, es, B, L, h⟩ := h
  exact ⟨s, r, most, es, B, L, CW.below h hb⟩
theorem cwx_looks {base : Nat} {u : World} (h : CWx base u) (k : Nat) (hk : k < 2) : Calls Tryz.prog 7 #[.pointer (some ⟨base, 0, none⟩), .int .i64 (k : Int)] u fun e w' => e = .returned (.bool true) ∧ Below u.heap.size u w' := by
  obtain ⟨s, r, most, es, B, L, h⟩ := h
  exact looks13_any base u base s r most es B L h k hk
theorem cwx_does (A : Nat → Addr) {base : Nat} {u : World} (h : CWx base u) (hs : base ≤ u.heap.size) (hE : ∀ u', Below base u u' → Errs u' A) (kd on key val : Int) (hk : kwI key) :
    Calls Tryz.prog 6 #[.pointer (some ⟨base, 0, none⟩), .agg #[.int .i64 kd, .int .i64 on, .int .i64 key, .int .i64 val]] u fun e w' => e = .returned (.bool true) ∧ CWx base w' ∧ Below base u w' := by
  obtain ⟨s, r, most, es, B, L, h⟩ := h
  exact (does13_any A base u base s r most es B L h hs hE kd on key val hk).mono fun e w' ⟨h1, h2, h3⟩ => ⟨h1, h2, h3⟩
set_option maxHeartbeats 6400000 in
theorem plays13_any (A : Nat → Addr) (w : World) (one two : Int) (v : Value) (us : List OpC) (h1 : kwI one) (h2 : kwI two) (hU : OpsC w v us) (hE : Errs w A) :
    Calls Tryz.prog 3 #[.int .i64 one, .int .i64 two, v] w fun e w' => e = .returned (.bool true) ∧ Below w.heap.size w w' := by
  obtain ⟨a, cap, rfl, hnc, hcm, hkw, hat⟩ := hU
  have kb := er_al (Below.refl w.heap.size w) (.cells #[.pointer none, .pointer none, .pointer none, .pointer none] 29)
  have x0 := heap_alloc_new w (.cells #[.pointer none, .pointer none, .pointer none, .pointer none] 29)
  obtain ⟨n, hn⟩ : ∃ n, n = us.length := ⟨_, rfl⟩
  rw [← hn] at hnc ⊢
  obtain ⟨base, hbase⟩ : ∃ base, base = w.heap.size := ⟨_, rfl⟩
  have HE : Bx (∀ u, Below base w u → Errs u A) := ⟨fun u hu => hE.below (by rw [← hbase]; exact hu)⟩
  have HN := Bx.mk hn; have HC := Bx.mk (And.intro hnc hcm); have HKW := Bx.mk hkw; have HAT := Bx.mk hat; have H1 := Bx.mk h1; have H2 := Bx.mk h2
  rw [← hbase] at kb x0
  clear h1 h2 hE hnc hcm hkw hat hn
  go_enter Tryz.func3, Tryz.ntmps3
  go_upto_region 2 with (fail)
  change Code.wp _ _ _ _ (w.alloc (.cells #[.pointer none, .pointer none, .pointer none, .pointer none] 29))
  rw [← hbase]
  have hsz : base < (w.alloc (.cells #[.pointer none, .pointer none, .pointer none, .pointer none] 29)).heap.size := (Array.getElem?_eq_some_iff.1 x0).1
  generalize w.alloc (.cells #[.pointer none, .pointer none, .pointer none, .pointer none] 29) = W at kb x0 hsz ⊢
  have HBS := Bx.mk hbase; have K0 := Bx.mk kb; have X0 := Bx.mk x0; have SZ0 := Bx.mk hsz
  clear kb x0 hsz hbase
  go_wp2_with fail
  go_loopw [8] (fun iv wr => ∃ k : Nat, k ≤ 2 ∧ iv = .int .i64 (k : Int) ∧ Below base w wr ∧ base < wr.heap.size ∧ ∃ (s r : Nat → Nat) (B : Nat → Nat → Prop), wr.heap[base]? = some (.cells (wcC s r k k) 29 (0, 0)) ∧ (∀ i, i < k → CaXI base wr (s i) 3 [] (B i) ∧ RfM base wr (r i) 3 [] (.slice none 0 0)) ∧ ∀ i, i < k → ∀ j, j < k → i ≠ j → r i ≠ r j ∧ ∀ b, B i b → ¬ B j b) (fun iv _ => 2 - (intOf iv).toNat)
  case atStart => exact ⟨0, by decide, rfl, K0.out, SZ0.out, (fun _ => 0), (fun _ => 0), (fun _ _ => False), X0.out, (fun i hi => absurd hi (Nat.not_lt_zero _)), (fun i hi => absurd hi (Nat.not_lt_zero _))⟩
  case round =>
    obtain ⟨k, hk, rfl, hb, hsz, s, r, B, hwb, hin, hdi⟩ := hrel
    obtain ⟨W5, rfl⟩ : ∃ W5, W5 = wr := ⟨_, rfl⟩
    have KB := Bx.mk hb; have SZ := Bx.mk hsz; have HB := Bx.mk hwb; have HIN := Bx.mk hin; have HDI := Bx.mk hdi
    have BS := Bx.mk (Nat.le_of_lt hsz)
    have WL := Bx.mk hsz
    clear hb hsz hwb hin hdi K0 X0 SZ0
    by_cases hlt : k < 2
    · have KK := Bx.mk hlt
      have KI1 := Bx.mk (show (k : Int) < 2 by omega); have KI2 := Bx.mk (show ¬ (2 : Int) ≤ (k : Int) by omega); have KI3 := Bx.mk (show (0 : Int) ≤ (k : Int) by omega)
      have f1 : (k : Int) < 2 := by omega
      clear hlt hk
      go_upto_region 5 with (fail)
      clear f1
      refine wp_region_ownK (n := 83) VN5mk (fun j => if j = base then some 9 else none) (VN5 base (W5.heap.size) base k s r) (by kernel_rfl) (by kernel_rfl) rfl (fun q hq => if_neg (by have := WL.out; omega)) (fun j i hj _ => by cases hj) ?_ ?_ ?_
      · exact fun oi oj v own w own' w' hij _ h r1 => VN5_mono base (W5.heap.size) base k s r oi oj v own w own' w' hij h r1
      · intro oi o hi f u own hsame hsn hfr hlate hkeep8 hdep
        have hkeep := hkeep8 _ (.inl rfl)
        match oi, hi with
        | 0, hi =>
          cases (show some _ = some o from hi)
          have e7 : f.tmps.getD 7 undef = .pointer (some ⟨base, 0, none⟩) := hsame.slot 7 (fun i o h => invB2_not 7 (by kernel_rfl) h)
          clear hdep hsame hi hlate hfr hkeep
          exact .inl ⟨wanted_none rfl, showsO_move hsn rfl _ rfl e7⟩
        | 1, hi =>
          cases (show some _ = some o from hi)
          have e8 : f.tmps.getD 8 undef = .int .i64 (k : Int) := hsame.slot 8 (fun i o h => invB2_not 8 (by kernel_rfl) h)
          clear hdep hsame hi hlate hfr hkeep
          exact .inl ⟨wanted_none rfl, showsO_move hsn rfl _ rfl e8⟩
        | 2, hi =>
          cases (show some _ = some o from hi)
          clear hdep hsame hi hlate hfr hkeep
          exact .inl ⟨wanted_none rfl, showsO_callW rfl 4 #[.int .i64 3] (by simp only [execOp, Act.eval]; go_simp) ((cnew_anyI u 3 (by decide)).mono fun e w' ⟨x, he, Bn, hX, hN, hb⟩ => ⟨_, he, Rel.below _ 2 hsn hb, x, Bn, rfl, hX.mono (Nat.le_trans BS.out hsn.size), fun j hj => ⟨hsn.top j (hN j hj), Nat.le_trans hsn.size (hN j hj)⟩⟩)⟩
        | 3, hi =>
          cases (show some _ = some o from hi)
          have e19 : NewS (fun x => .tuple #[.pointer (some ⟨x, 0, none⟩), Value.nilIface]) own u (f.tmps.getD 19 undef) base (W5.heap.size) := depO (V := (VN5 base (W5.heap.size) base k s r)) hdep 2 19 (by kernel_rfl) (by kernel_rfl)
          clear hdep hsame hi hlate hfr hkeep
          exact .inl ⟨wanted_none rfl, showsO_move hsn rfl _ rfl e19⟩
        | 4, hi =>
          cases (show some _ = some o from hi)
          have e16 : NewS (fun x => .tuple #[.pointer (some ⟨x, 0, none⟩), Value.nilIface]) own u (f.tmps.getD 16 undef) base (W5.heap.size) := depO (V := (VN5 base (W5.heap.size) base k s r)) hdep 3 16 (by kernel_rfl) (by kernel_rfl)
          clear hdep hsame hi hlate hfr hkeep
          obtain ⟨x, Bx, ev, hx1, hx2⟩ := e16
          have e16 := ev
          exact .inl ⟨wanted_none rfl, showsO_pure hsn rfl (.pointer (some ⟨x, 0, none⟩)) (by simp only [execOp, Act.eval]; go_simp) ⟨x, Bx, rfl, hx1, hx2⟩⟩
        | 5, hi =>
          cases (show some _ = some o from hi)
          have e16 : NewS (fun x => .tuple #[.pointer (some ⟨x, 0, none⟩), Value.nilIface]) own u (f.tmps.getD 16 undef) base (W5.heap.size) := depO (V := (VN5 base (W5.heap.size) base k s r)) hdep 3 16 (by kernel_rfl) (by kernel_rfl)
          clear hdep hsame hi hlate hfr hkeep
          obtain ⟨x, Bx, ev, hx1, hx2⟩ := e16
          have e16 := ev
          exact .inl ⟨wanted_none rfl, showsO_pure hsn rfl (.nilIface) (by simp only [execOp, Act.eval]; go_simp) rfl⟩
        | 6, hi =>
          cases (show some _ = some o from hi)
          have e17 : (f.tmps.getD 17 undef) = .pointer (some ⟨base, 0, none⟩) := depO (V := (VN5 base (W5.heap.size) base k s r)) hdep 0 17 (by kernel_rfl) (by kernel_rfl)
          clear hdep hsame hi hlate hfr hkeep
          exact .inl ⟨wanted_none rfl, showsO_pure hsn rfl (.pointer (some ⟨base, 0, none⟩)) (by simp only [execOp, Act.eval]; go_simp) rfl⟩
        | 7, hi =>
          cases (show some _ = some o from hi)
          have e22 : (f.tmps.getD 22 undef) = .pointer (some ⟨base, 0, none⟩) := depO (V := (VN5 base (W5.heap.size) base k s r)) hdep 6 22 (by kernel_rfl) (by kernel_rfl)
          clear hdep hsame hi hlate hfr hkeep
          exact .inl ⟨wanted_none rfl, showsO_pure hsn rfl (.pointer (some ⟨base, 0, none⟩)) (by simp only [execOp, Act.eval]; go_simp) rfl⟩
        | 8, hi =>
          cases (show some _ = some o from hi)
          have e18 : (f.tmps.getD 18 undef) = .int .i64 (k : Int) := depO (V := (VN5 base (W5.heap.size) base k s r)) hdep 1 18 (by kernel_rfl) (by kernel_rfl)
          have e23 : (f.tmps.getD 23 undef) = .pointer (some ⟨base, 0, none⟩) := depO (V := (VN5 base (W5.heap.size) base k s r)) hdep 7 23 (by kernel_rfl) (by kernel_rfl)
          clear hdep hsame hi hlate hfr hkeep
          have k1 := KI1.out
          have k2 := KI2.out
          have k3 := KI3.out
          exact .inl ⟨wanted_none rfl, showsO_pure hsn rfl (.pointer (some ⟨base, k, none⟩)) (by simp only [execOp, Act.eval]; go_simp) rfl⟩
        | 9, hi =>
          cases (show some _ = some o from hi)
          have e20 : NewS (fun x => .pointer (some ⟨x, 0, none⟩)) own u (f.tmps.getD 20 undef) base (W5.heap.size) := depO (V := (VN5 base (W5.heap.size) base k s r)) hdep 4 20 (by kernel_rfl) (by kernel_rfl)
          have e24 : (f.tmps.getD 24 undef) = .pointer (some ⟨base, k, none⟩) := depO (V := (VN5 base (W5.heap.size) base k s r)) hdep 8 24 (by kernel_rfl) (by kernel_rfl)
          clear hdep hsame hi hlate hfr hkeep
          obtain ⟨x, Bx, ev, hx1, hx2⟩ := e20
          have e20 := ev
          have hbase := (hkeep8 9 (.inl rfl) base WL.out (if_pos rfl)).trans HB.out
          have cst : u.cell? ⟨base, k, none⟩ = some (pvC s k k) := er_cellAt hbase _ _ (wcC_at s r _ _ k KK.out).1
          have fst : u.frozen? ⟨base, k, none⟩ = false := frozenC hbase _
          have how : own base = some 9 := (hsn.owns base WL.out).trans (if_pos rfl)
          exact .inl ⟨wanted_none rfl, showsO_storeW rfl (w' := u.setCell ⟨base, k, none⟩ (.pointer (some ⟨x, 0, none⟩))) (by simp only [execOp, Act.eval]; go_simp) (Rel.keep_ _ 9 hsn (Keep.setCell u _ _) (fun q hq e => by have e2 : q = base := e; rw [e2]; exact how)) ⟨x, Bx, (by rw [← wcC_s s r k k x KK.out]; simp [World.setCell, Array.getElem?_modify, hbase]), how, hx1.kept (Keep.setCell u _ _) (fun j hj e => by have e2 : j = base := e; have := (hx2 j hj).1; rw [e2, how] at this; cases this), hx2⟩⟩
        | n + 10, hi => exact absurd hi (by simp)
      · intro f u5 own hsame hsn hall
        have q17 : f.tmps.getD 17 undef = .pointer (some ⟨base, 0, none⟩) := finO (V := (VN5 base (W5.heap.size) base k s r)) hall 0 17 rfl
        have q18 : f.tmps.getD 18 undef = .int .i64 (k : Int) := finO (V := (VN5 base (W5.heap.size) base k s r)) hall 1 18 rfl
        obtain ⟨x19, B19, q19, -, -⟩ := finO (V := (VN5 base (W5.heap.size) base k s r)) hall 2 19 rfl
        obtain ⟨x16, B16, q16, -, -⟩ := finO (V := (VN5 base (W5.heap.size) base k s r)) hall 3 16 rfl
        obtain ⟨x20, B20, q20, -, -⟩ := finO (V := (VN5 base (W5.heap.size) base k s r)) hall 4 20 rfl
        have q21 : f.tmps.getD 21 undef = .nilIface := finO (V := (VN5 base (W5.heap.size) base k s r)) hall 5 21 rfl
        have q22 : f.tmps.getD 22 undef = .pointer (some ⟨base, 0, none⟩) := finO (V := (VN5 base (W5.heap.size) base k s r)) hall 6 22 rfl
        have q23 : f.tmps.getD 23 undef = .pointer (some ⟨base, 0, none⟩) := finO (V := (VN5 base (W5.heap.size) base k s r)) hall 7 23 rfl
        have q24 : f.tmps.getD 24 undef = .pointer (some ⟨base, k, none⟩) := finO (V := (VN5 base (W5.heap.size) base k s r)) hall 8 24 rfl
        obtain ST := finN (V := (VN5 base (W5.heap.size) base k s r)) hall 9 rfl
        obtain rfl := frame_eq hsame [(17, .pointer (some ⟨base, 0, none⟩)), (18, .int .i64 (k : Int)), (19, (fun x => .tuple #[.pointer (some ⟨x, 0, none⟩), Value.nilIface]) x19), (16, (fun x => .tuple #[.pointer (some ⟨x, 0, none⟩), Value.nilIface]) x16), (20, (fun x => .pointer (some ⟨x, 0, none⟩)) x20), (21, .nilIface), (22, .pointer (some ⟨base, 0, none⟩)), (23, .pointer (some ⟨base, 0, none⟩)), (24, .pointer (some ⟨base, k, none⟩))] (by kernel_rfl) ⟨q17, q18, q19, q16, q20, q21, q22, q23, q24, trivial⟩
        clear hall hsame q17 q18 q19 q16 q20 q21 q22 q23 q24
        simp only [List.foldl, List.setIfInBounds_toArray, List.set_cons_succ, List.set_cons_zero]
        obtain ⟨x, Bx', e1, -, hX, hN⟩ := ST
        have k5 : Keep (fun j => j = base) W5 u5 := ⟨hsn.os, hsn.tape, hsn.output, hsn.size, fun q hq hn => hsn.keep q hq (if_neg hn)⟩
        have K5 := Bx.mk k5; have HX5 := Bx.mk hX; have HN5 := Bx.mk (fun j hj => (hN j hj).2)
        have IN5 : Bx (∀ i, i < k → CaXI base u5 (s i) 3 [] (B i) ∧ RfM base u5 (r i) 3 [] (.slice none 0 0)) := ⟨fun i hi => ⟨(HIN.out i hi).1.kept K5.out (fun j hj e => by subst e; exact (HIN.out i hi).1.notT HB.out (by decide) (by decide) (by decide) hj), (HIN.out i hi).2.kept K5.out (fun e => by
          have h1 := (HIN.out i hi).2.hb
          rw [e, HB.out] at h1
          injection h1 with h1; injection h1 with _ h1; exact absurd h1 (by decide)) (fun j hj => by cases hj)⟩⟩
        obtain ⟨s1, hs1⟩ : ∃ s1, s1 = updF s k x := ⟨_, rfl⟩
        rw [← hs1] at e1
        have HS1 := Bx.mk hs1; have HB6 := Bx.mk e1
        have WL6 := Bx.mk (Nat.lt_of_lt_of_le SZ.out k5.size); have BS6 := Bx.mk (Nat.le_of_lt (Nat.lt_of_lt_of_le SZ.out k5.size))
        clear hX hN e1 k5 hs1 hsn
        go_upto_region 6 with (fail)
        refine wp_region_ownK (n := 83) VN6mk (fun j => if j = base then some 9 else none) (VN6 base (u5.heap.size) base k s1 r) (by kernel_rfl) (by kernel_rfl) rfl (fun q hq => if_neg (by have := WL6.out; omega)) (fun j i hj _ => by cases hj) ?_ ?_ ?_
        · exact fun oi oj v own w own' w' hij _ h r1 => VN6_mono base (u5.heap.size) base k s1 r oi oj v own w own' w' hij h r1
        · intro oi o hi f u own hsame hsn hfr hlate hkeep8 hdep
          have hkeep := hkeep8 _ (.inl rfl)
          match oi, hi with
          | 0, hi =>
            cases (show some _ = some o from hi)
            have e7 : f.tmps.getD 7 undef = .pointer (some ⟨base, 0, none⟩) := hsame.slot 7 (fun i o h => invB2_not 7 (by kernel_rfl) h)
            clear hdep hsame hi hlate hfr hkeep
            exact .inl ⟨wanted_none rfl, showsO_move hsn rfl _ rfl e7⟩
          | 1, hi =>
            cases (show some _ = some o from hi)
            have e8 : f.tmps.getD 8 undef = .int .i64 (k : Int) := hsame.slot 8 (fun i o h => invB2_not 8 (by kernel_rfl) h)
            clear hdep hsame hi hlate hfr hkeep
            exact .inl ⟨wanted_none rfl, showsO_move hsn rfl _ rfl e8⟩
          | 2, hi =>
            cases (show some _ = some o from hi)
            clear hdep hsame hi hlate hfr hkeep
            exact .inl ⟨wanted_none rfl, showsO_callW rfl 5 #[.int .i64 3] (by simp only [execOp, Act.eval]; go_simp) ((rnew13_any u 3 (by decide)).mono fun e w' ⟨x, he, hM, hb⟩ => ⟨_, he, Rel.below _ 2 hsn hb, x, rfl, ⟨hM.hb, Nat.le_trans (Nat.le_trans BS6.out hsn.size) hM.br, World.ownsRow_nil _ _ _ _⟩, hsn.top x hM.br, Nat.le_trans hsn.size hM.br⟩)⟩
          | 3, hi =>
            cases (show some _ = some o from hi)
            have e28 : NewR (fun x => .tuple #[.pointer (some ⟨x, 0, none⟩), .agg #[.int .i64 0, .int .i64 0]]) own u (f.tmps.getD 28 undef) base (u5.heap.size) := depO (V := (VN6 base (u5.heap.size) base k s1 r)) hdep 2 28 (by kernel_rfl) (by kernel_rfl)
            clear hdep hsame hi hlate hfr hkeep
            exact .inl ⟨wanted_none rfl, showsO_move hsn rfl _ rfl e28⟩
          | 4, hi =>
            cases (show some _ = some o from hi)
            have e25 : NewR (fun x => .tuple #[.pointer (some ⟨x, 0, none⟩), .agg #[.int .i64 0, .int .i64 0]]) own u (f.tmps.getD 25 undef) base (u5.heap.size) := depO (V := (VN6 base (u5.heap.size) base k s1 r)) hdep 3 25 (by kernel_rfl) (by kernel_rfl)
            clear hdep hsame hi hlate hfr hkeep
            obtain ⟨x, ev, hx1, hx2, hx3⟩ := e25
            have e25 := ev
            exact .inl ⟨wanted_none rfl, showsO_pure hsn rfl (.pointer (some ⟨x, 0, none⟩)) (by simp only [execOp, Act.eval]; go_simp) ⟨x, rfl, hx1, hx2, hx3⟩⟩
          | 5, hi =>
            cases (show some _ = some o from hi)
            have e25 : NewR (fun x => .tuple #[.pointer (some ⟨x, 0, none⟩), .agg #[.int .i64 0, .int .i64 0]]) own u (f.tmps.getD 25 undef) base (u5.heap.size) := depO (V := (VN6 base (u5.heap.size) base k s1 r)) hdep 3 25 (by kernel_rfl) (by kernel_rfl)
            clear hdep hsame hi hlate hfr hkeep
            obtain ⟨x, ev, hx1, hx2, hx3⟩ := e25
            have e25 := ev
            exact .inl ⟨wanted_none rfl, showsO_pure hsn rfl (.agg #[.int .i64 0, .int .i64 0]) (by simp only [execOp, Act.eval]; go_simp) rfl⟩
          | 6, hi =>
            cases (show some _ = some o from hi)
            have e26 : (f.tmps.getD 26 undef) = .pointer (some ⟨base, 0, none⟩) := depO (V := (VN6 base (u5.heap.size) base k s1 r)) hdep 0 26 (by kernel_rfl) (by kernel_rfl)
            clear hdep hsame hi hlate hfr hkeep
            exact .inl ⟨wanted_none rfl, showsO_pure hsn rfl (.pointer (some ⟨base, 0, none⟩)) (by simp only [execOp, Act.eval]; go_simp) rfl⟩
          | 7, hi =>
            cases (show some _ = some o from hi)
            have e31 : (f.tmps.getD 31 undef) = .pointer (some ⟨base, 0, none⟩) := depO (V := (VN6 base (u5.heap.size) base k s1 r)) hdep 6 31 (by kernel_rfl) (by kernel_rfl)
            clear hdep hsame hi hlate hfr hkeep
            exact .inl ⟨wanted_none rfl, showsO_pure hsn rfl (.pointer (some ⟨base, 2, none⟩)) (by simp only [execOp, Act.eval]; go_simp) rfl⟩
          | 8, hi =>
            cases (show some _ = some o from hi)
            have e27 : (f.tmps.getD 27 undef) = .int .i64 (k : Int) := depO (V := (VN6 base (u5.heap.size) base k s1 r)) hdep 1 27 (by kernel_rfl) (by kernel_rfl)
            have e32 : (f.tmps.getD 32 undef) = .pointer (some ⟨base, 2, none⟩) := depO (V := (VN6 base (u5.heap.size) base k s1 r)) hdep 7 32 (by kernel_rfl) (by kernel_rfl)
            clear hdep hsame hi hlate hfr hkeep
            have k1 := KI1.out
            have k2 := KI2.out
            have k3 := KI3.out
            exact .inl ⟨wanted_none rfl, showsO_pure hsn rfl (.pointer (some ⟨base, 2 + k, none⟩)) (by simp only [execOp, Act.eval]; go_simp) rfl⟩
          | 9, hi =>
            cases (show some _ = some o from hi)
            have e29 : NewR (fun x => .pointer (some ⟨x, 0, none⟩)) own u (f.tmps.getD 29 undef) base (u5.heap.size) := depO (V := (VN6 base (u5.heap.size) base k s1 r)) hdep 4 29 (by kernel_rfl) (by kernel_rfl)
            have e33 : (f.tmps.getD 33 undef) = .pointer (some ⟨base, 2 + k, none⟩) := depO (V := (VN6 base (u5.heap.size) base k s1 r)) hdep 8 33 (by kernel_rfl) (by kernel_rfl)
            clear hdep hsame hi hlate hfr hkeep
            obtain ⟨x, ev, hx1, hx2, hx3⟩ := e29
            have e29 := ev
            have hbase := (hkeep8 9 (.inl rfl) base WL6.out (if_pos rfl)).trans HB6.out
            have cst : u.cell? ⟨base, 2 + k, none⟩ = some (pvC r k k) := er_cellAt hbase _ _ (wcC_at s1 r _ _ k KK.out).2
            have fst : u.frozen? ⟨base, 2 + k, none⟩ = false := frozenC hbase _
            have how : own base = some 9 := (hsn.owns base WL6.out).trans (if_pos rfl)
            exact .inl ⟨wanted_none rfl, showsO_storeW rfl (w' := u.setCell ⟨base, 2 + k, none⟩ (.pointer (some ⟨x, 0, none⟩))) (by simp only [execOp, Act.eval]; go_simp) (Rel.keep_ _ 9 hsn (Keep.setCell u _ _) (fun q hq e => by have e2 : q = base := e; rw [e2]; exact how)) ⟨x, (by rw [← wcC_r s1 r (k + 1) k x KK.out]; simp [World.setCell, Array.getElem?_modify, hbase]), how, hx1.kept (Keep.setCell u _ _) (fun e => by have e2 : x = base := e; rw [e2, how] at hx2; cases hx2) (fun j hj => by cases hj), hx2, hx3⟩⟩
          | n + 10, hi => exact absurd hi (by simp)
        · intro f u6 own hsame hsn hall
          have q26 : f.tmps.getD 26 undef = .pointer (some ⟨base, 0, none⟩) := finO (V := (VN6 base (u5.heap.size) base k s1 r)) hall 0 26 rfl
          have q27 : f.tmps.getD 27 undef = .int .i64 (k : Int) := finO (V := (VN6 base (u5.heap.size) base k s1 r)) hall 1 27 rfl
          obtain ⟨x28, q28, -, -, -⟩ := finO (V := (VN6 base (u5.heap.size) base k s1 r)) hall 2 28 rfl
          obtain ⟨x25, q25, -, -, -⟩ := finO (V := (VN6 base (u5.heap.size) base k s1 r)) hall 3 25 rfl
          obtain ⟨x29, q29, -, -, -⟩ := finO (V := (VN6 base (u5.heap.size) base k s1 r)) hall 4 29 rfl
          have q30 : f.tmps.getD 30 undef = .agg #[.int .i64 0, .int .i64 0] := finO (V := (VN6 base (u5.heap.size) base k s1 r)) hall 5 30 rfl
          have q31 : f.tmps.getD 31 undef = .pointer (some ⟨base, 0, none⟩) := finO (V := (VN6 base (u5.heap.size) base k s1 r)) hall 6 31 rfl
          have q32 : f.tmps.getD 32 undef = .pointer (some ⟨base, 2, none⟩) := finO (V := (VN6 base (u5.heap.size) base k s1 r)) hall 7 32 rfl
          have q33 : f.tmps.getD 33 undef = .pointer (some ⟨base, 2 + k, none⟩) := finO (V := (VN6 base (u5.heap.size) base k s1 r)) hall 8 33 rfl
          obtain ST := finN (V := (VN6 base (u5.heap.size) base k s1 r)) hall 9 rfl
          obtain rfl := frame_eq hsame [(26, .pointer (some ⟨base, 0, none⟩)), (27, .int .i64 (k : Int)), (28, (fun x => .tuple #[.pointer (some ⟨x, 0, none⟩), .agg #[.int .i64 0, .int .i64 0]]) x28), (25, (fun x => .tuple #[.pointer (some ⟨x, 0, none⟩), .agg #[.int .i64 0, .int .i64 0]]) x25), (29, (fun x => .pointer (some ⟨x, 0, none⟩)) x29), (30, .agg #[.int .i64 0, .int .i64 0]), (31, .pointer (some ⟨base, 0, none⟩)), (32, .pointer (some ⟨base, 2, none⟩)), (33, .pointer (some ⟨base, 2 + k, none⟩))] (by kernel_rfl) ⟨q26, q27, q28, q25, q29, q30, q31, q32, q33, trivial⟩
          clear hall hsame q26 q27 q28 q25 q29 q30 q31 q32 q33
          simp only [List.foldl, List.setIfInBounds_toArray, List.set_cons_succ, List.set_cons_zero]
          obtain ⟨y, e1, -, hM, -, hyN⟩ := ST
          have k6 : Keep (fun j => j = base) u5 u6 := ⟨hsn.os, hsn.tape, hsn.output, hsn.size, fun q hq hn => hsn.keep q hq (if_neg hn)⟩
          have K6 := Bx.mk k6; have HM6 := Bx.mk hM; have YN := Bx.mk hyN; have HB7 := Bx.mk e1
          have IN6 : Bx (∀ i, i < k → CaXI base u6 (s i) 3 [] (B i) ∧ RfM base u6 (r i) 3 [] (.slice none 0 0)) := ⟨fun i hi => ⟨(IN5.out i hi).1.kept K6.out (fun j hj e => by subst e; exact (IN5.out i hi).1.notT HB6.out (by decide) (by decide) (by decide) hj), (IN5.out i hi).2.kept K6.out (fun e => by
            have h1 := (IN5.out i hi).2.hb
            rw [e, HB6.out] at h1
            injection h1 with h1; injection h1 with _ h1; exact absurd h1 (by decide)) (fun j hj => by cases hj)⟩⟩
          have X6 := Bx.mk (HX5.out.kept K6.out (fun j hj e => by subst e; exact HX5.out.notT HB6.out (by decide) (by decide) (by decide) hj))
          have BL6 := Bx.mk (KB.out.trans ((K5.out.below (B := base) BS.out (fun j e => by rw [e]; exact Nat.le_refl _)).trans (K6.out.below (B := base) BS6.out (fun j e => by rw [e]; exact Nat.le_refl _))))
          have SZ6 := Bx.mk (Nat.lt_of_lt_of_le WL6.out k6.size)
          have cx : u6.cell? ⟨base, k, none⟩ = some (.pointer (some ⟨x, 0, none⟩)) := by
            have h := er_cellAt e1 k _ (wcC_at s1 (updF r k y) (k + 1) (k + 1) k KK.out).1
            rw [h, HS1.out]
            unfold pvC
            rw [if_pos (Nat.lt_succ_self k), updF_at]
          have f1 : (k : Int) < 2 := KI1.out
          have f2 : ¬ (2 : Int) ≤ (k : Int) := KI2.out
          have f3 : (0 : Int) ≤ (k : Int) := KI3.out
          clear hM hyN e1 k6 hsn
          go_wp2_with fail
          go_roundw
          case rel =>
            refine ⟨k + 1, KK.out, (by go_num), BL6.out, SZ6.out, s1, updF r k y, updF B k Bx', HB7.out, fun i hi => ?_, fun i hi j hj hij => ?_⟩
            · by_cases e : i = k
              · subst e
                rw [HS1.out, updF_at, updF_at, updF_at]
                exact ⟨X6.out, HM6.out⟩
              · rw [HS1.out, updF_ne _ _ e, updF_ne _ _ e, updF_ne _ _ e]
                exact IN6.out i (by omega)
            · by_cases e : i = k
              · subst e
                have ej : j ≠ i := fun e => hij e.symm
                have hj' := IN5.out j (by omega)
                rw [updF_at, updF_ne _ _ ej, updF_at, updF_ne _ _ ej]
                refine ⟨fun e => ?_, fun b h1 h2 => ?_⟩
                · have := (Array.getElem?_eq_some_iff.1 hj'.2.hb).1; have := YN.out; omega
                · have := HN5.out b h1; have := (HIN.out j (by omega)).1.lt b h2; omega
              · by_cases e2 : j = k
                · subst e2
                  have hi' := IN5.out i (by omega)
                  rw [updF_at, updF_ne _ _ e, updF_at, updF_ne _ _ e]
                  refine ⟨fun e => ?_, fun b h1 h2 => ?_⟩
                  · have := (Array.getElem?_eq_some_iff.1 hi'.2.hb).1; have := YN.out; omega
                  · have := HN5.out b h2; have := (HIN.out i (by omega)).1.lt b h1; omega
                · rw [updF_ne _ _ e, updF_ne _ _ e2, updF_ne _ _ e, updF_ne _ _ e2]
                  exact HDI.out i (by omega) j (by omega) hij
          case measure => have := KK.out; simp [intOf]; omega
    · have hk2 : k = 2 := by omega
      have f1 : ¬ (k : Int) < 2 := by omega
      have HB : Bx (W5.heap[base]? = some (.cells (wcC s r 2 2) 29 (0, 0))) := ⟨by rw [← hk2]; exact HB.out⟩
      have HIN : Bx (∀ i, i < 2 → CaXI base W5 (s i) 3 [] (B i) ∧ RfM base W5 (r i) 3 [] (.slice none 0 0)) := ⟨by rw [← hk2]; exact HIN.out⟩
      have HDI : Bx (∀ i, i < 2 → ∀ j, j < 2 → i ≠ j → r i ≠ r j ∧ ∀ b, B i b → ¬ B j b) := ⟨by rw [← hk2]; exact HDI.out⟩
      have CW0 : Bx (CWx base W5) := ⟨⟨s, r, fun _ => 3, fun _ => [], B, fun _ => .slice none 0 0, ⟨HB.out, Nat.le_refl _, fun i hi => (HIN.out i hi).1, fun i hi => (HIN.out i hi).2, (HDI.out 0 (by decide) 1 (by decide) (by decide)).2, (HDI.out 0 (by decide) 1 (by decide) (by decide)).1⟩⟩⟩
      have DOES : Bx (∀ u, CWx base u → Below base w u → base ≤ u.heap.size → ∀ kd on key val, kwI key → Calls Tryz.prog 6 #[.pointer (some ⟨base, 0, none⟩), .agg #[.int .i64 kd, .int .i64 on, .int .i64 key, .int .i64 val]] u fun e w' => e = .returned (.bool true) ∧ CWx base w' ∧ Below base u w') := ⟨fun u h hb hs kd on key val hk => cwx_does A h hs (fun u' hu => HE.out u' (hb.trans hu)) kd on key val hk⟩
      clear hk hlt HIN HDI HB hk2
      go_upto_region 9 with (fail)
      clear f1
      go_wp2_with fail
      refine (DOES.out W5 CW0.out KB.out BS.out 4 0 one 0 H1.out).mono ?_
      rintro e u1 ⟨rfl, hc, hb⟩
      have C1 := Bx.mk hc; have K1 := Bx.mk (KB.out.trans hb); have S1 := Bx.mk (Nat.le_trans BS.out hb.size)
      clear hc hb
      go_wp2_with fail
      refine (DOES.out u1 C1.out K1.out S1.out 4 1 two 0 H2.out).mono ?_
      rintro e u2 ⟨rfl, hc, hb⟩
      have C2 := Bx.mk hc; have K2 := Bx.mk (K1.out.trans hb); have S2 := Bx.mk (Nat.le_trans S1.out hb.size)
      clear hc hb
      go_wp2_with fail
      go_loopw [9] (fun iv wr => ∃ t : Nat, t ≤ n ∧ iv = .int .i64 (t : Int) ∧ Below base w wr ∧ base ≤ wr.heap.size ∧ CWx base wr) (fun iv _ => n - (intOf iv).toNat)
      case atStart => exact ⟨0, Nat.zero_le _, rfl, K2.out, S2.out, C2.out⟩
      case round =>
        obtain ⟨t, ht, rfl, hb, hsz, hc⟩ := hrel
        have KT := Bx.mk hb; have ST := Bx.mk hsz; have CT := Bx.mk hc
        clear hb hsz hc
        by_cases hlt : t < n
        · have TL := Bx.mk hlt
          have TE := Bx.mk (show t < us.length by rw [← HN.out]; exact hlt)
          obtain ⟨B0, off, rfl, hB0, hat⟩ := HAT.out (by intro e; have := TE.out; rw [e] at this; cases this)
          obtain ⟨kd, hkd⟩ : ∃ q, q = (us[t]'(TE.out)).kd := ⟨_, rfl⟩
          obtain ⟨on, hon⟩ : ∃ q, q = (us[t]'(TE.out)).on := ⟨_, rfl⟩
          obtain ⟨key, hkey⟩ : ∃ q, q = (us[t]'(TE.out)).key := ⟨_, rfl⟩
          obtain ⟨val, hval⟩ : ∃ q, q = (us[t]'(TE.out)).val := ⟨_, rfl⟩
          have rg := hat t TE.out
          rw [show opcs (us[t]'(TE.out)) = [.int .i64 kd, .int .i64 on, .int .i64 key, .int .i64 val] by rw [hkd, hon, hkey, hval]; rfl] at rg
          have RG : Bx (∀ u, Below base w u → u.rangeAt B0 (off + t * 4) [.int .i64 kd, .int .i64 on, .int .i64 key, .int .i64 val]) := ⟨fun u hu => rangeB rg hB0 (by rw [← HBS.out]; exact hu)⟩
          have KWT : Bx (kwI key) := ⟨by rw [hkey]; exact HKW.out _ (List.getElem_mem _)⟩
          obtain ⟨k, hk, hand⟩ := and1 on
          have HAND := Bx.mk hand; have HK := Bx.mk hk
          have RGW := Bx.mk (RG.out wr KT.out)
          have f1 : (t : Int) < (n : Int) := by omega
          clear hat rg hkd hon hkey hval hlt ht hand hk
          go_wp2_with (guard_target =~ wpList _ _ _ (⟨some 63, _, _, _, _, _⟩ :: _) _ _; refine wpList_load_mid rfl 40 (.tmp 62) rfl B0 (off + t * 4) rfl [.int .i64 kd, .int .i64 on, .int .i64 key, .int .i64 val] _ RGW.out Tryz.underlying40 rfl (by kernel_rfl) ?_; change wpList _ _ _ _ (Act.put _ _ (.agg #[.int .i64 kd, .int .i64 on, .int .i64 key, .int .i64 val])) _)
          refine (DOES.out wr CT.out KT.out ST.out kd on key val KWT.out).mono ?_
          rintro e u3 ⟨rfl, hc, hb⟩
          have C3 := Bx.mk hc; have K3 := Bx.mk (KT.out.trans hb); have S3 := Bx.mk (Nat.le_trans ST.out hb.size)
          have con := RG.out u3 K3.out 1 _ rfl
          have hand := HAND.out
          clear hc hb RGW
          go_wp2_with fail
          refine (cwx_looks C3.out k HK.out).mono ?_
          rintro e u4 ⟨rfl, hb⟩
          have C4 := Bx.mk (cwx_below C3.out hb); have K4 := Bx.mk (K3.out.trans (hb.mono S3.out)); have S4 := Bx.mk (Nat.le_trans S3.out hb.size)
          clear hb con hand f1
          go_wp2_with fail
          go_roundw
          case rel => exact ⟨t + 1, TL.out, (by rw [wrap_succB t (by have := TL.out; have := HC.out.1; have := HC.out.2; unfold maxLen at this; omega)]), K4.out, S4.out, C4.out⟩
          case measure => rw [wrap_succB t (by have := TL.out; have := HC.out.1; have := HC.out.2; unfold maxLen at this; omega)]; have := TL.out; simp [intOf]; omega
        · obtain rfl : t = n := by omega
          have f1 : ¬ (t : Int) < (t : Int) := by omega
          clear ht hlt
          go_wp2_with fail
          refine (cwx_looks CT.out 0 (by decide)).mono ?_
          rintro e u3 ⟨rfl, hb⟩
          have C3 := Bx.mk (cwx_below CT.out hb); have K3 := Bx.mk (KT.out.trans (hb.mono ST.out)); have S3 := Bx.mk (Nat.le_trans ST.out hb.size)
          clear hb f1
          go_wp2_with fail
          refine (cwx_looks C3.out 1 (by decide)).mono ?_
          rintro e u4 ⟨rfl, hb⟩
          have K4 := Bx.mk (K3.out.trans (hb.mono S3.out))
          clear hb
          go_wp2_with fail
          go_ret
          exact ⟨rfl, by rw [← HBS.out]; exact K4.out⟩
end Go.Proofs.YtdepmjgibenejaaGreatDoor.K
