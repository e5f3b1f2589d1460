/- cartularylaw18.VerifyTakes walked. -/
import Derived.Test.YtmlpldkgennmkaaDoorTkC
import Derived.Test.YtmlpldkgennmkaaDoorOwn7
import Derived.Test.YtmlpldkgennmkaaDoorVl
import Derived.Test.YtmlpldkgennmkaaDoorInvU
namespace Go.Proofs.YtmlpldkgennmkaaDoor
set_option maxRecDepth 100000
open Go.RowKit
theorem rootV_path (A : Nat → Addr) (l : List (List UInt8)) (m : Nat) (hm : m < l.length) (hs : l.length ≤ 9223372036854775808) : rootV A m l.length l[m] (pathP m l) = .tuple #[hv (mthP l), .nilIface] := by
  unfold rootV
  rw [if_neg (by omega), if_pos (pathP_len _ l m rfl hm), climb_path _ l m rfl hm]
theorem inclV_path (A : Nat → Addr) (l : List (List UInt8)) (m : Nat) (hm : m < l.length) (hs : l.length ≤ 9223372036854775808) : inclV A m l.length l[m] (pathP m l) (mthP l) = .nilIface := by
  unfold inclV
  rw [if_neg (by omega), if_pos (pathP_len _ l m rfl hm), climb_path _ l m rfl hm, if_pos rfl]
theorem inclV_len (A : Nat → Addr) (l : List (List UInt8)) (m : Nat) (hm : m < l.length) (hs : l.length ≤ 9223372036854775808) (x r : List UInt8) (ps : List (List UInt8)) (hp : ps.length ≠ (pathP m l).length) : inclV A m l.length x ps r = errVal A 9 := by
  unfold inclV
  rw [if_neg (by omega), if_neg (by rw [← pathP_len _ l m rfl hm]; exact hp)]
theorem inclV_range (A : Nat → Addr) (n : Nat) (x r : List UInt8) (ps : List (List UInt8)) : inclV A n n x ps r = errVal A 4 := by
  unfold inclV
  rw [if_pos (by omega)]
theorem nilne (w : World) : (binOp .neq 31 .nilIface .nilIface).run Tryd.prog w = .ok (.bool false) w := by kernel_rfl
theorem run_bs_zero {o : Oper} {a : Act} (w : World) (ho : o.op = .buildSlice 25 0 #[]) : (execOp a.eval o).run Tryd.prog w = .ok (.value (.slice (some ⟨w.heap.size, 0, none⟩) 0 0)) (w.alloc (.cells #[] 24)) := by
  have hr : (Instr.buildSlice 25 0 #[]).run Tryd.prog w = .ok (.slice (some ⟨w.heap.size, 0, none⟩) 0 0) (w.alloc (.cells #[] 24)) := by kernel_rfl
  unfold execOp
  simp only [ho, List.map_toArray, List.map_nil, Sem.run_bind, hr, Result.andThen_ok, Sem.run_pure]
theorem hcells_one {ls : List (List UInt8)} : ∀ u ∈ hcells ls, u.oneCell' = true := by
  intro u hu
  obtain ⟨x, _, hx⟩ := List.mem_flatMap.1 hu
  unfold bcells at hx
  obtain ⟨c, _, rfl⟩ := List.mem_map.1 hx
  rfl
/-- a row of one's own as what is appended -/
theorem own_news {w : World} {base : Nat} {e : TypeId} {size : Nat} {xa : Option Addr} {n c : Nat} {xs : List Value} (h : w.ownsRow base e size (.slice xa n c) n xs) :
    ∀ ad, xa = some ad → ∀ j u, xs[j]? = some u → w.cell? (ad.add j) = some u := by
  rintro ad rfl
  rcases id h.2 with ⟨h0, _⟩ | ⟨g, cap, cur, e1, _⟩
  · cases h0
  · cases e1
    exact h.cells (g := g) rfl
theorem own_nil {w : World} {base : Nat} {e : TypeId} {size : Nat} {xa : Option Addr} {n c : Nat} {xs : List Value} (h : w.ownsRow base e size (.slice xa n c) n xs) : xa = none → c = 0 ∧ n = 0 := by
  obtain ⟨_, _, e, _, _, h⟩ := own_shape h
  cases e
  exact h
/-- a number brought below another -/
theorem round_any (m : Int) (L : Nat) (hL : 0 < L) (hL2 : L ≤ 200) : ∃ (a1 : Int) (M : Nat), m.tmod (L : Int) = a1 ∧ -200 ≤ a1 ∧ a1 ≤ 200 ∧ M < L ∧ (a1 + (L : Int)).tmod (L : Int) = (M : Int) := by
  have h1 : (m.tmod (L : Int)).natAbs < L := by
    rw [Int.natAbs_tmod]
    exact Nat.mod_lt _ (by simpa using hL)
  have hp : 0 ≤ m.tmod (L : Int) + (L : Int) := by omega
  refine ⟨_, ((m.tmod (L : Int) + (L : Int)) % (L : Int)).toNat, rfl, by omega, by omega, ?_, ?_⟩
  · have := Int.emod_lt_of_pos (m.tmod (L : Int) + (L : Int)) (show (0 : Int) < (L : Int) by omega)
    have := Int.emod_nonneg (m.tmod (L : Int) + (L : Int)) (show (L : Int) ≠ 0 by omega)
    omega
  · rw [Int.tmod_eq_emod_of_nonneg hp]
    have := Int.emod_nonneg (m.tmod (L : Int) + (L : Int)) (show (L : Int) ≠ 0 by omega)
    omega
/-- what comes behind the first hash of a slice -/
theorem Hss.rest {w : World} {B off n cap : Nat} {p : List UInt8} {ps : List (List UInt8)} (h : Hss w (.slice (some ⟨B, off, none⟩) n cap) (p :: ps)) :
    ∃ ad2, ((cap = 1 ∧ ad2 = some ⟨B, off, none⟩) ∨ (cap ≠ 1 ∧ ad2 = some ⟨B, off + 32, none⟩)) ∧ Hss w (.slice ad2 ps.length (cap - 1)) ps := by
  by_cases hc : cap = 1
  · refine ⟨_, .inl ⟨hc, rfl⟩, h.tail (fun _ => rfl) _ (fun hn => ?_)⟩
    obtain ⟨_, _, e, h1, _⟩ := h.len
    cases e
    exfalso
    apply hn
    apply List.eq_nil_of_length_eq_zero
    simp at h1
    omega
  · exact ⟨_, .inr ⟨hc, rfl⟩, h.tail (fun _ => rfl) _ (fun _ => rfl)⟩
def VTk9 (Ba : Nat) (off : Nat) (L : Nat) (cap : Nat) (M : Nat) (np : Nat) (c9 : Nat) (a9 : Option Addr) (x : List UInt8) (root : List UInt8) (oi : Nat) (v : Value) (_own : Nat → Option Nat) (_w : World) : Prop :=
  match oi with
  | 0 => v = .nilIface
  | 1 => v = .bool false
  | 2 => v = .bool false
  | 3 => v = .agg (ocells (root))
  | 4 => v = .agg (ocells (root))
  | 5 => v = .bool false
  | 6 => v = .bool false
  | 7 => v = .bool false
  | 8 => v = .int .i64 (M : Int)
  | 9 => v = .int .u64 (M : Int)
  | 10 => v = .int .i64 (L : Int)
  | 11 => v = .int .u64 (L : Int)
  | 12 => v = .slice (some ⟨Ba, off, none⟩) L cap
  | 13 => v = .int .i64 (M : Int)
  | 14 => v = .pointer (some ⟨Ba, off + M * 32, none⟩)
  | 15 => v = .agg (ocells (x))
  | 16 => v = .slice a9 np c9
  | 17 => v = .agg (ocells (root))
  | 18 => v = .nilIface
  | 19 => v = .bool false
  | 20 => v = .bool false
  | _ => True
def VTk9mk : Nat → Option Nat := fun _ => none
theorem VTk9_mono (Ba : Nat) (off : Nat) (L : Nat) (cap : Nat) (M : Nat) (np : Nat) (c9 : Nat) (a9 : Option Addr) (x : List UInt8) (root : List UInt8) (oi oj : Nat) (v : Value) (own : Nat → Option Nat) (w : World) (own' : Nat → Option Nat) (w' : World) (hij : oi ≠ oj)   (h : VTk9 Ba off L cap M np c9 a9 x root oj v own w) (_r : Rel VTk9mk oi own w own' w') : VTk9 Ba off L cap M np c9 a9 x root oj v own' w' := by
  unfold VTk9 at h ⊢
  split at h
  · exact h
  · exact h
  · exact h
  · exact h
  · exact h
  · exact h
  · exact h
  · exact h
  · exact h
  · exact h
  · exact h
  · exact h
  · exact h
  · exact h
  · exact h
  · exact h
  · exact h
  · exact h
  · exact h
  · exact h
  · exact h
  · trivial

def VTk11 (np : Nat) (c9 : Nat) (a9 : Option Addr) (root : List UInt8) (P : List (List UInt8)) (oi : Nat) (v : Value) (own : Nat → Option Nat) (w : World) : Prop :=
  match oi with
  | 0 => BuiltV own w v 0 24 #[]
  | 1 => v = .slice a9 np c9
  | 2 => RowC own w v 5 0 24 32 np (hcells P)
  | 3 => v = .agg (ocells (root))
  | 4 => BuiltV own w v 1 24 (ocells root)
  | 5 => GrownV own w 5 0 24 32 v (np + 1) (hcells P ++ (ocells root).toList)
  | 6 => GrownV own w 5 0 24 32 v (np + 1) (hcells P ++ (ocells root).toList)
  | _ => True
def VTk11mk : Nat → Option Nat := fun j => match j with | 5 => some 2 | _ => none
def VTk11till : Nat → Option Nat := fun j => match j with | 2 => some 5 | _ => none
theorem VTk11_mono (np : Nat) (c9 : Nat) (a9 : Option Addr) (root : List UInt8) (P : List (List UInt8)) (oi oj : Nat) (v : Value) (own : Nat → Option Nat) (w : World) (own' : Nat → Option Nat) (w' : World) (hij : oi ≠ oj)  (ht : VTk11till oj ≠ some oi) (hx0 : oi = 5 → oj = 6 → False) (h : VTk11 np c9 a9 root P oj v own w) (r : Rel VTk11mk oi own w own' w') : VTk11 np c9 a9 root P oj v own' w' := by
  unfold VTk11 at h ⊢
  split at h
  · exact h.stable r
  · exact h
  · exact h.stable r (fun e => ht (by rw [e]; rfl))
  · exact h
  · exact h.stable r
  · exact h.stable r hij
  · exact h.stable r (fun e => hx0 e rfl)
  · trivial

def VTk12n (Ba : Nat) (off : Nat) (L : Nat) (cap : Nat) (M : Nat) (nm : Nat) (c9 : Nat) (cm : Nat) (a9 : Option Addr) (am : Option Addr) (x : List UInt8) (root : List UInt8) (A : Nat → Addr) (oi : Nat) (v : Value) (_own : Nat → Option Nat) (_w : World) : Prop :=
  match oi with
  | 0 => v = .int .i64 (M : Int)
  | 1 => v = .int .u64 (M : Int)
  | 2 => v = .int .i64 (L : Int)
  | 3 => v = .int .u64 (L : Int)
  | 4 => v = .slice (some ⟨Ba, off, none⟩) L cap
  | 5 => v = .int .i64 (M : Int)
  | 6 => v = .pointer (some ⟨Ba, off + M * 32, none⟩)
  | 7 => v = .agg (ocells (x))
  | 8 => v = .slice am nm cm
  | 9 => v = .agg (ocells (root))
  | 10 => v = errVal A 9
  | 11 => v = .bool true
  | 12 => v = .bool false
  | 13 => v = .bool false
  | 14 => v = .slice a9 0 c9
  | 15 => v = .int .i64 0
  | 16 => v = .bool false
  | 17 => v = .bool false
  | 18 => v = undef
  | 19 => v = undef
  | 20 => v = undef
  | 21 => v = undef
  | 22 => v = undef
  | 23 => v = undef
  | 24 => v = undef
  | 25 => v = undef
  | 26 => v = undef
  | 27 => v = undef
  | 28 => v = undef
  | 29 => v = undef
  | 30 => v = undef
  | 31 => v = undef
  | 32 => v = .bool false
  | 33 => v = .bool false
  | _ => True
def VTk12nmk : Nat → Option Nat := fun _ => none
theorem VTk12n_mono (Ba : Nat) (off : Nat) (L : Nat) (cap : Nat) (M : Nat) (nm : Nat) (c9 : Nat) (cm : Nat) (a9 : Option Addr) (am : Option Addr) (x : List UInt8) (root : List UInt8) (A : Nat → Addr) (oi oj : Nat) (v : Value) (own : Nat → Option Nat) (w : World) (own' : Nat → Option Nat) (w' : World) (hij : oi ≠ oj)   (h : VTk12n Ba off L cap M nm c9 cm a9 am x root A oj v own w) (_r : Rel VTk12nmk oi own w own' w') : VTk12n Ba off L cap M nm c9 cm a9 am x root A oj v own' w' := by
  unfold VTk12n at h ⊢
  split at h
  · exact h
  · exact h
  · exact h
  · exact h
  · exact h
  · exact h
  · exact h
  · exact h
  · exact h
  · exact h
  · exact h
  · exact h
  · exact h
  · exact h
  · exact h
  · exact h
  · exact h
  · exact h
  · exact h
  · exact h
  · exact h
  · exact h
  · exact h
  · exact h
  · exact h
  · exact h
  · exact h
  · exact h
  · exact h
  · exact h
  · exact h
  · exact h
  · exact h
  · exact h
  · trivial

def VTk12s (Ba : Nat) (off : Nat) (L : Nat) (cap : Nat) (M : Nat) (nm : Nat) (c9 : Nat) (cm : Nat) (lp : Nat) (B9 : Nat) (o9 : Nat) (am : Option Addr) (ad2 : Option Addr) (x : List UInt8) (root : List UInt8) (A : Nat → Addr) (oi : Nat) (v : Value) (_own : Nat → Option Nat) (_w : World) : Prop :=
  match oi with
  | 0 => v = .int .i64 (M : Int)
  | 1 => v = .int .u64 (M : Int)
  | 2 => v = .int .i64 (L : Int)
  | 3 => v = .int .u64 (L : Int)
  | 4 => v = .slice (some ⟨Ba, off, none⟩) L cap
  | 5 => v = .int .i64 (M : Int)
  | 6 => v = .pointer (some ⟨Ba, off + M * 32, none⟩)
  | 7 => v = .agg (ocells (x))
  | 8 => v = .slice am nm cm
  | 9 => v = .agg (ocells (root))
  | 10 => v = errVal A 9
  | 11 => v = .bool true
  | 12 => v = .bool false
  | 13 => v = .bool false
  | 14 => v = .slice (some ⟨B9, o9, none⟩) (lp + 1) c9
  | 15 => v = .int .i64 ((lp : Int) + 1)
  | 16 => v = .bool true
  | 17 => v = .bool true
  | 18 => v = .int .i64 (M : Int)
  | 19 => v = .int .u64 (M : Int)
  | 20 => v = .int .i64 (L : Int)
  | 21 => v = .int .u64 (L : Int)
  | 22 => v = .slice (some ⟨Ba, off, none⟩) L cap
  | 23 => v = .int .i64 (M : Int)
  | 24 => v = .pointer (some ⟨Ba, off + M * 32, none⟩)
  | 25 => v = .agg (ocells (x))
  | 26 => v = .slice (some ⟨B9, o9, none⟩) (lp + 1) c9
  | 27 => v = .slice ad2 lp (c9 - 1)
  | 28 => v = .agg (ocells (root))
  | 29 => v = errVal A 9
  | 30 => v = .bool true
  | 31 => v = .bool false
  | 32 => v = .bool false
  | 33 => v = .bool false
  | _ => True
def VTk12smk : Nat → Option Nat := fun _ => none
theorem VTk12s_mono (Ba : Nat) (off : Nat) (L : Nat) (cap : Nat) (M : Nat) (nm : Nat) (c9 : Nat) (cm : Nat) (lp : Nat) (B9 : Nat) (o9 : Nat) (am : Option Addr) (ad2 : Option Addr) (x : List UInt8) (root : List UInt8) (A : Nat → Addr) (oi oj : Nat) (v : Value) (own : Nat → Option Nat) (w : World) (own' : Nat → Option Nat) (w' : World) (hij : oi ≠ oj)   (h : VTk12s Ba off L cap M nm c9 cm lp B9 o9 am ad2 x root A oj v own w) (_r : Rel VTk12smk oi own w own' w') : VTk12s Ba off L cap M nm c9 cm lp B9 o9 am ad2 x root A oj v own' w' := by
  unfold VTk12s at h ⊢
  split at h
  · exact h
  · exact h
  · exact h
  · exact h
  · exact h
  · exact h
  · exact h
  · exact h
  · exact h
  · exact h
  · exact h
  · exact h
  · exact h
  · exact h
  · exact h
  · exact h
  · exact h
  · exact h
  · exact h
  · exact h
  · exact h
  · exact h
  · exact h
  · exact h
  · exact h
  · exact h
  · exact h
  · exact h
  · exact h
  · exact h
  · exact h
  · exact h
  · exact h
  · exact h
  · trivial

def VTk18 (nq : Nat) (c13 : Nat) (a13 : Option Addr) (root : List UInt8) (Q : List (List UInt8)) (oi : Nat) (v : Value) (own : Nat → Option Nat) (w : World) : Prop :=
  match oi with
  | 0 => BuiltV own w v 0 24 #[]
  | 1 => v = .slice a13 nq c13
  | 2 => RowC own w v 5 0 24 32 nq (hcells Q)
  | 3 => v = .agg (ocells (root))
  | 4 => BuiltV own w v 1 24 (ocells root)
  | 5 => GrownV own w 5 0 24 32 v (nq + 1) (hcells Q ++ (ocells root).toList)
  | 6 => GrownV own w 5 0 24 32 v (nq + 1) (hcells Q ++ (ocells root).toList)
  | _ => True
def VTk18mk : Nat → Option Nat := fun j => match j with | 5 => some 2 | _ => none
def VTk18till : Nat → Option Nat := fun j => match j with | 2 => some 5 | _ => none
theorem VTk18_mono (nq : Nat) (c13 : Nat) (a13 : Option Addr) (root : List UInt8) (Q : List (List UInt8)) (oi oj : Nat) (v : Value) (own : Nat → Option Nat) (w : World) (own' : Nat → Option Nat) (w' : World) (hij : oi ≠ oj)  (ht : VTk18till oj ≠ some oi) (hx0 : oi = 5 → oj = 6 → False) (h : VTk18 nq c13 a13 root Q oj v own w) (r : Rel VTk18mk oi own w own' w') : VTk18 nq c13 a13 root Q oj v own' w' := by
  unfold VTk18 at h ⊢
  split at h
  · exact h.stable r
  · exact h
  · exact h.stable r (fun e => ht (by rw [e]; rfl))
  · exact h
  · exact h.stable r
  · exact h.stable r hij
  · exact h.stable r (fun e => hx0 e rfl)
  · trivial

def VTk19n (L : Nat) (O : Nat) (nm : Nat) (cm : Nat) (c13 : Nat) (am : Option Addr) (a13 : Option Addr) (root : List UInt8) (old : List UInt8) (A : Nat → Addr) (oi : Nat) (v : Value) (_own : Nat → Option Nat) (_w : World) : Prop :=
  match oi with
  | 0 => v = .int .i64 (O : Int)
  | 1 => v = .int .u64 (O : Int)
  | 2 => v = .int .i64 (L : Int)
  | 3 => v = .int .u64 (L : Int)
  | 4 => v = .agg (ocells (old))
  | 5 => v = .agg (ocells (root))
  | 6 => v = .slice am nm cm
  | 7 => v = errVal A 9
  | 8 => v = .bool true
  | 9 => v = .bool false
  | 10 => v = .bool false
  | 11 => v = .slice a13 0 c13
  | 12 => v = .int .i64 0
  | 13 => v = .bool false
  | 14 => v = .bool false
  | 15 => v = undef
  | 16 => v = undef
  | 17 => v = undef
  | 18 => v = undef
  | 19 => v = undef
  | 20 => v = undef
  | 21 => v = undef
  | 22 => v = undef
  | 23 => v = undef
  | 24 => v = undef
  | 25 => v = undef
  | 26 => v = .bool false
  | 27 => v = .bool false
  | _ => True
def VTk19nmk : Nat → Option Nat := fun _ => none
theorem VTk19n_mono (L : Nat) (O : Nat) (nm : Nat) (cm : Nat) (c13 : Nat) (am : Option Addr) (a13 : Option Addr) (root : List UInt8) (old : List UInt8) (A : Nat → Addr) (oi oj : Nat) (v : Value) (own : Nat → Option Nat) (w : World) (own' : Nat → Option Nat) (w' : World) (hij : oi ≠ oj)   (h : VTk19n L O nm cm c13 am a13 root old A oj v own w) (_r : Rel VTk19nmk oi own w own' w') : VTk19n L O nm cm c13 am a13 root old A oj v own' w' := by
  unfold VTk19n at h ⊢
  split at h
  · exact h
  · exact h
  · exact h
  · exact h
  · exact h
  · exact h
  · exact h
  · exact h
  · exact h
  · exact h
  · exact h
  · exact h
  · exact h
  · exact h
  · exact h
  · exact h
  · exact h
  · exact h
  · exact h
  · exact h
  · exact h
  · exact h
  · exact h
  · exact h
  · exact h
  · exact h
  · exact h
  · exact h
  · trivial

def VTk19s (L : Nat) (O : Nat) (nm : Nat) (cm : Nat) (c13 : Nat) (lp : Nat) (B9 : Nat) (o9 : Nat) (am : Option Addr) (ad2 : Option Addr) (root : List UInt8) (old : List UInt8) (A : Nat → Addr) (oi : Nat) (v : Value) (_own : Nat → Option Nat) (_w : World) : Prop :=
  match oi with
  | 0 => v = .int .i64 (O : Int)
  | 1 => v = .int .u64 (O : Int)
  | 2 => v = .int .i64 (L : Int)
  | 3 => v = .int .u64 (L : Int)
  | 4 => v = .agg (ocells (old))
  | 5 => v = .agg (ocells (root))
  | 6 => v = .slice am nm cm
  | 7 => v = errVal A 9
  | 8 => v = .bool true
  | 9 => v = .bool false
  | 10 => v = .bool false
  | 11 => v = .slice (some ⟨B9, o9, none⟩) (lp + 1) c13
  | 12 => v = .int .i64 ((lp : Int) + 1)
  | 13 => v = .bool true
  | 14 => v = .bool true
  | 15 => v = .int .i64 (O : Int)
  | 16 => v = .int .u64 (O : Int)
  | 17 => v = .int .i64 (L : Int)
  | 18 => v = .int .u64 (L : Int)
  | 19 => v = .agg (ocells (old))
  | 20 => v = .agg (ocells (root))
  | 21 => v = .slice (some ⟨B9, o9, none⟩) (lp + 1) c13
  | 22 => v = .slice ad2 lp (c13 - 1)
  | 23 => v = errVal A 9
  | 24 => v = .bool true
  | 25 => v = .bool false
  | 26 => v = .bool false
  | 27 => v = .bool false
  | _ => True
def VTk19smk : Nat → Option Nat := fun _ => none
theorem VTk19s_mono (L : Nat) (O : Nat) (nm : Nat) (cm : Nat) (c13 : Nat) (lp : Nat) (B9 : Nat) (o9 : Nat) (am : Option Addr) (ad2 : Option Addr) (root : List UInt8) (old : List UInt8) (A : Nat → Addr) (oi oj : Nat) (v : Value) (own : Nat → Option Nat) (w : World) (own' : Nat → Option Nat) (w' : World) (hij : oi ≠ oj)   (h : VTk19s L O nm cm c13 lp B9 o9 am ad2 root old A oj v own w) (_r : Rel VTk19smk oi own w own' w') : VTk19s L O nm cm c13 lp B9 o9 am ad2 root old A oj v own' w' := by
  unfold VTk19s at h ⊢
  split at h
  · exact h
  · exact h
  · exact h
  · exact h
  · exact h
  · exact h
  · exact h
  · exact h
  · exact h
  · exact h
  · exact h
  · exact h
  · exact h
  · exact h
  · exact h
  · exact h
  · exact h
  · exact h
  · exact h
  · exact h
  · exact h
  · exact h
  · exact h
  · exact h
  · exact h
  · exact h
  · exact h
  · exact h
  · trivial

def VTk21 (Ba : Nat) (off : Nat) (L : Nat) (cap : Nat) (M : Nat) (np : Nat) (nq : Nat) (c9 : Nat) (c13 : Nat) (a9 : Option Addr) (a13 : Option Addr) (x : List UInt8) (root : List UInt8) (old : List UInt8) (A : Nat → Addr) (oi : Nat) (v : Value) (_own : Nat → Option Nat) (_w : World) : Prop :=
  match oi with
  | 0 => v = .int .i64 (L : Int)
  | 1 => v = .int .u64 (L : Int)
  | 2 => v = .int .i64 (L : Int)
  | 3 => v = .int .u64 (L : Int)
  | 4 => v = .slice (some ⟨Ba, off, none⟩) L cap
  | 5 => v = .int .i64 (M : Int)
  | 6 => v = .pointer (some ⟨Ba, off + M * 32, none⟩)
  | 7 => v = .agg (ocells (x))
  | 8 => v = .slice a9 np c9
  | 9 => v = .agg (ocells (root))
  | 10 => v = errVal A 4
  | 11 => v = .bool true
  | 12 => v = .bool true
  | 13 => v = .int .i64 (L : Int)
  | 14 => v = .int .u64 (L : Int)
  | 15 => v = .int .u64 ((L + 1 : Nat) : Int)
  | 16 => v = .int .i64 (L : Int)
  | 17 => v = .int .u64 (L : Int)
  | 18 => v = .agg (ocells (old))
  | 19 => v = .agg (ocells (root))
  | 20 => v = .slice a13 nq c13
  | 21 => v = errVal A 4
  | 22 => v = .bool true
  | 23 => v = .bool true
  | 24 => v = .bool true
  | 25 => v = .bool true
  | 26 => v = .bool true
  | 27 => v = .bool true
  | _ => True
def VTk21mk : Nat → Option Nat := fun _ => none
theorem VTk21_mono (Ba : Nat) (off : Nat) (L : Nat) (cap : Nat) (M : Nat) (np : Nat) (nq : Nat) (c9 : Nat) (c13 : Nat) (a9 : Option Addr) (a13 : Option Addr) (x : List UInt8) (root : List UInt8) (old : List UInt8) (A : Nat → Addr) (oi oj : Nat) (v : Value) (own : Nat → Option Nat) (w : World) (own' : Nat → Option Nat) (w' : World) (hij : oi ≠ oj)   (h : VTk21 Ba off L cap M np nq c9 c13 a9 a13 x root old A oj v own w) (_r : Rel VTk21mk oi own w own' w') : VTk21 Ba off L cap M np nq c9 c13 a9 a13 x root old A oj v own' w' := by
  unfold VTk21 at h ⊢
  split at h
  · exact h
  · exact h
  · exact h
  · exact h
  · exact h
  · exact h
  · exact h
  · exact h
  · exact h
  · exact h
  · exact h
  · exact h
  · exact h
  · exact h
  · exact h
  · exact h
  · exact h
  · exact h
  · exact h
  · exact h
  · exact h
  · exact h
  · exact h
  · exact h
  · exact h
  · exact h
  · exact h
  · exact h
  · trivial

set_option maxHeartbeats 12800000 in
theorem takes_any (A : Nat → Addr) (w : World) (ad : Option Addr) (n cap : Nat) (l : List (List UInt8)) (hH : Hss w (.slice ad n cap) l) (mi oi : Int) (hT : Hs A w) :
    Calls Tryd.prog 7 #[.slice ad n cap, .int .i64 mi, .int .i64 oi] w fun e w' => e = .returned (.bool true) ∧ Below w.heap.size w w' := by
  obtain ⟨_, c', e1, hc1, hc2⟩ := hH.len
  have hcc : cap = c' := by cases e1; rfl
  subst hcc
  have hn : n = l.length := by cases e1; rfl
  subst hn
  obtain ⟨i0, hi, hz0, hz1, hz2⟩ := info_parts infoHh
  have RI := Bx.mk (And.intro hi (And.intro hz0 (And.intro hz1 hz2)))
  obtain ⟨L, hL⟩ : ∃ L, L = l.length := ⟨_, rfl⟩
  rw [← hL] at hH hc1 ⊢
  have HHS := Bx.mk hH; have HT := Bx.mk hT; have LC := Bx.mk hc1; have CM := Bx.mk hc2; have HLM := Bx.mk hL
  clear e1 hH hT hc1 hc2 hi hz0 hz1 hz2 hL
  go_enter Tryd.func7, Tryd.ntmps7
  by_cases hl0 : L = 0
  · subst hl0
    go_wp2_with fail
    refine (alive_any A _ (HT.out.below (Below.refl w.heap.size w))).mono ?_
    rintro e wz ⟨rfl, hb⟩
    go_wp2_with fail
    exact bodyPost_ret (results_tmp rfl _ _ _) rfl ⟨rfl, (Below.refl w.heap.size w).trans (hb.mono (Below.refl w.heap.size w).size)⟩
  have f0 : ¬ (L : Int) = 0 := by omega
  have f0' : ((L : Int) == 0) = false := beq_eq_false_iff_ne.2 f0
  have f0n : (L == 0) = false := beq_eq_false_iff_ne.2 hl0
  by_cases hl2 : 200 < L
  · have f1 : (200 : Int) < (L : Int) := by omega
    go_wp2_with fail
    refine (alive_any A _ (HT.out.below (Below.refl w.heap.size w))).mono ?_
    rintro e wz ⟨rfl, hb⟩
    go_wp2_with fail
    exact bodyPost_ret (results_tmp rfl _ _ _) rfl ⟨rfl, (Below.refl w.heap.size w).trans (hb.mono (Below.refl w.heap.size w).size)⟩
  have f1 : ¬ (200 : Int) < (L : Int) := by omega
  obtain ⟨a1, M, hM1, hM2, hM3, hM4, hM5⟩ := round_any mi L (by omega) (by omega)
  obtain ⟨a2, O', hO1, hO2, hO3, hO4, hO5⟩ := round_any oi L (by omega) (by omega)
  obtain ⟨O, hO⟩ : ∃ O, O = O' + 1 := ⟨_, rfl⟩
  have d1 : IntKind.i64.wrap (a1 + (L : Int)) = a1 + (L : Int) := by simp [IntKind.wrap, IntKind.bits, IntKind.signed]; omega
  have d2 : IntKind.i64.wrap (a2 + (L : Int)) = a2 + (L : Int) := by simp [IntKind.wrap, IntKind.bits, IntKind.signed]; omega
  have d3 : IntKind.i64.wrap ((O' : Int) + 1) = (O : Int) := by simp [IntKind.wrap, IntKind.bits, IntKind.signed]; omega
  have ML := Bx.mk hM4; have OB := Bx.mk (show 0 < O ∧ O ≤ L by omega); have L2 := Bx.mk (show 1 ≤ L ∧ L ≤ 200 by omega)
  have uM := Bx.mk (show IntKind.u64.wrap (M : Int) = (M : Int) by simp [IntKind.wrap, IntKind.bits, IntKind.signed]; omega)
  have uL := Bx.mk (show IntKind.u64.wrap (L : Int) = (L : Int) by simp [IntKind.wrap, IntKind.bits, IntKind.signed]; omega)
  have uO := Bx.mk (show IntKind.u64.wrap (O : Int) = (O : Int) by simp [IntKind.wrap, IntKind.bits, IntKind.signed]; omega)
  have uL1 := Bx.mk (show IntKind.u64.wrap ((L : Int) + 1) = ((L + 1 : Nat) : Int) by simp [IntKind.wrap, IntKind.bits, IntKind.signed]; omega)
  clear hM2 hM3 hM4 hO2 hO3 hO4 hO hl2
  go_upto_region 6 with (fail)
  clear d1 d2 d3 hM1 hM5 hO1 hO5 f0 f0' f0n f1 hl0
  obtain ⟨hj1, hj2, hj3, Ba, off, rfl, hBl, hr, hx32⟩ := HHS.out.at M (by rw [← HLM.out]; exact ML.out)
  clear hj1 hj2 hj3
  have hml : M < l.length := by rw [← HLM.out]; exact ML.out
  have rv := rootV_path A l M hml (by have := L2.out; rw [← HLM.out]; omega)
  have iv := inclV_path A l M hml (by have := L2.out; rw [← HLM.out]; omega)
  have im := fun x ps h => inclV_len A l M hml (by have := L2.out; rw [← HLM.out]; omega) x (mthP l) ps h
  have cv := consV_sub A l O OB.out.1 (by rw [← HLM.out]; exact OB.out.2) (by have := L2.out; rw [← HLM.out]; omega)
  have cm := fun ps h => consV_len A l O OB.out.1 (by rw [← HLM.out]; exact OB.out.2) (by have := L2.out; rw [← HLM.out]; omega) ps h (mthP (l.take O)) (mthP l)
  have np0 := pathP_40 (m := M) (l := l) rfl hml (by have := L2.out; rw [← HLM.out]; omega)
  have nq0 := subP_40 (o := O) (l := l) (b := true) rfl OB.out.1 (by rw [← HLM.out]; exact OB.out.2) (by have := L2.out; rw [← HLM.out]; omega)
  have p32 := pathP_32 _ l M rfl HHS.out.1
  have q32 := subP_32 _ l O true rfl HHS.out.1
  have htk := HHS.out.take O (by rw [← HLM.out]; exact OB.out.2)
  have htl : (l.take O).length = O := by rw [List.length_take, ← HLM.out]; have := OB.out.2; omega
  have r32 := mthP_length _ _ (Nat.le_refl _) HHS.out.1
  have o32 := mthP_length _ _ (Nat.le_refl _) htk.1
  have c6 := mth_any A L w (some ⟨Ba, off, none⟩) L cap l HLM.out.symm L2.out.1 (by have := L2.out; omega) HHS.out HT.out
  have c7 : ∀ u, Below w.heap.size w u → _ := fun u hu => path_any A L u M (some ⟨Ba, off, none⟩) L cap l HLM.out.symm ML.out (by have := L2.out; omega) (HHS.out.below hu) (HT.out.below hu)
  have c14 : ∀ u, Below w.heap.size w u → _ := fun u hu => sub18_any A L u O true (some ⟨Ba, off, none⟩) L cap l HLM.out.symm OB.out.1 OB.out.2 (by have := L2.out; omega) (HHS.out.below hu) (HT.out.below hu)
  have c15 : ∀ u, Below w.heap.size w u → _ := fun u hu => mth_any A O u (some ⟨Ba, off, none⟩) O cap (l.take O) htl OB.out.1 (by have := L2.out; have := OB.out; omega) (htk.below hu) (HT.out.below hu)
  rw [← HLM.out] at rv iv cv im cm
  obtain ⟨x, hx⟩ : ∃ x, x = l[M] := ⟨_, rfl⟩
  rw [← hx] at rv iv hr hx32
  obtain ⟨root, hroot⟩ : ∃ x, x = mthP l := ⟨_, rfl⟩
  obtain ⟨old, hold⟩ : ∃ x, x = mthP (l.take O) := ⟨_, rfl⟩
  obtain ⟨P, hP⟩ : ∃ x, x = pathP M l := ⟨_, rfl⟩
  obtain ⟨Q, hQ⟩ : ∃ x, x = subP O l true := ⟨_, rfl⟩
  rw [← hroot] at rv iv im cv cm r32 c6
  rw [← hold] at cv cm o32 c15
  rw [← hP] at rv iv im np0 p32 c7
  rw [← hQ] at cv cm nq0 q32 c14
  rw [hv_agg] at c6 rv
  simp only [hv_agg] at c15
  have RV := Bx.mk rv; have IV := Bx.mk iv; have IMF := Bx.mk im; have CV := Bx.mk cv; have CMF := Bx.mk cm; have NP0 := Bx.mk np0; have NQ0 := Bx.mk nq0; have P32 := Bx.mk p32; have Q32 := Bx.mk q32; have RL := Bx.mk r32; have OL := Bx.mk o32; have XL := Bx.mk hx32; have RX := Bx.mk hr; have BLT := Bx.mk hBl; have C6 := Bx.mk c6; have C7 := Bx.mk c7; have C14 := Bx.mk c14; have C15 := Bx.mk c15
  have UM := uM; have UL := uL; have UO := uO; have UL1 := uL1
  clear rv iv im cv cm np0 nq0 p32 q32 htk htl r32 o32 c6 c7 c14 c15 hx hroot hold hP hQ hx32 hr hBl hml uM uL uO uL1
  go_wp2_with fail
  refine C6.out.mono ?_
  rintro e w1 ⟨rfl, hb⟩
  have K0 := Bx.mk hb
  clear hb C6
  go_upto_region 7 with (guard_target =~ wpList _ _ _ (⟨none, _, _, _, _, _⟩ :: _) _ _; refine wpList_store_row rfl 24 (.tmp 8) (.tmp 40) rfl w1.heap.size (ocells root) rfl rfl _ zeros32 (heap_alloc_new _ _) (hszL RL.out) (hsoL RL.out) (ocells_one _) ?_; rw [setRow_alloc_new _ _ _ _ _ rfl])
  have xn := HashAt.new w1 root RL.out
  have hb := er_al (Below.refl w1.heap.size w1) (.cells (ocells root) 24)
  generalize w1.alloc (.cells (ocells root) 24) = W1 at xn hb ⊢
  obtain ⟨n8, hn⟩ : ∃ n, n = w1.heap.size := ⟨_, rfl⟩
  rw [← hn] at xn ⊢
  have RO0 := Bx.mk xn
  clear xn hn
  have K1 := Bx.mk (K0.out.trans (hb.mono K0.out.size))
  clear hb K0
  go_wp2_with fail
  refine (C7.out W1 K1.out).mono ?_
  rintro e w2 ⟨v9, rfl, hop, hb⟩
  obtain ⟨a9, c9, rfl, q1, q2, q3⟩ := own_shape hop
  have hhp := hss_own hop P32.out rfl
  obtain ⟨np, hnp⟩ : ∃ np, np = P.length := ⟨_, rfl⟩
  rw [← hnp] at hop hhp NP0 ⊢
  have OP0 := Bx.mk hop; have HP0 := Bx.mk hhp; have HNP := Bx.mk hnp
  clear hop hhp q1 q2 q3 C7 hnp
  have K2 := Bx.mk (K1.out.trans (hb.mono K1.out.size)); have RO1 := Bx.mk (RO0.out.below hb)
  clear hb K1 RO0
  have f1 : ¬ (L : Int) ≤ (M : Int) := by have := ML.out; omega
  have f2 : (M : Int) < (L : Int) := by have := ML.out; omega
  have c8 := root_any A w2 M L (by have := ML.out; have := L2.out; omega) (by have := L2.out; omega) x XL.out _ _ _ P HP0.out (HT.out.below K2.out)
  rw [hv_agg, RV.out] at c8
  have d1 := UM.out; have d2 := UL.out
  have RX2 := Bx.mk (rangeAt_below RX.out BLT.out K2.out)
  have C8 := Bx.mk c8
  clear c8
  go_wp2_with (guard_target =~ wpList _ _ _ (⟨some 52, _, _, _, _, _⟩ :: _) _ _; refine wpList_load_mid_w (by simp [Region.wanted]) 24 (.tmp 51) rfl Ba (off + M * 32) rfl (bcells x) _ RX2.out underH rfl (hszB' XL.out) ?_; change wpList _ _ _ _ (Act.put _ _ (.agg (ocells x))) _)
  refine C8.out.mono ?_
  rintro e w3 ⟨rfl, hb⟩
  clear C8 RX2 d1 d2 f1 f2
  have K3 := Bx.mk (K2.out.trans (hb.mono K2.out.size)); have RO2 := Bx.mk (RO1.out.below hb); have OP1 := Bx.mk (own_keep OP0.out (Keep.of_below hb (fun _ => False)) (fun _ _ h => h)); have HP1 := Bx.mk (HP0.out.below hb)
  clear hb K2 RO1 OP0 HP0
  go_upto_region 9 with (guard_target =~ wpList _ _ _ (⟨none, _, _, _, _, _⟩ :: _) _ _; refine wpList_store_row rfl 24 (.tmp 10) (.tmp 55) rfl w3.heap.size (ocells root) rfl rfl _ zeros32 (heap_alloc_new _ _) (hszL RL.out) (hsoL RL.out) (ocells_one _) ?_; rw [setRow_alloc_new _ _ _ _ _ rfl])
  have xn := HashAt.new w3 root RL.out
  have hb := er_al (Below.refl w3.heap.size w3) (.cells (ocells root) 24)
  generalize w3.alloc (.cells (ocells root) 24) = W3 at xn hb ⊢
  obtain ⟨n10, hn⟩ : ∃ n, n = w3.heap.size := ⟨_, rfl⟩
  rw [← hn] at xn ⊢
  have GO0 := Bx.mk xn
  clear xn hn
  have K4 := Bx.mk (K3.out.trans (hb.mono K3.out.size)); have RO3 := Bx.mk (RO2.out.below hb); have OP2 := Bx.mk (own_keep OP1.out (Keep.of_below hb (fun _ => False)) (fun _ _ h => h)); have HP2 := Bx.mk (HP1.out.below hb)
  clear hb K3 RO2 OP1 HP1
  refine wp_region_own4 (n := 195) VTk9mk (fun _ => none) (VTk9 Ba off L cap M np c9 a9 x root) (by kernel_rfl) (by kernel_rfl) rfl (fun _ _ => rfl) (fun j i hj _ => by cases hj) ?_ ?_ ?_
  · exact fun oi oj v own w own' w' hij _ h r => VTk9_mono Ba off L cap M np c9 a9 x root oi oj v own w own' w' hij h r
  · intro oi o hi f u own hsame hsn hfr hlate hkeep hdep
    have hb6 := hsn.below (B := W3.heap.size) (fun _ _ => rfl) (Nat.le_refl _)
    have hku := K4.out.trans (hb6.mono K4.out.size)
    have hr := rangeAt_below RX.out BLT.out hku
    have hro := (RO3.out.below hb6).1
    have hgo := (GO0.out.below hb6).1
    match oi, hi with
    | 0, hi =>
      cases (show some _ = some o from hi)
      have e11 : f.tmps.getD 11 undef = .nilIface := hsame.slot 11 (fun i o h => invB2_not 11 (by kernel_rfl) h)
      clear hdep hsame hi hlate hfr hkeep
      exact .inl ⟨wanted_none rfl, showsO_move hsn rfl _ rfl e11⟩
    | 1, hi =>
      cases (show some _ = some o from hi)
      have e57 : (f.tmps.getD 57 undef) = .nilIface := depO (V := (VTk9 Ba off L cap M np c9 a9 x root)) hdep 0 57 (by kernel_rfl) (by kernel_rfl)
      clear hdep hsame hi hlate hfr hkeep
      have q := nilne
      exact .inl ⟨wanted_none rfl, showsO_pure hsn rfl (.bool false) (by simp only [execOp, Act.eval]; go_simp) rfl⟩
    | 2, hi =>
      cases (show some _ = some o from hi)
      have e58 : (f.tmps.getD 58 undef) = .bool false := depO (V := (VTk9 Ba off L cap M np c9 a9 x root)) hdep 1 58 (by kernel_rfl) (by kernel_rfl)
      clear hdep hsame hi hlate hfr hkeep
      exact .inl ⟨wanted_none rfl, showsO_move hsn rfl _ rfl e58⟩
    | 3, hi =>
      cases (show some _ = some o from hi)
      have e10 : f.tmps.getD 10 undef = .pointer (some ⟨n10, 0, none⟩) := hsame.slot 10 (fun i o h => invB2_not 10 (by kernel_rfl) h)
      have eg : f.tmps.getD 59 undef = .bool false := depO (V := (VTk9 Ba off L cap M np c9 a9 x root)) hdep 2 59 (by kernel_rfl) (by kernel_rfl)
      clear hdep hsame hi hlate hfr hkeep
      exact .inl ⟨wanted_of 2 rfl eg (by kernel_rfl), showsO_row hsn rfl 24 (.tmp 10) rfl n10 e10 (ocells root) (hgo) underH rfl (hszL RL.out) rfl⟩
    | 4, hi =>
      cases (show some _ = some o from hi)
      have e8 : f.tmps.getD 8 undef = .pointer (some ⟨n8, 0, none⟩) := hsame.slot 8 (fun i o h => invB2_not 8 (by kernel_rfl) h)
      have eg : f.tmps.getD 59 undef = .bool false := depO (V := (VTk9 Ba off L cap M np c9 a9 x root)) hdep 2 59 (by kernel_rfl) (by kernel_rfl)
      clear hdep hsame hi hlate hfr hkeep
      exact .inl ⟨wanted_of 2 rfl eg (by kernel_rfl), showsO_row hsn rfl 24 (.tmp 8) rfl n8 e8 (ocells root) (hro) underH rfl (hszL RL.out) rfl⟩
    | 5, hi =>
      cases (show some _ = some o from hi)
      have e60 : (f.tmps.getD 60 undef) = .agg (ocells (root)) := depO (V := (VTk9 Ba off L cap M np c9 a9 x root)) hdep 3 60 (by kernel_rfl) (by kernel_rfl)
      have e61 : (f.tmps.getD 61 undef) = .agg (ocells (root)) := depO (V := (VTk9 Ba off L cap M np c9 a9 x root)) hdep 4 61 (by kernel_rfl) (by kernel_rfl)
      have eg : f.tmps.getD 59 undef = .bool false := depO (V := (VTk9 Ba off L cap M np c9 a9 x root)) hdep 2 59 (by kernel_rfl) (by kernel_rfl)
      clear hdep hsame hi hlate hfr hkeep
      have q := fun u => hv_neq u root root RL.out RL.out
      simp only [hv_agg, beq_self_eq_true, Bool.not_true] at q
      exact .inl ⟨wanted_of 2 rfl eg (by kernel_rfl), showsO_pure hsn rfl (.bool false) (by simp only [execOp, Act.eval]; go_simp) rfl⟩
    | 6, hi =>
      cases (show some _ = some o from hi)
      have e59 : (f.tmps.getD 59 undef) = .bool false := depO (V := (VTk9 Ba off L cap M np c9 a9 x root)) hdep 2 59 (by kernel_rfl) (by kernel_rfl)
      have e62 : (f.tmps.getD 62 undef) = .bool false := depO (V := (VTk9 Ba off L cap M np c9 a9 x root)) hdep 5 62 (by kernel_rfl) (by kernel_rfl)
      clear hdep hsame hi hlate hfr hkeep
      exact .inl ⟨wanted_none rfl, showsO_pure hsn rfl (.bool false) (by simp only [execOp, Act.eval]; go_simp) rfl⟩
    | 7, hi =>
      cases (show some _ = some o from hi)
      have e63 : (f.tmps.getD 63 undef) = .bool false := depO (V := (VTk9 Ba off L cap M np c9 a9 x root)) hdep 6 63 (by kernel_rfl) (by kernel_rfl)
      clear hdep hsame hi hlate hfr hkeep
      exact .inl ⟨wanted_none rfl, showsO_move hsn rfl _ rfl e63⟩
    | 8, hi =>
      cases (show some _ = some o from hi)
      have e1 : f.tmps.getD 1 undef = .int .i64 (M : Int) := hsame.slot 1 (fun i o h => invB2_not 1 (by kernel_rfl) h)
      have eg : f.tmps.getD 64 undef = .bool false := depO (V := (VTk9 Ba off L cap M np c9 a9 x root)) hdep 7 64 (by kernel_rfl) (by kernel_rfl)
      clear hdep hsame hi hlate hfr hkeep
      exact .inl ⟨wanted_of 7 rfl eg (by kernel_rfl), showsO_move hsn rfl _ rfl e1⟩
    | 9, hi =>
      cases (show some _ = some o from hi)
      have e65 : (f.tmps.getD 65 undef) = .int .i64 (M : Int) := depO (V := (VTk9 Ba off L cap M np c9 a9 x root)) hdep 8 65 (by kernel_rfl) (by kernel_rfl)
      have eg : f.tmps.getD 64 undef = .bool false := depO (V := (VTk9 Ba off L cap M np c9 a9 x root)) hdep 7 64 (by kernel_rfl) (by kernel_rfl)
      clear hdep hsame hi hlate hfr hkeep
      have d1 : IntKind.u64.wrap (M : Int) = (M : Int) := UM.out
      exact .inl ⟨wanted_of 7 rfl eg (by kernel_rfl), showsO_pure hsn rfl (.int .u64 (M : Int)) (by simp only [execOp, Act.eval]; go_simp) rfl⟩
    | 10, hi =>
      cases (show some _ = some o from hi)
      have e7 : f.tmps.getD 7 undef = .int .i64 (L : Int) := hsame.slot 7 (fun i o h => invB2_not 7 (by kernel_rfl) h)
      have eg : f.tmps.getD 64 undef = .bool false := depO (V := (VTk9 Ba off L cap M np c9 a9 x root)) hdep 7 64 (by kernel_rfl) (by kernel_rfl)
      clear hdep hsame hi hlate hfr hkeep
      exact .inl ⟨wanted_of 7 rfl eg (by kernel_rfl), showsO_move hsn rfl _ rfl e7⟩
    | 11, hi =>
      cases (show some _ = some o from hi)
      have e67 : (f.tmps.getD 67 undef) = .int .i64 (L : Int) := depO (V := (VTk9 Ba off L cap M np c9 a9 x root)) hdep 10 67 (by kernel_rfl) (by kernel_rfl)
      have eg : f.tmps.getD 64 undef = .bool false := depO (V := (VTk9 Ba off L cap M np c9 a9 x root)) hdep 7 64 (by kernel_rfl) (by kernel_rfl)
      clear hdep hsame hi hlate hfr hkeep
      have d1 : IntKind.u64.wrap (L : Int) = (L : Int) := UL.out
      exact .inl ⟨wanted_of 7 rfl eg (by kernel_rfl), showsO_pure hsn rfl (.int .u64 (L : Int)) (by simp only [execOp, Act.eval]; go_simp) rfl⟩
    | 12, hi =>
      cases (show some _ = some o from hi)
      have e0 : f.tmps.getD 0 undef = .slice (some ⟨Ba, off, none⟩) L cap := hsame.slot 0 (fun i o h => invB2_not 0 (by kernel_rfl) h)
      have eg : f.tmps.getD 64 undef = .bool false := depO (V := (VTk9 Ba off L cap M np c9 a9 x root)) hdep 7 64 (by kernel_rfl) (by kernel_rfl)
      clear hdep hsame hi hlate hfr hkeep
      exact .inl ⟨wanted_of 7 rfl eg (by kernel_rfl), showsO_move hsn rfl _ rfl e0⟩
    | 13, hi =>
      cases (show some _ = some o from hi)
      have e1 : f.tmps.getD 1 undef = .int .i64 (M : Int) := hsame.slot 1 (fun i o h => invB2_not 1 (by kernel_rfl) h)
      have eg : f.tmps.getD 64 undef = .bool false := depO (V := (VTk9 Ba off L cap M np c9 a9 x root)) hdep 7 64 (by kernel_rfl) (by kernel_rfl)
      clear hdep hsame hi hlate hfr hkeep
      exact .inl ⟨wanted_of 7 rfl eg (by kernel_rfl), showsO_move hsn rfl _ rfl e1⟩
    | 14, hi =>
      cases (show some _ = some o from hi)
      have e69 : (f.tmps.getD 69 undef) = .slice (some ⟨Ba, off, none⟩) L cap := depO (V := (VTk9 Ba off L cap M np c9 a9 x root)) hdep 12 69 (by kernel_rfl) (by kernel_rfl)
      have e70 : (f.tmps.getD 70 undef) = .int .i64 (M : Int) := depO (V := (VTk9 Ba off L cap M np c9 a9 x root)) hdep 13 70 (by kernel_rfl) (by kernel_rfl)
      have eg : f.tmps.getD 64 undef = .bool false := depO (V := (VTk9 Ba off L cap M np c9 a9 x root)) hdep 7 64 (by kernel_rfl) (by kernel_rfl)
      clear hdep hsame hi hlate hfr hkeep
      have f1 : ¬ (L : Int) ≤ (M : Int) := by have := ML.out; omega
      have f2 : (M : Int) < (L : Int) := by have := ML.out; omega
      exact .inl ⟨wanted_of 7 rfl eg (by kernel_rfl), showsO_pure hsn rfl (.pointer (some ⟨Ba, off + M * 32, none⟩)) (by simp only [execOp, Act.eval]; go_simp) rfl⟩
    | 15, hi =>
      cases (show some _ = some o from hi)
      have e71 : (f.tmps.getD 71 undef) = .pointer (some ⟨Ba, off + M * 32, none⟩) := depO (V := (VTk9 Ba off L cap M np c9 a9 x root)) hdep 14 71 (by kernel_rfl) (by kernel_rfl)
      have eg : f.tmps.getD 64 undef = .bool false := depO (V := (VTk9 Ba off L cap M np c9 a9 x root)) hdep 7 64 (by kernel_rfl) (by kernel_rfl)
      clear hdep hsame hi hlate hfr hkeep
      exact .inl ⟨wanted_of 7 rfl eg (by kernel_rfl), showsO_mid hsn rfl 24 (.tmp 71) rfl Ba (off + M * 32) e71 (bcells x) hr underH rfl (hszB' XL.out) rfl⟩
    | 16, hi =>
      cases (show some _ = some o from hi)
      have e9 : f.tmps.getD 9 undef = .slice a9 np c9 := hsame.slot 9 (fun i o h => invB2_not 9 (by kernel_rfl) h)
      have eg : f.tmps.getD 64 undef = .bool false := depO (V := (VTk9 Ba off L cap M np c9 a9 x root)) hdep 7 64 (by kernel_rfl) (by kernel_rfl)
      clear hdep hsame hi hlate hfr hkeep
      exact .inl ⟨wanted_of 7 rfl eg (by kernel_rfl), showsO_move hsn rfl _ rfl e9⟩
    | 17, hi =>
      cases (show some _ = some o from hi)
      have e8 : f.tmps.getD 8 undef = .pointer (some ⟨n8, 0, none⟩) := hsame.slot 8 (fun i o h => invB2_not 8 (by kernel_rfl) h)
      have eg : f.tmps.getD 64 undef = .bool false := depO (V := (VTk9 Ba off L cap M np c9 a9 x root)) hdep 7 64 (by kernel_rfl) (by kernel_rfl)
      clear hdep hsame hi hlate hfr hkeep
      exact .inl ⟨wanted_of 7 rfl eg (by kernel_rfl), showsO_row hsn rfl 24 (.tmp 8) rfl n8 e8 (ocells root) (hro) underH rfl (hszL RL.out) rfl⟩
    | 18, hi =>
      cases (show some _ = some o from hi)
      have e66 : (f.tmps.getD 66 undef) = .int .u64 (M : Int) := depO (V := (VTk9 Ba off L cap M np c9 a9 x root)) hdep 9 66 (by kernel_rfl) (by kernel_rfl)
      have e68 : (f.tmps.getD 68 undef) = .int .u64 (L : Int) := depO (V := (VTk9 Ba off L cap M np c9 a9 x root)) hdep 11 68 (by kernel_rfl) (by kernel_rfl)
      have e72 : (f.tmps.getD 72 undef) = .agg (ocells (x)) := depO (V := (VTk9 Ba off L cap M np c9 a9 x root)) hdep 15 72 (by kernel_rfl) (by kernel_rfl)
      have e73 : (f.tmps.getD 73 undef) = .slice a9 np c9 := depO (V := (VTk9 Ba off L cap M np c9 a9 x root)) hdep 16 73 (by kernel_rfl) (by kernel_rfl)
      have e74 : (f.tmps.getD 74 undef) = .agg (ocells (root)) := depO (V := (VTk9 Ba off L cap M np c9 a9 x root)) hdep 17 74 (by kernel_rfl) (by kernel_rfl)
      have eg : f.tmps.getD 64 undef = .bool false := depO (V := (VTk9 Ba off L cap M np c9 a9 x root)) hdep 7 64 (by kernel_rfl) (by kernel_rfl)
      clear hdep hsame hi hlate hfr hkeep
      have c := incl_any A u M L (by have := ML.out; have := L2.out; omega) (by have := L2.out; omega) x XL.out _ _ _ P (HP2.out.below hb6) root RL.out (HT.out.below hku)
      rw [hv_agg, hv_agg, IV.out] at c
      exact .inl ⟨wanted_of 7 rfl eg (by kernel_rfl), showsO_call1 hsn rfl 14 #[.int .u64 (M : Int), .int .u64 (L : Int), .agg (ocells (x)), .slice a9 np c9, .agg (ocells (root))] (by simp only [execOp, Act.eval]; go_simp) (c) (fun _ => rfl)⟩
    | 19, hi =>
      cases (show some _ = some o from hi)
      have e75 : (f.tmps.getD 75 undef) = .nilIface := depO (V := (VTk9 Ba off L cap M np c9 a9 x root)) hdep 18 75 (by kernel_rfl) (by kernel_rfl)
      have eg : f.tmps.getD 64 undef = .bool false := depO (V := (VTk9 Ba off L cap M np c9 a9 x root)) hdep 7 64 (by kernel_rfl) (by kernel_rfl)
      clear hdep hsame hi hlate hfr hkeep
      have q := nilne
      exact .inl ⟨wanted_of 7 rfl eg (by kernel_rfl), showsO_pure hsn rfl (.bool false) (by simp only [execOp, Act.eval]; go_simp) rfl⟩
    | 20, hi =>
      cases (show some _ = some o from hi)
      have e64 : (f.tmps.getD 64 undef) = .bool false := depO (V := (VTk9 Ba off L cap M np c9 a9 x root)) hdep 7 64 (by kernel_rfl) (by kernel_rfl)
      have e76 : (f.tmps.getD 76 undef) = .bool false := depO (V := (VTk9 Ba off L cap M np c9 a9 x root)) hdep 19 76 (by kernel_rfl) (by kernel_rfl)
      clear hdep hsame hi hlate hfr hkeep
      exact .inl ⟨wanted_none rfl, showsO_pure hsn rfl (.bool false) (by simp only [execOp, Act.eval]; go_simp) rfl⟩
    | n + 21, hi => exact absurd hi (by simp)
  · intro f u1 own hsame hsn hall
    have hb := hsn.below (B := W3.heap.size) (fun _ _ => rfl) (Nat.le_refl _)
    have q57 : f.tmps.getD 57 undef = .nilIface := finO (V := (VTk9 Ba off L cap M np c9 a9 x root)) hall 0 57 rfl
    have q58 : f.tmps.getD 58 undef = .bool false := finO (V := (VTk9 Ba off L cap M np c9 a9 x root)) hall 1 58 rfl
    have q59 : f.tmps.getD 59 undef = .bool false := finO (V := (VTk9 Ba off L cap M np c9 a9 x root)) hall 2 59 rfl
    have q60 : f.tmps.getD 60 undef = .agg (ocells (root)) := finO (V := (VTk9 Ba off L cap M np c9 a9 x root)) hall 3 60 rfl
    have q61 : f.tmps.getD 61 undef = .agg (ocells (root)) := finO (V := (VTk9 Ba off L cap M np c9 a9 x root)) hall 4 61 rfl
    have q62 : f.tmps.getD 62 undef = .bool false := finO (V := (VTk9 Ba off L cap M np c9 a9 x root)) hall 5 62 rfl
    have q63 : f.tmps.getD 63 undef = .bool false := finO (V := (VTk9 Ba off L cap M np c9 a9 x root)) hall 6 63 rfl
    have q64 : f.tmps.getD 64 undef = .bool false := finO (V := (VTk9 Ba off L cap M np c9 a9 x root)) hall 7 64 rfl
    have q65 : f.tmps.getD 65 undef = .int .i64 (M : Int) := finO (V := (VTk9 Ba off L cap M np c9 a9 x root)) hall 8 65 rfl
    have q66 : f.tmps.getD 66 undef = .int .u64 (M : Int) := finO (V := (VTk9 Ba off L cap M np c9 a9 x root)) hall 9 66 rfl
    have q67 : f.tmps.getD 67 undef = .int .i64 (L : Int) := finO (V := (VTk9 Ba off L cap M np c9 a9 x root)) hall 10 67 rfl
    have q68 : f.tmps.getD 68 undef = .int .u64 (L : Int) := finO (V := (VTk9 Ba off L cap M np c9 a9 x root)) hall 11 68 rfl
    have q69 : f.tmps.getD 69 undef = .slice (some ⟨Ba, off, none⟩) L cap := finO (V := (VTk9 Ba off L cap M np c9 a9 x root)) hall 12 69 rfl
    have q70 : f.tmps.getD 70 undef = .int .i64 (M : Int) := finO (V := (VTk9 Ba off L cap M np c9 a9 x root)) hall 13 70 rfl
    have q71 : f.tmps.getD 71 undef = .pointer (some ⟨Ba, off + M * 32, none⟩) := finO (V := (VTk9 Ba off L cap M np c9 a9 x root)) hall 14 71 rfl
    have q72 : f.tmps.getD 72 undef = .agg (ocells (x)) := finO (V := (VTk9 Ba off L cap M np c9 a9 x root)) hall 15 72 rfl
    have q73 : f.tmps.getD 73 undef = .slice a9 np c9 := finO (V := (VTk9 Ba off L cap M np c9 a9 x root)) hall 16 73 rfl
    have q74 : f.tmps.getD 74 undef = .agg (ocells (root)) := finO (V := (VTk9 Ba off L cap M np c9 a9 x root)) hall 17 74 rfl
    have q75 : f.tmps.getD 75 undef = .nilIface := finO (V := (VTk9 Ba off L cap M np c9 a9 x root)) hall 18 75 rfl
    have q76 : f.tmps.getD 76 undef = .bool false := finO (V := (VTk9 Ba off L cap M np c9 a9 x root)) hall 19 76 rfl
    have q77 : f.tmps.getD 77 undef = .bool false := finO (V := (VTk9 Ba off L cap M np c9 a9 x root)) hall 20 77 rfl
    obtain rfl := frame_eq hsame [(57, .nilIface), (58, .bool false), (59, .bool false), (60, .agg (ocells (root))), (61, .agg (ocells (root))), (62, .bool false), (63, .bool false), (64, .bool false), (65, .int .i64 (M : Int)), (66, .int .u64 (M : Int)), (67, .int .i64 (L : Int)), (68, .int .u64 (L : Int)), (69, .slice (some ⟨Ba, off, none⟩) L cap), (70, .int .i64 (M : Int)), (71, .pointer (some ⟨Ba, off + M * 32, none⟩)), (72, .agg (ocells (x))), (73, .slice a9 np c9), (74, .agg (ocells (root))), (75, .nilIface), (76, .bool false), (77, .bool false)] (by kernel_rfl) ⟨q57, q58, q59, q60, q61, q62, q63, q64, q65, q66, q67, q68, q69, q70, q71, q72, q73, q74, q75, q76, q77, trivial⟩
    clear hall hsame q57 q58 q59 q60 q61 q62 q63 q64 q65 q66 q67 q68 q69 q70 q71 q72 q73 q74 q75 q76 q77
    simp only [List.foldl, List.setIfInBounds_toArray, List.set_cons_succ, List.set_cons_zero]
    clear hsn
    have K5 := Bx.mk (K4.out.trans (hb.mono K4.out.size)); have RO4 := Bx.mk (RO3.out.below hb); have OP3 := Bx.mk (own_keep OP2.out (Keep.of_below hb (fun _ => False)) (fun _ _ h => h)); have HP3 := Bx.mk (HP2.out.below hb); have GO1 := Bx.mk (GO0.out.below hb)
    clear hb K4 RO3 OP2 HP2 GO0
    go_upto_region 11 with (fail)
    have NP := Bx.mk (show np ≤ 64 by have := NP0.out; omega)
    refine wp_region_own6 VTk11till (n := 195) VTk11mk (fun _ => none) (VTk11 np c9 a9 root P) (by kernel_rfl) (by kernel_rfl) rfl (fun _ _ => rfl) (fun _ _ _ _ h => by cases h) ?_ ?_ ?_
    · exact fun oi oj v own w own' w' hij hnd ht h r => VTk11_mono np c9 a9 root P oi oj v own w own' w' hij ht (by rintro rfl rfl; exact Bool.noConfusion (hnd.symm.trans (show depB _ 6 5 = true by kernel_rfl))) h r
    · intro oi o hi f u own hsame hsn hfr hlate hkeep hdep
      have hb6 := hsn.below (B := u1.heap.size) (fun _ _ => rfl) (Nat.le_refl _)
      have hku := K5.out.trans (hb6.mono K5.out.size)
      have hr := rangeAt_below RX.out BLT.out hku
      have hro := (RO4.out.below hb6).1
      match oi, hi with
      | 0, hi =>
        cases (show some _ = some o from hi)
        clear hdep hsame hi hlate hfr hkeep
        exact .inl ⟨wanted_none rfl, showsO_built hsn rfl 0 24 #[] (run_bs_zero u rfl) (fun h => h)⟩
      | 1, hi =>
        cases (show some _ = some o from hi)
        have e9 : f.tmps.getD 9 undef = .slice a9 np c9 := hsame.slot 9 (fun i o h => invB2_not 9 (by kernel_rfl) h)
        clear hdep hsame hi hlate hfr hkeep
        exact .inl ⟨wanted_none rfl, showsO_move hsn rfl _ rfl e9⟩
      | 2, hi =>
        cases (show some _ = some o from hi)
        have e78 : BuiltV own u (f.tmps.getD 78 undef) 0 24 #[] := depT (V := (VTk11 np c9 a9 root P)) hdep 0 78 (by kernel_rfl) (by kernel_rfl) (.inl rfl)
        have e79 : (f.tmps.getD 79 undef) = .slice a9 np c9 := depT (V := (VTk11 np c9 a9 root P)) hdep 1 79 (by kernel_rfl) (by kernel_rfl) (.inl rfl)
        clear hdep hsame hi hlate hfr
        exact .inl ⟨wanted_none rfl, showsO_appendFirst hsn rfl (.tmp 78) (.tmp 79) 25 rfl 5 rfl 24 i0 (.agg zeros32) 32 32 underHs RI.out.1 RI.out.2.1 RI.out.2.2.1 RI.out.2.2.2 rfl (by decide) e78 a9 np c9 (hcells P) e79 (own_nil (own_keep OP3.out (Keep.of_below hb6 (fun _ => False)) (fun _ _ h => h))) (own_keep OP3.out (Keep.of_below hb6 (fun _ => False)) (fun _ _ h => h)).1 (own_news (own_keep OP3.out (Keep.of_below hb6 (fun _ => False)) (fun _ _ h => h))) hcells_one (by have := NP.out; unfold maxLen; omega) (by have := NP.out; omega) (fun _ _ _ h => h)⟩
      | 3, hi =>
        cases (show some _ = some o from hi)
        have e8 : f.tmps.getD 8 undef = .pointer (some ⟨n8, 0, none⟩) := hsame.slot 8 (fun i o h => invB2_not 8 (by kernel_rfl) h)
        clear hdep hsame hi hlate hfr hkeep
        exact .inl ⟨wanted_none rfl, showsO_row hsn rfl 24 (.tmp 8) rfl n8 e8 (ocells root) (hro) underH rfl (hszL RL.out) rfl⟩
      | 4, hi =>
        cases (show some _ = some o from hi)
        have e81 : (f.tmps.getD 81 undef) = .agg (ocells (root)) := depT (V := (VTk11 np c9 a9 root P)) hdep 3 81 (by kernel_rfl) (by kernel_rfl) (.inl rfl)
        clear hdep hsame hi hlate hfr hkeep
        exact .inl ⟨wanted_none rfl, showsO_built hsn rfl 1 24 (ocells root) (run_bs_one u (.tmp 81) rfl root RL.out e81) (fun h => h)⟩
      | 5, hi =>
        cases (show some _ = some o from hi)
        have e80 : RowC own u (f.tmps.getD 80 undef) 5 0 24 32 np (hcells P) := depT (V := (VTk11 np c9 a9 root P)) hdep 2 80 (by kernel_rfl) (by kernel_rfl) (.inr rfl)
        have e82 : BuiltV own u (f.tmps.getD 82 undef) 1 24 (ocells root) := depT (V := (VTk11 np c9 a9 root P)) hdep 4 82 (by kernel_rfl) (by kernel_rfl) (.inl rfl)
        clear hdep hsame hi hlate hfr
        exact .inl ⟨wanted_none rfl, showsO_appendLast hsn rfl (.tmp 80) (.tmp 82) 25 rfl 24 i0 (.agg zeros32) 32 32 underHs RI.out.1 RI.out.2.1 RI.out.2.2.1 RI.out.2.2.2 rfl (by decide) np (hcells P) e80 e82 (by decide) (by rw [ocells_size, RL.out]) (ocells_one _) (by have := NP.out; unfold maxLen; omega) (by have := NP.out; omega) (fun _ _ _ h => h)⟩
      | 6, hi =>
        cases (show some _ = some o from hi)
        have e83 : GrownV own u 5 0 24 32 (f.tmps.getD 83 undef) (np + 1) (hcells P ++ (ocells root).toList) := depT (V := (VTk11 np c9 a9 root P)) hdep 5 83 (by kernel_rfl) (by kernel_rfl) (.inl rfl)
        clear hdep hsame hi hlate hfr hkeep
        exact .inl ⟨wanted_none rfl, showsO_assign hsn rfl _ rfl e83⟩
      | n + 7, hi => exact absurd hi (by simp)
    · intro f u2 own hsame hsn hall
      have hb := hsn.below (B := u1.heap.size) (fun _ _ => rfl) (Nat.le_refl _)
      obtain ⟨g78, q78, o78, m78⟩ : BuiltV own u2 (f.tmps.getD 78 undef) 0 24 #[] := (finT (V := (VTk11 np c9 a9 root P)) hall 0 78 rfl rfl)
      have q79 : f.tmps.getD 79 undef = .slice a9 np c9 := (finT (V := (VTk11 np c9 a9 root P)) hall 1 79 rfl rfl)
      obtain ⟨r80, q80⟩ : ∃ r, f.tmps.getD 80 undef = r := ⟨_, rfl⟩
      have q81 : f.tmps.getD 81 undef = .agg (ocells (root)) := (finT (V := (VTk11 np c9 a9 root P)) hall 3 81 rfl rfl)
      obtain ⟨g82, q82, o82, m82⟩ : BuiltV own u2 (f.tmps.getD 82 undef) 1 24 (ocells root) := (finT (V := (VTk11 np c9 a9 root P)) hall 4 82 rfl rfl)
      have m83 := (finT (V := (VTk11 np c9 a9 root P)) hall 5 83 rfl rfl)
      obtain ⟨r83, q83⟩ : ∃ r, f.tmps.getD 83 undef = r := ⟨_, rfl⟩
      rw [q83] at m83
      have m12 := (finT (V := (VTk11 np c9 a9 root P)) hall 6 12 rfl rfl)
      obtain ⟨r12, q12⟩ : ∃ r, f.tmps.getD 12 undef = r := ⟨_, rfl⟩
      rw [q12] at m12
      obtain rfl := frame_eq hsame [(78, .slice (some ⟨g78, 0, none⟩) 0 0), (79, .slice a9 np c9), (80, r80), (81, .agg (ocells (root))), (82, .slice (some ⟨g82, 0, none⟩) 1 1), (83, r83), (12, r12)] (by kernel_rfl) ⟨q78, q79, q80, q81, q82, q83, q12, trivial⟩
      clear hall hsame q78 q79 q80 q81 q82 q83 q12
      simp only [List.foldl, List.setIfInBounds_toArray, List.set_cons_succ, List.set_cons_zero]
      have hrow := m12.1
      rw [hcells_push] at hrow
      have hmm := hss_own hrow (by intro z hz; rcases List.mem_append.1 hz with h | h; exact P32.out z h; rw [List.mem_singleton] at h; rw [h]; exact RL.out) (by rw [List.length_append, List.length_singleton, ← HNP.out])
      obtain ⟨am, cm, rfl, q1, q2, q3⟩ := own_shape hrow
      have HM0 := Bx.mk hmm
      clear hsn hrow hmm q1 q2 q3 m12 m83
      have K6 := Bx.mk (K5.out.trans (hb.mono K5.out.size)); have RO5 := Bx.mk (RO4.out.below hb); have OP4 := Bx.mk (own_keep OP3.out (Keep.of_below hb (fun _ => False)) (fun _ _ h => h)); have HP4 := Bx.mk (HP3.out.below hb)
      clear hb K5 RO4 OP3 HP3
      have IM1 := Bx.mk (IMF.out x (P ++ [root]) (by rw [List.length_append, List.length_singleton]; omega))
      obtain ⟨nm, hnm⟩ : ∃ nm, nm = np + 1 := ⟨_, rfl⟩
      rw [← hnm] at HM0 ⊢
      clear hnm
      go_upto_region 12 with (fail)
      go_cut [117] (fun v wc => v = .bool false ∧ Below u2.heap.size u2 wc)
      case first =>
        rcases hPc : P with _ | ⟨p0, pr⟩
        · obtain rfl : np = 0 := by rw [HNP.out, hPc]; rfl
          clear hPc
          refine wp_region_own4 (n := 195) VTk12nmk (fun _ => none) (VTk12n Ba off L cap M nm c9 cm a9 am x root A) (by kernel_rfl) (by kernel_rfl) rfl (fun _ _ => rfl) (fun j i hj _ => by cases hj) ?_ ?_ ?_
          · exact fun oi oj v own w own' w' hij _ h r => VTk12n_mono Ba off L cap M nm c9 cm a9 am x root A oi oj v own w own' w' hij h r
          · intro oi o hi f u own hsame hsn hfr hlate hkeep hdep
            have hb6 := hsn.below (B := u2.heap.size) (fun _ _ => rfl) (Nat.le_refl _)
            have hku := K6.out.trans (hb6.mono K6.out.size)
            have hr := rangeAt_below RX.out BLT.out hku
            have hro := (RO5.out.below hb6).1
            match oi, hi with
            | 0, hi =>
              cases (show some _ = some o from hi)
              have e1 : f.tmps.getD 1 undef = .int .i64 (M : Int) := hsame.slot 1 (fun i o h => invB2_not 1 (by kernel_rfl) h)
              clear hdep hsame hi hlate hfr hkeep
              exact .inl ⟨wanted_none rfl, showsO_move hsn rfl _ rfl e1⟩
            | 1, hi =>
              cases (show some _ = some o from hi)
              have e84 : (f.tmps.getD 84 undef) = .int .i64 (M : Int) := depO (V := (VTk12n Ba off L cap M nm c9 cm a9 am x root A)) hdep 0 84 (by kernel_rfl) (by kernel_rfl)
              clear hdep hsame hi hlate hfr hkeep
              have d1 : IntKind.u64.wrap (M : Int) = (M : Int) := UM.out
              exact .inl ⟨wanted_none rfl, showsO_pure hsn rfl (.int .u64 (M : Int)) (by simp only [execOp, Act.eval]; go_simp) rfl⟩
            | 2, hi =>
              cases (show some _ = some o from hi)
              have e7 : f.tmps.getD 7 undef = .int .i64 (L : Int) := hsame.slot 7 (fun i o h => invB2_not 7 (by kernel_rfl) h)
              clear hdep hsame hi hlate hfr hkeep
              exact .inl ⟨wanted_none rfl, showsO_move hsn rfl _ rfl e7⟩
            | 3, hi =>
              cases (show some _ = some o from hi)
              have e86 : (f.tmps.getD 86 undef) = .int .i64 (L : Int) := depO (V := (VTk12n Ba off L cap M nm c9 cm a9 am x root A)) hdep 2 86 (by kernel_rfl) (by kernel_rfl)
              clear hdep hsame hi hlate hfr hkeep
              have d1 : IntKind.u64.wrap (L : Int) = (L : Int) := UL.out
              exact .inl ⟨wanted_none rfl, showsO_pure hsn rfl (.int .u64 (L : Int)) (by simp only [execOp, Act.eval]; go_simp) rfl⟩
            | 4, hi =>
              cases (show some _ = some o from hi)
              have e0 : f.tmps.getD 0 undef = .slice (some ⟨Ba, off, none⟩) L cap := hsame.slot 0 (fun i o h => invB2_not 0 (by kernel_rfl) h)
              clear hdep hsame hi hlate hfr hkeep
              exact .inl ⟨wanted_none rfl, showsO_move hsn rfl _ rfl e0⟩
            | 5, hi =>
              cases (show some _ = some o from hi)
              have e1 : f.tmps.getD 1 undef = .int .i64 (M : Int) := hsame.slot 1 (fun i o h => invB2_not 1 (by kernel_rfl) h)
              clear hdep hsame hi hlate hfr hkeep
              exact .inl ⟨wanted_none rfl, showsO_move hsn rfl _ rfl e1⟩
            | 6, hi =>
              cases (show some _ = some o from hi)
              have e88 : (f.tmps.getD 88 undef) = .slice (some ⟨Ba, off, none⟩) L cap := depO (V := (VTk12n Ba off L cap M nm c9 cm a9 am x root A)) hdep 4 88 (by kernel_rfl) (by kernel_rfl)
              have e89 : (f.tmps.getD 89 undef) = .int .i64 (M : Int) := depO (V := (VTk12n Ba off L cap M nm c9 cm a9 am x root A)) hdep 5 89 (by kernel_rfl) (by kernel_rfl)
              clear hdep hsame hi hlate hfr hkeep
              have f1 : ¬ (L : Int) ≤ (M : Int) := by have := ML.out; omega
              have f2 : (M : Int) < (L : Int) := by have := ML.out; omega
              exact .inl ⟨wanted_none rfl, showsO_pure hsn rfl (.pointer (some ⟨Ba, off + M * 32, none⟩)) (by simp only [execOp, Act.eval]; go_simp) rfl⟩
            | 7, hi =>
              cases (show some _ = some o from hi)
              have e90 : (f.tmps.getD 90 undef) = .pointer (some ⟨Ba, off + M * 32, none⟩) := depO (V := (VTk12n Ba off L cap M nm c9 cm a9 am x root A)) hdep 6 90 (by kernel_rfl) (by kernel_rfl)
              clear hdep hsame hi hlate hfr hkeep
              exact .inl ⟨wanted_none rfl, showsO_mid hsn rfl 24 (.tmp 90) rfl Ba (off + M * 32) e90 (bcells x) hr underH rfl (hszB' XL.out) rfl⟩
            | 8, hi =>
              cases (show some _ = some o from hi)
              have e12 : f.tmps.getD 12 undef = .slice am nm cm := hsame.slot 12 (fun i o h => invB2_not 12 (by kernel_rfl) h)
              clear hdep hsame hi hlate hfr hkeep
              exact .inl ⟨wanted_none rfl, showsO_move hsn rfl _ rfl e12⟩
            | 9, hi =>
              cases (show some _ = some o from hi)
              have e8 : f.tmps.getD 8 undef = .pointer (some ⟨n8, 0, none⟩) := hsame.slot 8 (fun i o h => invB2_not 8 (by kernel_rfl) h)
              clear hdep hsame hi hlate hfr hkeep
              exact .inl ⟨wanted_none rfl, showsO_row hsn rfl 24 (.tmp 8) rfl n8 e8 (ocells root) (hro) underH rfl (hszL RL.out) rfl⟩
            | 10, hi =>
              cases (show some _ = some o from hi)
              have e85 : (f.tmps.getD 85 undef) = .int .u64 (M : Int) := depO (V := (VTk12n Ba off L cap M nm c9 cm a9 am x root A)) hdep 1 85 (by kernel_rfl) (by kernel_rfl)
              have e87 : (f.tmps.getD 87 undef) = .int .u64 (L : Int) := depO (V := (VTk12n Ba off L cap M nm c9 cm a9 am x root A)) hdep 3 87 (by kernel_rfl) (by kernel_rfl)
              have e91 : (f.tmps.getD 91 undef) = .agg (ocells (x)) := depO (V := (VTk12n Ba off L cap M nm c9 cm a9 am x root A)) hdep 7 91 (by kernel_rfl) (by kernel_rfl)
              have e92 : (f.tmps.getD 92 undef) = .slice am nm cm := depO (V := (VTk12n Ba off L cap M nm c9 cm a9 am x root A)) hdep 8 92 (by kernel_rfl) (by kernel_rfl)
              have e93 : (f.tmps.getD 93 undef) = .agg (ocells (root)) := depO (V := (VTk12n Ba off L cap M nm c9 cm a9 am x root A)) hdep 9 93 (by kernel_rfl) (by kernel_rfl)
              clear hdep hsame hi hlate hfr hkeep
              have c := incl_any A u M L (by have := ML.out; have := L2.out; omega) (by have := L2.out; omega) x XL.out _ _ _ (P ++ [root]) (HM0.out.below hb6) root RL.out (HT.out.below hku)
              rw [hv_agg, hv_agg, IM1.out] at c
              exact .inl ⟨wanted_none rfl, showsO_call1 hsn rfl 14 #[.int .u64 (M : Int), .int .u64 (L : Int), .agg (ocells (x)), .slice am nm cm, .agg (ocells (root))] (by simp only [execOp, Act.eval]; go_simp) (c) (fun _ => rfl)⟩
            | 11, hi =>
              cases (show some _ = some o from hi)
              have e94 : (f.tmps.getD 94 undef) = errVal A 9 := depO (V := (VTk12n Ba off L cap M nm c9 cm a9 am x root A)) hdep 10 94 (by kernel_rfl) (by kernel_rfl)
              clear hdep hsame hi hlate hfr hkeep
              have c := isE_any (HT.out.below hku).err (ErrV.plain 9 (by decide)) 10
              exact .inl ⟨wanted_none rfl, showsO_call1 hsn rfl 27 #[errVal A 9, .int .i64 10] (by simp only [execOp, Act.eval]; go_simp) (c) (fun _ => rfl)⟩
            | 12, hi =>
              cases (show some _ = some o from hi)
              have e95 : (f.tmps.getD 95 undef) = .bool true := depO (V := (VTk12n Ba off L cap M nm c9 cm a9 am x root A)) hdep 11 95 (by kernel_rfl) (by kernel_rfl)
              clear hdep hsame hi hlate hfr hkeep
              exact .inl ⟨wanted_none rfl, showsO_pure hsn rfl (.bool false) (by simp only [execOp, Act.eval]; go_simp) rfl⟩
            | 13, hi =>
              cases (show some _ = some o from hi)
              have e96 : (f.tmps.getD 96 undef) = .bool false := depO (V := (VTk12n Ba off L cap M nm c9 cm a9 am x root A)) hdep 12 96 (by kernel_rfl) (by kernel_rfl)
              clear hdep hsame hi hlate hfr hkeep
              exact .inl ⟨wanted_none rfl, showsO_move hsn rfl _ rfl e96⟩
            | 14, hi =>
              cases (show some _ = some o from hi)
              have e9 : f.tmps.getD 9 undef = .slice a9 0 c9 := hsame.slot 9 (fun i o h => invB2_not 9 (by kernel_rfl) h)
              have eg : f.tmps.getD 97 undef = .bool false := depO (V := (VTk12n Ba off L cap M nm c9 cm a9 am x root A)) hdep 13 97 (by kernel_rfl) (by kernel_rfl)
              clear hdep hsame hi hlate hfr hkeep
              exact .inl ⟨wanted_of 13 rfl eg (by kernel_rfl), showsO_move hsn rfl _ rfl e9⟩
            | 15, hi =>
              cases (show some _ = some o from hi)
              have e98 : (f.tmps.getD 98 undef) = .slice a9 0 c9 := depO (V := (VTk12n Ba off L cap M nm c9 cm a9 am x root A)) hdep 14 98 (by kernel_rfl) (by kernel_rfl)
              have eg : f.tmps.getD 97 undef = .bool false := depO (V := (VTk12n Ba off L cap M nm c9 cm a9 am x root A)) hdep 13 97 (by kernel_rfl) (by kernel_rfl)
              clear hdep hsame hi hlate hfr hkeep
              exact .inl ⟨wanted_of 13 rfl eg (by kernel_rfl), showsO_pure hsn rfl (.int .i64 0) (by simp only [execOp, Act.eval]; go_simp) rfl⟩
            | 16, hi =>
              cases (show some _ = some o from hi)
              have e99 : (f.tmps.getD 99 undef) = .int .i64 0 := depO (V := (VTk12n Ba off L cap M nm c9 cm a9 am x root A)) hdep 15 99 (by kernel_rfl) (by kernel_rfl)
              have eg : f.tmps.getD 97 undef = .bool false := depO (V := (VTk12n Ba off L cap M nm c9 cm a9 am x root A)) hdep 13 97 (by kernel_rfl) (by kernel_rfl)
              clear hdep hsame hi hlate hfr hkeep
              exact .inl ⟨wanted_of 13 rfl eg (by kernel_rfl), showsO_pure hsn rfl (.bool false) (by simp only [execOp, Act.eval]; go_simp) rfl⟩
            | 17, hi =>
              cases (show some _ = some o from hi)
              have e100 : (f.tmps.getD 100 undef) = .bool false := depO (V := (VTk12n Ba off L cap M nm c9 cm a9 am x root A)) hdep 16 100 (by kernel_rfl) (by kernel_rfl)
              have eg : f.tmps.getD 97 undef = .bool false := depO (V := (VTk12n Ba off L cap M nm c9 cm a9 am x root A)) hdep 13 97 (by kernel_rfl) (by kernel_rfl)
              clear hdep hsame hi hlate hfr hkeep
              exact .inl ⟨wanted_of 13 rfl eg (by kernel_rfl), showsO_move hsn rfl _ rfl e100⟩
            | 18, hi =>
              cases (show some _ = some o from hi)
              have e1 : f.tmps.getD 1 undef = .int .i64 (M : Int) := hsame.slot 1 (fun i o h => invB2_not 1 (by kernel_rfl) h)
              have eg : f.tmps.getD 101 undef = .bool false := depO (V := (VTk12n Ba off L cap M nm c9 cm a9 am x root A)) hdep 17 101 (by kernel_rfl) (by kernel_rfl)
              clear hdep hsame hi hlate hfr hkeep
              exact .inr ⟨unwanted_of 17 rfl eg (by kernel_rfl) (by decide), rfl⟩
            | 19, hi =>
              cases (show some _ = some o from hi)
              have e102 : (f.tmps.getD 102 undef) = undef := depO (V := (VTk12n Ba off L cap M nm c9 cm a9 am x root A)) hdep 18 102 (by kernel_rfl) (by kernel_rfl)
              have eg : f.tmps.getD 101 undef = .bool false := depO (V := (VTk12n Ba off L cap M nm c9 cm a9 am x root A)) hdep 17 101 (by kernel_rfl) (by kernel_rfl)
              clear hdep hsame hi hlate hfr hkeep
              exact .inr ⟨unwanted_of 17 rfl eg (by kernel_rfl) (by decide), rfl⟩
            | 20, hi =>
              cases (show some _ = some o from hi)
              have e7 : f.tmps.getD 7 undef = .int .i64 (L : Int) := hsame.slot 7 (fun i o h => invB2_not 7 (by kernel_rfl) h)
              have eg : f.tmps.getD 101 undef = .bool false := depO (V := (VTk12n Ba off L cap M nm c9 cm a9 am x root A)) hdep 17 101 (by kernel_rfl) (by kernel_rfl)
              clear hdep hsame hi hlate hfr hkeep
              exact .inr ⟨unwanted_of 17 rfl eg (by kernel_rfl) (by decide), rfl⟩
            | 21, hi =>
              cases (show some _ = some o from hi)
              have e104 : (f.tmps.getD 104 undef) = undef := depO (V := (VTk12n Ba off L cap M nm c9 cm a9 am x root A)) hdep 20 104 (by kernel_rfl) (by kernel_rfl)
              have eg : f.tmps.getD 101 undef = .bool false := depO (V := (VTk12n Ba off L cap M nm c9 cm a9 am x root A)) hdep 17 101 (by kernel_rfl) (by kernel_rfl)
              clear hdep hsame hi hlate hfr hkeep
              exact .inr ⟨unwanted_of 17 rfl eg (by kernel_rfl) (by decide), rfl⟩
            | 22, hi =>
              cases (show some _ = some o from hi)
              have e0 : f.tmps.getD 0 undef = .slice (some ⟨Ba, off, none⟩) L cap := hsame.slot 0 (fun i o h => invB2_not 0 (by kernel_rfl) h)
              have eg : f.tmps.getD 101 undef = .bool false := depO (V := (VTk12n Ba off L cap M nm c9 cm a9 am x root A)) hdep 17 101 (by kernel_rfl) (by kernel_rfl)
              clear hdep hsame hi hlate hfr hkeep
              exact .inr ⟨unwanted_of 17 rfl eg (by kernel_rfl) (by decide), rfl⟩
            | 23, hi =>
              cases (show some _ = some o from hi)
              have e1 : f.tmps.getD 1 undef = .int .i64 (M : Int) := hsame.slot 1 (fun i o h => invB2_not 1 (by kernel_rfl) h)
              have eg : f.tmps.getD 101 undef = .bool false := depO (V := (VTk12n Ba off L cap M nm c9 cm a9 am x root A)) hdep 17 101 (by kernel_rfl) (by kernel_rfl)
              clear hdep hsame hi hlate hfr hkeep
              exact .inr ⟨unwanted_of 17 rfl eg (by kernel_rfl) (by decide), rfl⟩
            | 24, hi =>
              cases (show some _ = some o from hi)
              have e106 : (f.tmps.getD 106 undef) = undef := depO (V := (VTk12n Ba off L cap M nm c9 cm a9 am x root A)) hdep 22 106 (by kernel_rfl) (by kernel_rfl)
              have e107 : (f.tmps.getD 107 undef) = undef := depO (V := (VTk12n Ba off L cap M nm c9 cm a9 am x root A)) hdep 23 107 (by kernel_rfl) (by kernel_rfl)
              have eg : f.tmps.getD 101 undef = .bool false := depO (V := (VTk12n Ba off L cap M nm c9 cm a9 am x root A)) hdep 17 101 (by kernel_rfl) (by kernel_rfl)
              clear hdep hsame hi hlate hfr hkeep
              exact .inr ⟨unwanted_of 17 rfl eg (by kernel_rfl) (by decide), rfl⟩
            | 25, hi =>
              cases (show some _ = some o from hi)
              have e108 : (f.tmps.getD 108 undef) = undef := depO (V := (VTk12n Ba off L cap M nm c9 cm a9 am x root A)) hdep 24 108 (by kernel_rfl) (by kernel_rfl)
              have eg : f.tmps.getD 101 undef = .bool false := depO (V := (VTk12n Ba off L cap M nm c9 cm a9 am x root A)) hdep 17 101 (by kernel_rfl) (by kernel_rfl)
              clear hdep hsame hi hlate hfr hkeep
              exact .inr ⟨unwanted_of 17 rfl eg (by kernel_rfl) (by decide), rfl⟩
            | 26, hi =>
              cases (show some _ = some o from hi)
              have e9 : f.tmps.getD 9 undef = .slice a9 0 c9 := hsame.slot 9 (fun i o h => invB2_not 9 (by kernel_rfl) h)
              have eg : f.tmps.getD 101 undef = .bool false := depO (V := (VTk12n Ba off L cap M nm c9 cm a9 am x root A)) hdep 17 101 (by kernel_rfl) (by kernel_rfl)
              clear hdep hsame hi hlate hfr hkeep
              exact .inr ⟨unwanted_of 17 rfl eg (by kernel_rfl) (by decide), rfl⟩
            | 27, hi =>
              cases (show some _ = some o from hi)
              have e110 : (f.tmps.getD 110 undef) = undef := depO (V := (VTk12n Ba off L cap M nm c9 cm a9 am x root A)) hdep 26 110 (by kernel_rfl) (by kernel_rfl)
              have eg : f.tmps.getD 101 undef = .bool false := depO (V := (VTk12n Ba off L cap M nm c9 cm a9 am x root A)) hdep 17 101 (by kernel_rfl) (by kernel_rfl)
              clear hdep hsame hi hlate hfr hkeep
              exact .inr ⟨unwanted_of 17 rfl eg (by kernel_rfl) (by decide), rfl⟩
            | 28, hi =>
              cases (show some _ = some o from hi)
              have e8 : f.tmps.getD 8 undef = .pointer (some ⟨n8, 0, none⟩) := hsame.slot 8 (fun i o h => invB2_not 8 (by kernel_rfl) h)
              have eg : f.tmps.getD 101 undef = .bool false := depO (V := (VTk12n Ba off L cap M nm c9 cm a9 am x root A)) hdep 17 101 (by kernel_rfl) (by kernel_rfl)
              clear hdep hsame hi hlate hfr hkeep
              exact .inr ⟨unwanted_of 17 rfl eg (by kernel_rfl) (by decide), rfl⟩
            | 29, hi =>
              cases (show some _ = some o from hi)
              have e103 : (f.tmps.getD 103 undef) = undef := depO (V := (VTk12n Ba off L cap M nm c9 cm a9 am x root A)) hdep 19 103 (by kernel_rfl) (by kernel_rfl)
              have e105 : (f.tmps.getD 105 undef) = undef := depO (V := (VTk12n Ba off L cap M nm c9 cm a9 am x root A)) hdep 21 105 (by kernel_rfl) (by kernel_rfl)
              have e109 : (f.tmps.getD 109 undef) = undef := depO (V := (VTk12n Ba off L cap M nm c9 cm a9 am x root A)) hdep 25 109 (by kernel_rfl) (by kernel_rfl)
              have e111 : (f.tmps.getD 111 undef) = undef := depO (V := (VTk12n Ba off L cap M nm c9 cm a9 am x root A)) hdep 27 111 (by kernel_rfl) (by kernel_rfl)
              have e112 : (f.tmps.getD 112 undef) = undef := depO (V := (VTk12n Ba off L cap M nm c9 cm a9 am x root A)) hdep 28 112 (by kernel_rfl) (by kernel_rfl)
              have eg : f.tmps.getD 101 undef = .bool false := depO (V := (VTk12n Ba off L cap M nm c9 cm a9 am x root A)) hdep 17 101 (by kernel_rfl) (by kernel_rfl)
              clear hdep hsame hi hlate hfr hkeep
              exact .inr ⟨unwanted_of 17 rfl eg (by kernel_rfl) (by decide), rfl⟩
            | 30, hi =>
              cases (show some _ = some o from hi)
              have e113 : (f.tmps.getD 113 undef) = undef := depO (V := (VTk12n Ba off L cap M nm c9 cm a9 am x root A)) hdep 29 113 (by kernel_rfl) (by kernel_rfl)
              have eg : f.tmps.getD 101 undef = .bool false := depO (V := (VTk12n Ba off L cap M nm c9 cm a9 am x root A)) hdep 17 101 (by kernel_rfl) (by kernel_rfl)
              clear hdep hsame hi hlate hfr hkeep
              exact .inr ⟨unwanted_of 17 rfl eg (by kernel_rfl) (by decide), rfl⟩
            | 31, hi =>
              cases (show some _ = some o from hi)
              have e114 : (f.tmps.getD 114 undef) = undef := depO (V := (VTk12n Ba off L cap M nm c9 cm a9 am x root A)) hdep 30 114 (by kernel_rfl) (by kernel_rfl)
              have eg : f.tmps.getD 101 undef = .bool false := depO (V := (VTk12n Ba off L cap M nm c9 cm a9 am x root A)) hdep 17 101 (by kernel_rfl) (by kernel_rfl)
              clear hdep hsame hi hlate hfr hkeep
              exact .inr ⟨unwanted_of 17 rfl eg (by kernel_rfl) (by decide), rfl⟩
            | 32, hi =>
              cases (show some _ = some o from hi)
              have e101 : (f.tmps.getD 101 undef) = .bool false := depO (V := (VTk12n Ba off L cap M nm c9 cm a9 am x root A)) hdep 17 101 (by kernel_rfl) (by kernel_rfl)
              have e115 : (f.tmps.getD 115 undef) = undef := depO (V := (VTk12n Ba off L cap M nm c9 cm a9 am x root A)) hdep 31 115 (by kernel_rfl) (by kernel_rfl)
              have eg : f.tmps.getD 97 undef = .bool false := depO (V := (VTk12n Ba off L cap M nm c9 cm a9 am x root A)) hdep 13 97 (by kernel_rfl) (by kernel_rfl)
              clear hdep hsame hi hlate hfr hkeep
              exact .inl ⟨wanted_of 13 rfl eg (by kernel_rfl), showsO_pure hsn rfl (.bool false) (by simp only [execOp, Act.eval]; go_simp) rfl⟩
            | 33, hi =>
              cases (show some _ = some o from hi)
              have e97 : (f.tmps.getD 97 undef) = .bool false := depO (V := (VTk12n Ba off L cap M nm c9 cm a9 am x root A)) hdep 13 97 (by kernel_rfl) (by kernel_rfl)
              have e116 : (f.tmps.getD 116 undef) = .bool false := depO (V := (VTk12n Ba off L cap M nm c9 cm a9 am x root A)) hdep 32 116 (by kernel_rfl) (by kernel_rfl)
              clear hdep hsame hi hlate hfr hkeep
              exact .inl ⟨wanted_none rfl, showsO_pure hsn rfl (.bool false) (by simp only [execOp, Act.eval]; go_simp) rfl⟩
            | n + 34, hi => exact absurd hi (by simp)
          · intro f u own hsame hsn hall
            have hb6 := hsn.below (B := u2.heap.size) (fun _ _ => rfl) (Nat.le_refl _)
            have q84 : f.tmps.getD 84 undef = .int .i64 (M : Int) := finO (V := (VTk12n Ba off L cap M nm c9 cm a9 am x root A)) hall 0 84 rfl
            have q85 : f.tmps.getD 85 undef = .int .u64 (M : Int) := finO (V := (VTk12n Ba off L cap M nm c9 cm a9 am x root A)) hall 1 85 rfl
            have q86 : f.tmps.getD 86 undef = .int .i64 (L : Int) := finO (V := (VTk12n Ba off L cap M nm c9 cm a9 am x root A)) hall 2 86 rfl
            have q87 : f.tmps.getD 87 undef = .int .u64 (L : Int) := finO (V := (VTk12n Ba off L cap M nm c9 cm a9 am x root A)) hall 3 87 rfl
            have q88 : f.tmps.getD 88 undef = .slice (some ⟨Ba, off, none⟩) L cap := finO (V := (VTk12n Ba off L cap M nm c9 cm a9 am x root A)) hall 4 88 rfl
            have q89 : f.tmps.getD 89 undef = .int .i64 (M : Int) := finO (V := (VTk12n Ba off L cap M nm c9 cm a9 am x root A)) hall 5 89 rfl
            have q90 : f.tmps.getD 90 undef = .pointer (some ⟨Ba, off + M * 32, none⟩) := finO (V := (VTk12n Ba off L cap M nm c9 cm a9 am x root A)) hall 6 90 rfl
            have q91 : f.tmps.getD 91 undef = .agg (ocells (x)) := finO (V := (VTk12n Ba off L cap M nm c9 cm a9 am x root A)) hall 7 91 rfl
            have q92 : f.tmps.getD 92 undef = .slice am nm cm := finO (V := (VTk12n Ba off L cap M nm c9 cm a9 am x root A)) hall 8 92 rfl
            have q93 : f.tmps.getD 93 undef = .agg (ocells (root)) := finO (V := (VTk12n Ba off L cap M nm c9 cm a9 am x root A)) hall 9 93 rfl
            have q94 : f.tmps.getD 94 undef = errVal A 9 := finO (V := (VTk12n Ba off L cap M nm c9 cm a9 am x root A)) hall 10 94 rfl
            have q95 : f.tmps.getD 95 undef = .bool true := finO (V := (VTk12n Ba off L cap M nm c9 cm a9 am x root A)) hall 11 95 rfl
            have q96 : f.tmps.getD 96 undef = .bool false := finO (V := (VTk12n Ba off L cap M nm c9 cm a9 am x root A)) hall 12 96 rfl
            have q97 : f.tmps.getD 97 undef = .bool false := finO (V := (VTk12n Ba off L cap M nm c9 cm a9 am x root A)) hall 13 97 rfl
            have q98 : f.tmps.getD 98 undef = .slice a9 0 c9 := finO (V := (VTk12n Ba off L cap M nm c9 cm a9 am x root A)) hall 14 98 rfl
            have q99 : f.tmps.getD 99 undef = .int .i64 0 := finO (V := (VTk12n Ba off L cap M nm c9 cm a9 am x root A)) hall 15 99 rfl
            have q100 : f.tmps.getD 100 undef = .bool false := finO (V := (VTk12n Ba off L cap M nm c9 cm a9 am x root A)) hall 16 100 rfl
            have q101 : f.tmps.getD 101 undef = .bool false := finO (V := (VTk12n Ba off L cap M nm c9 cm a9 am x root A)) hall 17 101 rfl
            have q102 : f.tmps.getD 102 undef = undef := finO (V := (VTk12n Ba off L cap M nm c9 cm a9 am x root A)) hall 18 102 rfl
            have q103 : f.tmps.getD 103 undef = undef := finO (V := (VTk12n Ba off L cap M nm c9 cm a9 am x root A)) hall 19 103 rfl
            have q104 : f.tmps.getD 104 undef = undef := finO (V := (VTk12n Ba off L cap M nm c9 cm a9 am x root A)) hall 20 104 rfl
            have q105 : f.tmps.getD 105 undef = undef := finO (V := (VTk12n Ba off L cap M nm c9 cm a9 am x root A)) hall 21 105 rfl
            have q106 : f.tmps.getD 106 undef = undef := finO (V := (VTk12n Ba off L cap M nm c9 cm a9 am x root A)) hall 22 106 rfl
            have q107 : f.tmps.getD 107 undef = undef := finO (V := (VTk12n Ba off L cap M nm c9 cm a9 am x root A)) hall 23 107 rfl
            have q108 : f.tmps.getD 108 undef = undef := finO (V := (VTk12n Ba off L cap M nm c9 cm a9 am x root A)) hall 24 108 rfl
            have q109 : f.tmps.getD 109 undef = undef := finO (V := (VTk12n Ba off L cap M nm c9 cm a9 am x root A)) hall 25 109 rfl
            have q110 : f.tmps.getD 110 undef = undef := finO (V := (VTk12n Ba off L cap M nm c9 cm a9 am x root A)) hall 26 110 rfl
            have q111 : f.tmps.getD 111 undef = undef := finO (V := (VTk12n Ba off L cap M nm c9 cm a9 am x root A)) hall 27 111 rfl
            have q112 : f.tmps.getD 112 undef = undef := finO (V := (VTk12n Ba off L cap M nm c9 cm a9 am x root A)) hall 28 112 rfl
            have q113 : f.tmps.getD 113 undef = undef := finO (V := (VTk12n Ba off L cap M nm c9 cm a9 am x root A)) hall 29 113 rfl
            have q114 : f.tmps.getD 114 undef = undef := finO (V := (VTk12n Ba off L cap M nm c9 cm a9 am x root A)) hall 30 114 rfl
            have q115 : f.tmps.getD 115 undef = undef := finO (V := (VTk12n Ba off L cap M nm c9 cm a9 am x root A)) hall 31 115 rfl
            have q116 : f.tmps.getD 116 undef = .bool false := finO (V := (VTk12n Ba off L cap M nm c9 cm a9 am x root A)) hall 32 116 rfl
            have q117 : f.tmps.getD 117 undef = .bool false := finO (V := (VTk12n Ba off L cap M nm c9 cm a9 am x root A)) hall 33 117 rfl
            obtain rfl := frame_eq hsame [(84, .int .i64 (M : Int)), (85, .int .u64 (M : Int)), (86, .int .i64 (L : Int)), (87, .int .u64 (L : Int)), (88, .slice (some ⟨Ba, off, none⟩) L cap), (89, .int .i64 (M : Int)), (90, .pointer (some ⟨Ba, off + M * 32, none⟩)), (91, .agg (ocells (x))), (92, .slice am nm cm), (93, .agg (ocells (root))), (94, errVal A 9), (95, .bool true), (96, .bool false), (97, .bool false), (98, .slice a9 0 c9), (99, .int .i64 0), (100, .bool false), (101, .bool false), (102, undef), (103, undef), (104, undef), (105, undef), (106, undef), (107, undef), (108, undef), (109, undef), (110, undef), (111, undef), (112, undef), (113, undef), (114, undef), (115, undef), (116, .bool false), (117, .bool false)] (by kernel_rfl) ⟨q84, q85, q86, q87, q88, q89, q90, q91, q92, q93, q94, q95, q96, q97, q98, q99, q100, q101, q102, q103, q104, q105, q106, q107, q108, q109, q110, q111, q112, q113, q114, q115, q116, q117, trivial⟩
            clear hall hsame q84 q85 q86 q87 q88 q89 q90 q91 q92 q93 q94 q95 q96 q97 q98 q99 q100 q101 q102 q103 q104 q105 q106 q107 q108 q109 q110 q111 q112 q113 q114 q115 q116 q117
            simp only [List.foldl, List.setIfInBounds_toArray, List.set_cons_succ, List.set_cons_zero]
            have HB := Bx.mk hb6
            clear hb6 hsn
            go_wp2_with fail
            go_meet
            case rel => exact ⟨rfl, HB.out⟩
        · have hhp := HP4.out
          rw [hPc] at hhp
          obtain ⟨hj1, hc9, hj3, B9, o9, rfl, _, _, _⟩ := hhp.at 0 (by simp)
          obtain ⟨ad2, had, hpr⟩ := hhp.rest
          have IM2 := Bx.mk (IMF.out x pr (by rw [hPc, List.length_cons]; omega))
          rw [List.length_cons] at hc9
          obtain ⟨lp, hlp⟩ : ∃ lp, lp = pr.length := ⟨_, rfl⟩
          obtain rfl : np = lp + 1 := by rw [HNP.out, hPc, hlp]; rfl
          rw [← hlp] at hpr hc9
          have HPR := Bx.mk hpr; have HAD := Bx.mk had; have CG := Bx.mk hc9
          clear hpr had hc9 hlp hPc hhp hj1 hj3
          refine wp_region_own4 (n := 195) VTk12smk (fun _ => none) (VTk12s Ba off L cap M nm c9 cm lp B9 o9 am ad2 x root A) (by kernel_rfl) (by kernel_rfl) rfl (fun _ _ => rfl) (fun j i hj _ => by cases hj) ?_ ?_ ?_
          · exact fun oi oj v own w own' w' hij _ h r => VTk12s_mono Ba off L cap M nm c9 cm lp B9 o9 am ad2 x root A oi oj v own w own' w' hij h r
          · intro oi o hi f u own hsame hsn hfr hlate hkeep hdep
            have hb6 := hsn.below (B := u2.heap.size) (fun _ _ => rfl) (Nat.le_refl _)
            have hku := K6.out.trans (hb6.mono K6.out.size)
            have hr := rangeAt_below RX.out BLT.out hku
            have hro := (RO5.out.below hb6).1
            match oi, hi with
            | 0, hi =>
              cases (show some _ = some o from hi)
              have e1 : f.tmps.getD 1 undef = .int .i64 (M : Int) := hsame.slot 1 (fun i o h => invB2_not 1 (by kernel_rfl) h)
              clear hdep hsame hi hlate hfr hkeep
              exact .inl ⟨wanted_none rfl, showsO_move hsn rfl _ rfl e1⟩
            | 1, hi =>
              cases (show some _ = some o from hi)
              have e84 : (f.tmps.getD 84 undef) = .int .i64 (M : Int) := depO (V := (VTk12s Ba off L cap M nm c9 cm lp B9 o9 am ad2 x root A)) hdep 0 84 (by kernel_rfl) (by kernel_rfl)
              clear hdep hsame hi hlate hfr hkeep
              have d1 : IntKind.u64.wrap (M : Int) = (M : Int) := UM.out
              exact .inl ⟨wanted_none rfl, showsO_pure hsn rfl (.int .u64 (M : Int)) (by simp only [execOp, Act.eval]; go_simp) rfl⟩
            | 2, hi =>
              cases (show some _ = some o from hi)
              have e7 : f.tmps.getD 7 undef = .int .i64 (L : Int) := hsame.slot 7 (fun i o h => invB2_not 7 (by kernel_rfl) h)
              clear hdep hsame hi hlate hfr hkeep
              exact .inl ⟨wanted_none rfl, showsO_move hsn rfl _ rfl e7⟩
            | 3, hi =>
              cases (show some _ = some o from hi)
              have e86 : (f.tmps.getD 86 undef) = .int .i64 (L : Int) := depO (V := (VTk12s Ba off L cap M nm c9 cm lp B9 o9 am ad2 x root A)) hdep 2 86 (by kernel_rfl) (by kernel_rfl)
              clear hdep hsame hi hlate hfr hkeep
              have d1 : IntKind.u64.wrap (L : Int) = (L : Int) := UL.out
              exact .inl ⟨wanted_none rfl, showsO_pure hsn rfl (.int .u64 (L : Int)) (by simp only [execOp, Act.eval]; go_simp) rfl⟩
            | 4, hi =>
              cases (show some _ = some o from hi)
              have e0 : f.tmps.getD 0 undef = .slice (some ⟨Ba, off, none⟩) L cap := hsame.slot 0 (fun i o h => invB2_not 0 (by kernel_rfl) h)
              clear hdep hsame hi hlate hfr hkeep
              exact .inl ⟨wanted_none rfl, showsO_move hsn rfl _ rfl e0⟩
            | 5, hi =>
              cases (show some _ = some o from hi)
              have e1 : f.tmps.getD 1 undef = .int .i64 (M : Int) := hsame.slot 1 (fun i o h => invB2_not 1 (by kernel_rfl) h)
              clear hdep hsame hi hlate hfr hkeep
              exact .inl ⟨wanted_none rfl, showsO_move hsn rfl _ rfl e1⟩
            | 6, hi =>
              cases (show some _ = some o from hi)
              have e88 : (f.tmps.getD 88 undef) = .slice (some ⟨Ba, off, none⟩) L cap := depO (V := (VTk12s Ba off L cap M nm c9 cm lp B9 o9 am ad2 x root A)) hdep 4 88 (by kernel_rfl) (by kernel_rfl)
              have e89 : (f.tmps.getD 89 undef) = .int .i64 (M : Int) := depO (V := (VTk12s Ba off L cap M nm c9 cm lp B9 o9 am ad2 x root A)) hdep 5 89 (by kernel_rfl) (by kernel_rfl)
              clear hdep hsame hi hlate hfr hkeep
              have f1 : ¬ (L : Int) ≤ (M : Int) := by have := ML.out; omega
              have f2 : (M : Int) < (L : Int) := by have := ML.out; omega
              exact .inl ⟨wanted_none rfl, showsO_pure hsn rfl (.pointer (some ⟨Ba, off + M * 32, none⟩)) (by simp only [execOp, Act.eval]; go_simp) rfl⟩
            | 7, hi =>
              cases (show some _ = some o from hi)
              have e90 : (f.tmps.getD 90 undef) = .pointer (some ⟨Ba, off + M * 32, none⟩) := depO (V := (VTk12s Ba off L cap M nm c9 cm lp B9 o9 am ad2 x root A)) hdep 6 90 (by kernel_rfl) (by kernel_rfl)
              clear hdep hsame hi hlate hfr hkeep
              exact .inl ⟨wanted_none rfl, showsO_mid hsn rfl 24 (.tmp 90) rfl Ba (off + M * 32) e90 (bcells x) hr underH rfl (hszB' XL.out) rfl⟩
            | 8, hi =>
              cases (show some _ = some o from hi)
              have e12 : f.tmps.getD 12 undef = .slice am nm cm := hsame.slot 12 (fun i o h => invB2_not 12 (by kernel_rfl) h)
              clear hdep hsame hi hlate hfr hkeep
              exact .inl ⟨wanted_none rfl, showsO_move hsn rfl _ rfl e12⟩
            | 9, hi =>
              cases (show some _ = some o from hi)
              have e8 : f.tmps.getD 8 undef = .pointer (some ⟨n8, 0, none⟩) := hsame.slot 8 (fun i o h => invB2_not 8 (by kernel_rfl) h)
              clear hdep hsame hi hlate hfr hkeep
              exact .inl ⟨wanted_none rfl, showsO_row hsn rfl 24 (.tmp 8) rfl n8 e8 (ocells root) (hro) underH rfl (hszL RL.out) rfl⟩
            | 10, hi =>
              cases (show some _ = some o from hi)
              have e85 : (f.tmps.getD 85 undef) = .int .u64 (M : Int) := depO (V := (VTk12s Ba off L cap M nm c9 cm lp B9 o9 am ad2 x root A)) hdep 1 85 (by kernel_rfl) (by kernel_rfl)
              have e87 : (f.tmps.getD 87 undef) = .int .u64 (L : Int) := depO (V := (VTk12s Ba off L cap M nm c9 cm lp B9 o9 am ad2 x root A)) hdep 3 87 (by kernel_rfl) (by kernel_rfl)
              have e91 : (f.tmps.getD 91 undef) = .agg (ocells (x)) := depO (V := (VTk12s Ba off L cap M nm c9 cm lp B9 o9 am ad2 x root A)) hdep 7 91 (by kernel_rfl) (by kernel_rfl)
              have e92 : (f.tmps.getD 92 undef) = .slice am nm cm := depO (V := (VTk12s Ba off L cap M nm c9 cm lp B9 o9 am ad2 x root A)) hdep 8 92 (by kernel_rfl) (by kernel_rfl)
              have e93 : (f.tmps.getD 93 undef) = .agg (ocells (root)) := depO (V := (VTk12s Ba off L cap M nm c9 cm lp B9 o9 am ad2 x root A)) hdep 9 93 (by kernel_rfl) (by kernel_rfl)
              clear hdep hsame hi hlate hfr hkeep
              have c := incl_any A u M L (by have := ML.out; have := L2.out; omega) (by have := L2.out; omega) x XL.out _ _ _ (P ++ [root]) (HM0.out.below hb6) root RL.out (HT.out.below hku)
              rw [hv_agg, hv_agg, IM1.out] at c
              exact .inl ⟨wanted_none rfl, showsO_call1 hsn rfl 14 #[.int .u64 (M : Int), .int .u64 (L : Int), .agg (ocells (x)), .slice am nm cm, .agg (ocells (root))] (by simp only [execOp, Act.eval]; go_simp) (c) (fun _ => rfl)⟩
            | 11, hi =>
              cases (show some _ = some o from hi)
              have e94 : (f.tmps.getD 94 undef) = errVal A 9 := depO (V := (VTk12s Ba off L cap M nm c9 cm lp B9 o9 am ad2 x root A)) hdep 10 94 (by kernel_rfl) (by kernel_rfl)
              clear hdep hsame hi hlate hfr hkeep
              have c := isE_any (HT.out.below hku).err (ErrV.plain 9 (by decide)) 10
              exact .inl ⟨wanted_none rfl, showsO_call1 hsn rfl 27 #[errVal A 9, .int .i64 10] (by simp only [execOp, Act.eval]; go_simp) (c) (fun _ => rfl)⟩
            | 12, hi =>
              cases (show some _ = some o from hi)
              have e95 : (f.tmps.getD 95 undef) = .bool true := depO (V := (VTk12s Ba off L cap M nm c9 cm lp B9 o9 am ad2 x root A)) hdep 11 95 (by kernel_rfl) (by kernel_rfl)
              clear hdep hsame hi hlate hfr hkeep
              exact .inl ⟨wanted_none rfl, showsO_pure hsn rfl (.bool false) (by simp only [execOp, Act.eval]; go_simp) rfl⟩
            | 13, hi =>
              cases (show some _ = some o from hi)
              have e96 : (f.tmps.getD 96 undef) = .bool false := depO (V := (VTk12s Ba off L cap M nm c9 cm lp B9 o9 am ad2 x root A)) hdep 12 96 (by kernel_rfl) (by kernel_rfl)
              clear hdep hsame hi hlate hfr hkeep
              exact .inl ⟨wanted_none rfl, showsO_move hsn rfl _ rfl e96⟩
            | 14, hi =>
              cases (show some _ = some o from hi)
              have e9 : f.tmps.getD 9 undef = .slice (some ⟨B9, o9, none⟩) (lp + 1) c9 := hsame.slot 9 (fun i o h => invB2_not 9 (by kernel_rfl) h)
              have eg : f.tmps.getD 97 undef = .bool false := depO (V := (VTk12s Ba off L cap M nm c9 cm lp B9 o9 am ad2 x root A)) hdep 13 97 (by kernel_rfl) (by kernel_rfl)
              clear hdep hsame hi hlate hfr hkeep
              exact .inl ⟨wanted_of 13 rfl eg (by kernel_rfl), showsO_move hsn rfl _ rfl e9⟩
            | 15, hi =>
              cases (show some _ = some o from hi)
              have e98 : (f.tmps.getD 98 undef) = .slice (some ⟨B9, o9, none⟩) (lp + 1) c9 := depO (V := (VTk12s Ba off L cap M nm c9 cm lp B9 o9 am ad2 x root A)) hdep 14 98 (by kernel_rfl) (by kernel_rfl)
              have eg : f.tmps.getD 97 undef = .bool false := depO (V := (VTk12s Ba off L cap M nm c9 cm lp B9 o9 am ad2 x root A)) hdep 13 97 (by kernel_rfl) (by kernel_rfl)
              clear hdep hsame hi hlate hfr hkeep
              exact .inl ⟨wanted_of 13 rfl eg (by kernel_rfl), showsO_pure hsn rfl (.int .i64 ((lp : Int) + 1)) (by simp only [execOp, Act.eval]; go_simp; try rfl) rfl⟩
            | 16, hi =>
              cases (show some _ = some o from hi)
              have e99 : (f.tmps.getD 99 undef) = .int .i64 ((lp : Int) + 1) := depO (V := (VTk12s Ba off L cap M nm c9 cm lp B9 o9 am ad2 x root A)) hdep 15 99 (by kernel_rfl) (by kernel_rfl)
              have eg : f.tmps.getD 97 undef = .bool false := depO (V := (VTk12s Ba off L cap M nm c9 cm lp B9 o9 am ad2 x root A)) hdep 13 97 (by kernel_rfl) (by kernel_rfl)
              clear hdep hsame hi hlate hfr hkeep
              have f1 : (0 : Int) < (lp : Int) + 1 := by omega
              exact .inl ⟨wanted_of 13 rfl eg (by kernel_rfl), showsO_pure hsn rfl (.bool true) (by simp only [execOp, Act.eval]; go_simp) rfl⟩
            | 17, hi =>
              cases (show some _ = some o from hi)
              have e100 : (f.tmps.getD 100 undef) = .bool true := depO (V := (VTk12s Ba off L cap M nm c9 cm lp B9 o9 am ad2 x root A)) hdep 16 100 (by kernel_rfl) (by kernel_rfl)
              have eg : f.tmps.getD 97 undef = .bool false := depO (V := (VTk12s Ba off L cap M nm c9 cm lp B9 o9 am ad2 x root A)) hdep 13 97 (by kernel_rfl) (by kernel_rfl)
              clear hdep hsame hi hlate hfr hkeep
              exact .inl ⟨wanted_of 13 rfl eg (by kernel_rfl), showsO_move hsn rfl _ rfl e100⟩
            | 18, hi =>
              cases (show some _ = some o from hi)
              have e1 : f.tmps.getD 1 undef = .int .i64 (M : Int) := hsame.slot 1 (fun i o h => invB2_not 1 (by kernel_rfl) h)
              have eg : f.tmps.getD 101 undef = .bool true := depO (V := (VTk12s Ba off L cap M nm c9 cm lp B9 o9 am ad2 x root A)) hdep 17 101 (by kernel_rfl) (by kernel_rfl)
              clear hdep hsame hi hlate hfr hkeep
              exact .inl ⟨wanted_of 17 rfl eg (by kernel_rfl), showsO_move hsn rfl _ rfl e1⟩
            | 19, hi =>
              cases (show some _ = some o from hi)
              have e102 : (f.tmps.getD 102 undef) = .int .i64 (M : Int) := depO (V := (VTk12s Ba off L cap M nm c9 cm lp B9 o9 am ad2 x root A)) hdep 18 102 (by kernel_rfl) (by kernel_rfl)
              have eg : f.tmps.getD 101 undef = .bool true := depO (V := (VTk12s Ba off L cap M nm c9 cm lp B9 o9 am ad2 x root A)) hdep 17 101 (by kernel_rfl) (by kernel_rfl)
              clear hdep hsame hi hlate hfr hkeep
              have d1 : IntKind.u64.wrap (M : Int) = (M : Int) := UM.out
              exact .inl ⟨wanted_of 17 rfl eg (by kernel_rfl), showsO_pure hsn rfl (.int .u64 (M : Int)) (by simp only [execOp, Act.eval]; go_simp) rfl⟩
            | 20, hi =>
              cases (show some _ = some o from hi)
              have e7 : f.tmps.getD 7 undef = .int .i64 (L : Int) := hsame.slot 7 (fun i o h => invB2_not 7 (by kernel_rfl) h)
              have eg : f.tmps.getD 101 undef = .bool true := depO (V := (VTk12s Ba off L cap M nm c9 cm lp B9 o9 am ad2 x root A)) hdep 17 101 (by kernel_rfl) (by kernel_rfl)
              clear hdep hsame hi hlate hfr hkeep
              exact .inl ⟨wanted_of 17 rfl eg (by kernel_rfl), showsO_move hsn rfl _ rfl e7⟩
            | 21, hi =>
              cases (show some _ = some o from hi)
              have e104 : (f.tmps.getD 104 undef) = .int .i64 (L : Int) := depO (V := (VTk12s Ba off L cap M nm c9 cm lp B9 o9 am ad2 x root A)) hdep 20 104 (by kernel_rfl) (by kernel_rfl)
              have eg : f.tmps.getD 101 undef = .bool true := depO (V := (VTk12s Ba off L cap M nm c9 cm lp B9 o9 am ad2 x root A)) hdep 17 101 (by kernel_rfl) (by kernel_rfl)
              clear hdep hsame hi hlate hfr hkeep
              have d1 : IntKind.u64.wrap (L : Int) = (L : Int) := UL.out
              exact .inl ⟨wanted_of 17 rfl eg (by kernel_rfl), showsO_pure hsn rfl (.int .u64 (L : Int)) (by simp only [execOp, Act.eval]; go_simp) rfl⟩
            | 22, hi =>
              cases (show some _ = some o from hi)
              have e0 : f.tmps.getD 0 undef = .slice (some ⟨Ba, off, none⟩) L cap := hsame.slot 0 (fun i o h => invB2_not 0 (by kernel_rfl) h)
              have eg : f.tmps.getD 101 undef = .bool true := depO (V := (VTk12s Ba off L cap M nm c9 cm lp B9 o9 am ad2 x root A)) hdep 17 101 (by kernel_rfl) (by kernel_rfl)
              clear hdep hsame hi hlate hfr hkeep
              exact .inl ⟨wanted_of 17 rfl eg (by kernel_rfl), showsO_move hsn rfl _ rfl e0⟩
            | 23, hi =>
              cases (show some _ = some o from hi)
              have e1 : f.tmps.getD 1 undef = .int .i64 (M : Int) := hsame.slot 1 (fun i o h => invB2_not 1 (by kernel_rfl) h)
              have eg : f.tmps.getD 101 undef = .bool true := depO (V := (VTk12s Ba off L cap M nm c9 cm lp B9 o9 am ad2 x root A)) hdep 17 101 (by kernel_rfl) (by kernel_rfl)
              clear hdep hsame hi hlate hfr hkeep
              exact .inl ⟨wanted_of 17 rfl eg (by kernel_rfl), showsO_move hsn rfl _ rfl e1⟩
            | 24, hi =>
              cases (show some _ = some o from hi)
              have e106 : (f.tmps.getD 106 undef) = .slice (some ⟨Ba, off, none⟩) L cap := depO (V := (VTk12s Ba off L cap M nm c9 cm lp B9 o9 am ad2 x root A)) hdep 22 106 (by kernel_rfl) (by kernel_rfl)
              have e107 : (f.tmps.getD 107 undef) = .int .i64 (M : Int) := depO (V := (VTk12s Ba off L cap M nm c9 cm lp B9 o9 am ad2 x root A)) hdep 23 107 (by kernel_rfl) (by kernel_rfl)
              have eg : f.tmps.getD 101 undef = .bool true := depO (V := (VTk12s Ba off L cap M nm c9 cm lp B9 o9 am ad2 x root A)) hdep 17 101 (by kernel_rfl) (by kernel_rfl)
              clear hdep hsame hi hlate hfr hkeep
              have f1 : ¬ (L : Int) ≤ (M : Int) := by have := ML.out; omega
              have f2 : (M : Int) < (L : Int) := by have := ML.out; omega
              exact .inl ⟨wanted_of 17 rfl eg (by kernel_rfl), showsO_pure hsn rfl (.pointer (some ⟨Ba, off + M * 32, none⟩)) (by simp only [execOp, Act.eval]; go_simp) rfl⟩
            | 25, hi =>
              cases (show some _ = some o from hi)
              have e108 : (f.tmps.getD 108 undef) = .pointer (some ⟨Ba, off + M * 32, none⟩) := depO (V := (VTk12s Ba off L cap M nm c9 cm lp B9 o9 am ad2 x root A)) hdep 24 108 (by kernel_rfl) (by kernel_rfl)
              have eg : f.tmps.getD 101 undef = .bool true := depO (V := (VTk12s Ba off L cap M nm c9 cm lp B9 o9 am ad2 x root A)) hdep 17 101 (by kernel_rfl) (by kernel_rfl)
              clear hdep hsame hi hlate hfr hkeep
              exact .inl ⟨wanted_of 17 rfl eg (by kernel_rfl), showsO_mid hsn rfl 24 (.tmp 108) rfl Ba (off + M * 32) e108 (bcells x) hr underH rfl (hszB' XL.out) rfl⟩
            | 26, hi =>
              cases (show some _ = some o from hi)
              have e9 : f.tmps.getD 9 undef = .slice (some ⟨B9, o9, none⟩) (lp + 1) c9 := hsame.slot 9 (fun i o h => invB2_not 9 (by kernel_rfl) h)
              have eg : f.tmps.getD 101 undef = .bool true := depO (V := (VTk12s Ba off L cap M nm c9 cm lp B9 o9 am ad2 x root A)) hdep 17 101 (by kernel_rfl) (by kernel_rfl)
              clear hdep hsame hi hlate hfr hkeep
              exact .inl ⟨wanted_of 17 rfl eg (by kernel_rfl), showsO_move hsn rfl _ rfl e9⟩
            | 27, hi =>
              cases (show some _ = some o from hi)
              have e110 : (f.tmps.getD 110 undef) = .slice (some ⟨B9, o9, none⟩) (lp + 1) c9 := depO (V := (VTk12s Ba off L cap M nm c9 cm lp B9 o9 am ad2 x root A)) hdep 26 110 (by kernel_rfl) (by kernel_rfl)
              have eg : f.tmps.getD 101 undef = .bool true := depO (V := (VTk12s Ba off L cap M nm c9 cm lp B9 o9 am ad2 x root A)) hdep 17 101 (by kernel_rfl) (by kernel_rfl)
              clear hdep hsame hi hlate hfr hkeep
              have f1 : ¬ (lp : Int) + 1 < 1 := by omega
              have f2 : (1 : Int) ≤ (lp : Int) + 1 := by omega
              have f3 := CG.out
              have had := HAD.out
              exact .inl ⟨wanted_of 17 rfl eg (by kernel_rfl), showsO_pure hsn rfl (.slice ad2 lp (c9 - 1)) (by (rcases had with ⟨hc, hd⟩ | ⟨hc, hd⟩); (subst hc; subst hd; obtain rfl : lp = 0 := (by omega); simp only [execOp, Act.eval]; go_simp); (subst hd; simp only [execOp, Act.eval]; go_simp)) rfl⟩
            | 28, hi =>
              cases (show some _ = some o from hi)
              have e8 : f.tmps.getD 8 undef = .pointer (some ⟨n8, 0, none⟩) := hsame.slot 8 (fun i o h => invB2_not 8 (by kernel_rfl) h)
              have eg : f.tmps.getD 101 undef = .bool true := depO (V := (VTk12s Ba off L cap M nm c9 cm lp B9 o9 am ad2 x root A)) hdep 17 101 (by kernel_rfl) (by kernel_rfl)
              clear hdep hsame hi hlate hfr hkeep
              exact .inl ⟨wanted_of 17 rfl eg (by kernel_rfl), showsO_row hsn rfl 24 (.tmp 8) rfl n8 e8 (ocells root) (hro) underH rfl (hszL RL.out) rfl⟩
            | 29, hi =>
              cases (show some _ = some o from hi)
              have e103 : (f.tmps.getD 103 undef) = .int .u64 (M : Int) := depO (V := (VTk12s Ba off L cap M nm c9 cm lp B9 o9 am ad2 x root A)) hdep 19 103 (by kernel_rfl) (by kernel_rfl)
              have e105 : (f.tmps.getD 105 undef) = .int .u64 (L : Int) := depO (V := (VTk12s Ba off L cap M nm c9 cm lp B9 o9 am ad2 x root A)) hdep 21 105 (by kernel_rfl) (by kernel_rfl)
              have e109 : (f.tmps.getD 109 undef) = .agg (ocells (x)) := depO (V := (VTk12s Ba off L cap M nm c9 cm lp B9 o9 am ad2 x root A)) hdep 25 109 (by kernel_rfl) (by kernel_rfl)
              have e111 : (f.tmps.getD 111 undef) = .slice ad2 lp (c9 - 1) := depO (V := (VTk12s Ba off L cap M nm c9 cm lp B9 o9 am ad2 x root A)) hdep 27 111 (by kernel_rfl) (by kernel_rfl)
              have e112 : (f.tmps.getD 112 undef) = .agg (ocells (root)) := depO (V := (VTk12s Ba off L cap M nm c9 cm lp B9 o9 am ad2 x root A)) hdep 28 112 (by kernel_rfl) (by kernel_rfl)
              have eg : f.tmps.getD 101 undef = .bool true := depO (V := (VTk12s Ba off L cap M nm c9 cm lp B9 o9 am ad2 x root A)) hdep 17 101 (by kernel_rfl) (by kernel_rfl)
              clear hdep hsame hi hlate hfr hkeep
              have c := incl_any A u M L (by have := ML.out; have := L2.out; omega) (by have := L2.out; omega) x XL.out _ _ _ pr (HPR.out.below hb6) root RL.out (HT.out.below hku)
              rw [hv_agg, hv_agg, IM2.out] at c
              exact .inl ⟨wanted_of 17 rfl eg (by kernel_rfl), showsO_call1 hsn rfl 14 #[.int .u64 (M : Int), .int .u64 (L : Int), .agg (ocells (x)), .slice ad2 lp (c9 - 1), .agg (ocells (root))] (by simp only [execOp, Act.eval]; go_simp) (c) (fun _ => rfl)⟩
            | 30, hi =>
              cases (show some _ = some o from hi)
              have e113 : (f.tmps.getD 113 undef) = errVal A 9 := depO (V := (VTk12s Ba off L cap M nm c9 cm lp B9 o9 am ad2 x root A)) hdep 29 113 (by kernel_rfl) (by kernel_rfl)
              have eg : f.tmps.getD 101 undef = .bool true := depO (V := (VTk12s Ba off L cap M nm c9 cm lp B9 o9 am ad2 x root A)) hdep 17 101 (by kernel_rfl) (by kernel_rfl)
              clear hdep hsame hi hlate hfr hkeep
              have c := isE_any (HT.out.below hku).err (ErrV.plain 9 (by decide)) 10
              exact .inl ⟨wanted_of 17 rfl eg (by kernel_rfl), showsO_call1 hsn rfl 27 #[errVal A 9, .int .i64 10] (by simp only [execOp, Act.eval]; go_simp) (c) (fun _ => rfl)⟩
            | 31, hi =>
              cases (show some _ = some o from hi)
              have e114 : (f.tmps.getD 114 undef) = .bool true := depO (V := (VTk12s Ba off L cap M nm c9 cm lp B9 o9 am ad2 x root A)) hdep 30 114 (by kernel_rfl) (by kernel_rfl)
              have eg : f.tmps.getD 101 undef = .bool true := depO (V := (VTk12s Ba off L cap M nm c9 cm lp B9 o9 am ad2 x root A)) hdep 17 101 (by kernel_rfl) (by kernel_rfl)
              clear hdep hsame hi hlate hfr hkeep
              exact .inl ⟨wanted_of 17 rfl eg (by kernel_rfl), showsO_pure hsn rfl (.bool false) (by simp only [execOp, Act.eval]; go_simp) rfl⟩
            | 32, hi =>
              cases (show some _ = some o from hi)
              have e101 : (f.tmps.getD 101 undef) = .bool true := depO (V := (VTk12s Ba off L cap M nm c9 cm lp B9 o9 am ad2 x root A)) hdep 17 101 (by kernel_rfl) (by kernel_rfl)
              have e115 : (f.tmps.getD 115 undef) = .bool false := depO (V := (VTk12s Ba off L cap M nm c9 cm lp B9 o9 am ad2 x root A)) hdep 31 115 (by kernel_rfl) (by kernel_rfl)
              have eg : f.tmps.getD 97 undef = .bool false := depO (V := (VTk12s Ba off L cap M nm c9 cm lp B9 o9 am ad2 x root A)) hdep 13 97 (by kernel_rfl) (by kernel_rfl)
              clear hdep hsame hi hlate hfr hkeep
              exact .inl ⟨wanted_of 13 rfl eg (by kernel_rfl), showsO_pure hsn rfl (.bool false) (by simp only [execOp, Act.eval]; go_simp) rfl⟩
            | 33, hi =>
              cases (show some _ = some o from hi)
              have e97 : (f.tmps.getD 97 undef) = .bool false := depO (V := (VTk12s Ba off L cap M nm c9 cm lp B9 o9 am ad2 x root A)) hdep 13 97 (by kernel_rfl) (by kernel_rfl)
              have e116 : (f.tmps.getD 116 undef) = .bool false := depO (V := (VTk12s Ba off L cap M nm c9 cm lp B9 o9 am ad2 x root A)) hdep 32 116 (by kernel_rfl) (by kernel_rfl)
              clear hdep hsame hi hlate hfr hkeep
              exact .inl ⟨wanted_none rfl, showsO_pure hsn rfl (.bool false) (by simp only [execOp, Act.eval]; go_simp) rfl⟩
            | n + 34, hi => exact absurd hi (by simp)
          · intro f u own hsame hsn hall
            have hb6 := hsn.below (B := u2.heap.size) (fun _ _ => rfl) (Nat.le_refl _)
            have q84 : f.tmps.getD 84 undef = .int .i64 (M : Int) := finO (V := (VTk12s Ba off L cap M nm c9 cm lp B9 o9 am ad2 x root A)) hall 0 84 rfl
            have q85 : f.tmps.getD 85 undef = .int .u64 (M : Int) := finO (V := (VTk12s Ba off L cap M nm c9 cm lp B9 o9 am ad2 x root A)) hall 1 85 rfl
            have q86 : f.tmps.getD 86 undef = .int .i64 (L : Int) := finO (V := (VTk12s Ba off L cap M nm c9 cm lp B9 o9 am ad2 x root A)) hall 2 86 rfl
            have q87 : f.tmps.getD 87 undef = .int .u64 (L : Int) := finO (V := (VTk12s Ba off L cap M nm c9 cm lp B9 o9 am ad2 x root A)) hall 3 87 rfl
            have q88 : f.tmps.getD 88 undef = .slice (some ⟨Ba, off, none⟩) L cap := finO (V := (VTk12s Ba off L cap M nm c9 cm lp B9 o9 am ad2 x root A)) hall 4 88 rfl
            have q89 : f.tmps.getD 89 undef = .int .i64 (M : Int) := finO (V := (VTk12s Ba off L cap M nm c9 cm lp B9 o9 am ad2 x root A)) hall 5 89 rfl
            have q90 : f.tmps.getD 90 undef = .pointer (some ⟨Ba, off + M * 32, none⟩) := finO (V := (VTk12s Ba off L cap M nm c9 cm lp B9 o9 am ad2 x root A)) hall 6 90 rfl
            have q91 : f.tmps.getD 91 undef = .agg (ocells (x)) := finO (V := (VTk12s Ba off L cap M nm c9 cm lp B9 o9 am ad2 x root A)) hall 7 91 rfl
            have q92 : f.tmps.getD 92 undef = .slice am nm cm := finO (V := (VTk12s Ba off L cap M nm c9 cm lp B9 o9 am ad2 x root A)) hall 8 92 rfl
            have q93 : f.tmps.getD 93 undef = .agg (ocells (root)) := finO (V := (VTk12s Ba off L cap M nm c9 cm lp B9 o9 am ad2 x root A)) hall 9 93 rfl
            have q94 : f.tmps.getD 94 undef = errVal A 9 := finO (V := (VTk12s Ba off L cap M nm c9 cm lp B9 o9 am ad2 x root A)) hall 10 94 rfl
            have q95 : f.tmps.getD 95 undef = .bool true := finO (V := (VTk12s Ba off L cap M nm c9 cm lp B9 o9 am ad2 x root A)) hall 11 95 rfl
            have q96 : f.tmps.getD 96 undef = .bool false := finO (V := (VTk12s Ba off L cap M nm c9 cm lp B9 o9 am ad2 x root A)) hall 12 96 rfl
            have q97 : f.tmps.getD 97 undef = .bool false := finO (V := (VTk12s Ba off L cap M nm c9 cm lp B9 o9 am ad2 x root A)) hall 13 97 rfl
            have q98 : f.tmps.getD 98 undef = .slice (some ⟨B9, o9, none⟩) (lp + 1) c9 := finO (V := (VTk12s Ba off L cap M nm c9 cm lp B9 o9 am ad2 x root A)) hall 14 98 rfl
            have q99 : f.tmps.getD 99 undef = .int .i64 ((lp : Int) + 1) := finO (V := (VTk12s Ba off L cap M nm c9 cm lp B9 o9 am ad2 x root A)) hall 15 99 rfl
            have q100 : f.tmps.getD 100 undef = .bool true := finO (V := (VTk12s Ba off L cap M nm c9 cm lp B9 o9 am ad2 x root A)) hall 16 100 rfl
            have q101 : f.tmps.getD 101 undef = .bool true := finO (V := (VTk12s Ba off L cap M nm c9 cm lp B9 o9 am ad2 x root A)) hall 17 101 rfl
            have q102 : f.tmps.getD 102 undef = .int .i64 (M : Int) := finO (V := (VTk12s Ba off L cap M nm c9 cm lp B9 o9 am ad2 x root A)) hall 18 102 rfl
            have q103 : f.tmps.getD 103 undef = .int .u64 (M : Int) := finO (V := (VTk12s Ba off L cap M nm c9 cm lp B9 o9 am ad2 x root A)) hall 19 103 rfl
            have q104 : f.tmps.getD 104 undef = .int .i64 (L : Int) := finO (V := (VTk12s Ba off L cap M nm c9 cm lp B9 o9 am ad2 x root A)) hall 20 104 rfl
            have q105 : f.tmps.getD 105 undef = .int .u64 (L : Int) := finO (V := (VTk12s Ba off L cap M nm c9 cm lp B9 o9 am ad2 x root A)) hall 21 105 rfl
            have q106 : f.tmps.getD 106 undef = .slice (some ⟨Ba, off, none⟩) L cap := finO (V := (VTk12s Ba off L cap M nm c9 cm lp B9 o9 am ad2 x root A)) hall 22 106 rfl
            have q107 : f.tmps.getD 107 undef = .int .i64 (M : Int) := finO (V := (VTk12s Ba off L cap M nm c9 cm lp B9 o9 am ad2 x root A)) hall 23 107 rfl
            have q108 : f.tmps.getD 108 undef = .pointer (some ⟨Ba, off + M * 32, none⟩) := finO (V := (VTk12s Ba off L cap M nm c9 cm lp B9 o9 am ad2 x root A)) hall 24 108 rfl
            have q109 : f.tmps.getD 109 undef = .agg (ocells (x)) := finO (V := (VTk12s Ba off L cap M nm c9 cm lp B9 o9 am ad2 x root A)) hall 25 109 rfl
            have q110 : f.tmps.getD 110 undef = .slice (some ⟨B9, o9, none⟩) (lp + 1) c9 := finO (V := (VTk12s Ba off L cap M nm c9 cm lp B9 o9 am ad2 x root A)) hall 26 110 rfl
            have q111 : f.tmps.getD 111 undef = .slice ad2 lp (c9 - 1) := finO (V := (VTk12s Ba off L cap M nm c9 cm lp B9 o9 am ad2 x root A)) hall 27 111 rfl
            have q112 : f.tmps.getD 112 undef = .agg (ocells (root)) := finO (V := (VTk12s Ba off L cap M nm c9 cm lp B9 o9 am ad2 x root A)) hall 28 112 rfl
            have q113 : f.tmps.getD 113 undef = errVal A 9 := finO (V := (VTk12s Ba off L cap M nm c9 cm lp B9 o9 am ad2 x root A)) hall 29 113 rfl
            have q114 : f.tmps.getD 114 undef = .bool true := finO (V := (VTk12s Ba off L cap M nm c9 cm lp B9 o9 am ad2 x root A)) hall 30 114 rfl
            have q115 : f.tmps.getD 115 undef = .bool false := finO (V := (VTk12s Ba off L cap M nm c9 cm lp B9 o9 am ad2 x root A)) hall 31 115 rfl
            have q116 : f.tmps.getD 116 undef = .bool false := finO (V := (VTk12s Ba off L cap M nm c9 cm lp B9 o9 am ad2 x root A)) hall 32 116 rfl
            have q117 : f.tmps.getD 117 undef = .bool false := finO (V := (VTk12s Ba off L cap M nm c9 cm lp B9 o9 am ad2 x root A)) hall 33 117 rfl
            obtain rfl := frame_eq hsame [(84, .int .i64 (M : Int)), (85, .int .u64 (M : Int)), (86, .int .i64 (L : Int)), (87, .int .u64 (L : Int)), (88, .slice (some ⟨Ba, off, none⟩) L cap), (89, .int .i64 (M : Int)), (90, .pointer (some ⟨Ba, off + M * 32, none⟩)), (91, .agg (ocells (x))), (92, .slice am nm cm), (93, .agg (ocells (root))), (94, errVal A 9), (95, .bool true), (96, .bool false), (97, .bool false), (98, .slice (some ⟨B9, o9, none⟩) (lp + 1) c9), (99, .int .i64 ((lp : Int) + 1)), (100, .bool true), (101, .bool true), (102, .int .i64 (M : Int)), (103, .int .u64 (M : Int)), (104, .int .i64 (L : Int)), (105, .int .u64 (L : Int)), (106, .slice (some ⟨Ba, off, none⟩) L cap), (107, .int .i64 (M : Int)), (108, .pointer (some ⟨Ba, off + M * 32, none⟩)), (109, .agg (ocells (x))), (110, .slice (some ⟨B9, o9, none⟩) (lp + 1) c9), (111, .slice ad2 lp (c9 - 1)), (112, .agg (ocells (root))), (113, errVal A 9), (114, .bool true), (115, .bool false), (116, .bool false), (117, .bool false)] (by kernel_rfl) ⟨q84, q85, q86, q87, q88, q89, q90, q91, q92, q93, q94, q95, q96, q97, q98, q99, q100, q101, q102, q103, q104, q105, q106, q107, q108, q109, q110, q111, q112, q113, q114, q115, q116, q117, trivial⟩
            clear hall hsame q84 q85 q86 q87 q88 q89 q90 q91 q92 q93 q94 q95 q96 q97 q98 q99 q100 q101 q102 q103 q104 q105 q106 q107 q108 q109 q110 q111 q112 q113 q114 q115 q116 q117
            simp only [List.foldl, List.setIfInBounds_toArray, List.set_cons_succ, List.set_cons_zero]
            have HB := Bx.mk hb6
            clear hb6 hsn
            go_wp2_with fail
            go_meet
            case rel => exact ⟨rfl, HB.out⟩
      case rest =>
      obtain ⟨rfl, hb⟩ := hcut
      have K7 := Bx.mk (K6.out.trans (hb.mono K6.out.size)); have RO6 := Bx.mk (RO5.out.below hb); have OP5 := Bx.mk (own_keep OP4.out (Keep.of_below hb (fun _ => False)) (fun _ _ h => h)); have HP5 := Bx.mk (HP4.out.below hb); have HM1 := Bx.mk (HM0.out.below hb)
      clear hb K6 RO5 OP4 HP4 HM0
      go_wp2_with fail
      refine (C14.out wc K7.out).mono ?_
      rintro e w4 ⟨v13, rfl, hop, hb⟩
      obtain ⟨a13, c13, rfl, q1, q2, q3⟩ := own_shape hop
      have hhp := hss_own hop Q32.out rfl
      obtain ⟨nq, hnq⟩ : ∃ nq, nq = Q.length := ⟨_, rfl⟩
      rw [← hnq] at hop hhp NQ0 ⊢
      have OQ0 := Bx.mk hop; have HQ0 := Bx.mk hhp; have HNQ := Bx.mk hnq
      clear hop hhp q1 q2 q3 C14 hnq
      have K8 := Bx.mk (K7.out.trans (hb.mono K7.out.size)); have RO7 := Bx.mk (RO6.out.below hb); have HP6 := Bx.mk (HP5.out.below hb)
      clear hb K7 RO6 HP5
      have f1 : (0 : Int) ≤ (O : Int) := by omega
      have f2 : (O : Int) ≤ (cap : Int) := by have := OB.out; have := LC.out; omega
      go_wp2_with fail
      refine (C15.out w4 K8.out).mono ?_
      rintro e w5 ⟨rfl, hb⟩
      clear C15 f1 f2
      have K9 := Bx.mk (K8.out.trans (hb.mono K8.out.size)); have RO8 := Bx.mk (RO7.out.below hb); have HP7 := Bx.mk (HP6.out.below hb); have OQ1 := Bx.mk (own_keep OQ0.out (Keep.of_below hb (fun _ => False)) (fun _ _ h => h)); have HQ1 := Bx.mk (HQ0.out.below hb)
      clear hb K8 RO7 HP6 OQ0 HQ0
      go_upto_region 16 with (guard_target =~ wpList _ _ _ (⟨none, _, _, _, _, _⟩ :: _) _ _; refine wpList_store_row rfl 24 (.tmp 14) (.tmp 124) rfl w5.heap.size (ocells old) rfl rfl _ zeros32 (heap_alloc_new _ _) (hszL OL.out) (hsoL OL.out) (ocells_one _) ?_; rw [setRow_alloc_new _ _ _ _ _ rfl])
      have xn := HashAt.new w5 old OL.out
      have hb := er_al (Below.refl w5.heap.size w5) (.cells (ocells old) 24)
      generalize w5.alloc (.cells (ocells old) 24) = W5 at xn hb ⊢
      obtain ⟨n14, hn⟩ : ∃ n, n = w5.heap.size := ⟨_, rfl⟩
      rw [← hn] at xn ⊢
      have OD0 := Bx.mk xn
      clear xn hn
      have K10 := Bx.mk (K9.out.trans (hb.mono K9.out.size)); have RO9 := Bx.mk (RO8.out.below hb); have HP8 := Bx.mk (HP7.out.below hb); have OQ2 := Bx.mk (own_keep OQ1.out (Keep.of_below hb (fun _ => False)) (fun _ _ h => h)); have HQ2 := Bx.mk (HQ1.out.below hb)
      clear hb K9 RO8 HP7 OQ1 HQ1
      have c16 := cons_any A W5 O L (by have := OB.out; have := L2.out; omega) (by have := L2.out; omega) old root OL.out RL.out _ _ _ Q HQ2.out (HT.out.below K10.out)
      rw [hv_agg, hv_agg, CV.out] at c16
      have C16 := Bx.mk c16
      have d1 := UO.out; have d2 := UL.out
      clear c16
      go_wp2_with (first | (guard_target =~ wpList _ _ _ (⟨some 129, _, _, _, _, _⟩ :: _) _ _; refine wpList_load_row rfl 24 (.tmp 14) rfl n14 rfl _ _ _ _ OD0.out.1 underH rfl (hszL OL.out) ?_) | (guard_target =~ wpList _ _ _ (⟨some 130, _, _, _, _, _⟩ :: _) _ _; refine wpList_load_row rfl 24 (.tmp 8) rfl n8 rfl _ _ _ _ RO9.out.1 underH rfl (hszL RL.out) ?_))
      refine C16.out.mono ?_
      rintro e w6 ⟨rfl, hb⟩
      clear C16 d1 d2
      have K11 := Bx.mk (K10.out.trans (hb.mono K10.out.size)); have RO10 := Bx.mk (RO9.out.below hb); have HP9 := Bx.mk (HP8.out.below hb); have OQ3 := Bx.mk (own_keep OQ2.out (Keep.of_below hb (fun _ => False)) (fun _ _ h => h)); have HQ3 := Bx.mk (HQ2.out.below hb); have OD1 := Bx.mk (OD0.out.below hb)
      clear hb K10 RO9 HP8 OQ2 HQ2 OD0
      go_upto_region 18 with (fail)
      have NQ := Bx.mk (show nq ≤ 64 by have := NQ0.out; omega)
      refine wp_region_own6 VTk18till (n := 195) VTk18mk (fun _ => none) (VTk18 nq c13 a13 root Q) (by kernel_rfl) (by kernel_rfl) rfl (fun _ _ => rfl) (fun _ _ _ _ h => by cases h) ?_ ?_ ?_
      · exact fun oi oj v own w own' w' hij hnd ht h r => VTk18_mono nq c13 a13 root Q oi oj v own w own' w' hij ht (by rintro rfl rfl; exact Bool.noConfusion (hnd.symm.trans (show depB _ 6 5 = true by kernel_rfl))) h r
      · intro oi o hi f u own hsame hsn hfr hlate hkeep hdep
        have hb6 := hsn.below (B := w6.heap.size) (fun _ _ => rfl) (Nat.le_refl _)
        have hku := K11.out.trans (hb6.mono K11.out.size)
        have hr := rangeAt_below RX.out BLT.out hku
        have hro := (RO10.out.below hb6).1
        match oi, hi with
        | 0, hi =>
          cases (show some _ = some o from hi)
          clear hdep hsame hi hlate hfr hkeep
          exact .inl ⟨wanted_none rfl, showsO_built hsn rfl 0 24 #[] (run_bs_zero u rfl) (fun h => h)⟩
        | 1, hi =>
          cases (show some _ = some o from hi)
          have e13 : f.tmps.getD 13 undef = .slice a13 nq c13 := hsame.slot 13 (fun i o h => invB2_not 13 (by kernel_rfl) h)
          clear hdep hsame hi hlate hfr hkeep
          exact .inl ⟨wanted_none rfl, showsO_move hsn rfl _ rfl e13⟩
        | 2, hi =>
          cases (show some _ = some o from hi)
          have e134 : BuiltV own u (f.tmps.getD 134 undef) 0 24 #[] := depT (V := (VTk18 nq c13 a13 root Q)) hdep 0 134 (by kernel_rfl) (by kernel_rfl) (.inl rfl)
          have e135 : (f.tmps.getD 135 undef) = .slice a13 nq c13 := depT (V := (VTk18 nq c13 a13 root Q)) hdep 1 135 (by kernel_rfl) (by kernel_rfl) (.inl rfl)
          clear hdep hsame hi hlate hfr
          exact .inl ⟨wanted_none rfl, showsO_appendFirst hsn rfl (.tmp 134) (.tmp 135) 25 rfl 5 rfl 24 i0 (.agg zeros32) 32 32 underHs RI.out.1 RI.out.2.1 RI.out.2.2.1 RI.out.2.2.2 rfl (by decide) e134 a13 nq c13 (hcells Q) e135 (own_nil (own_keep OQ3.out (Keep.of_below hb6 (fun _ => False)) (fun _ _ h => h))) (own_keep OQ3.out (Keep.of_below hb6 (fun _ => False)) (fun _ _ h => h)).1 (own_news (own_keep OQ3.out (Keep.of_below hb6 (fun _ => False)) (fun _ _ h => h))) hcells_one (by have := NQ.out; unfold maxLen; omega) (by have := NQ.out; omega) (fun _ _ _ h => h)⟩
        | 3, hi =>
          cases (show some _ = some o from hi)
          have e8 : f.tmps.getD 8 undef = .pointer (some ⟨n8, 0, none⟩) := hsame.slot 8 (fun i o h => invB2_not 8 (by kernel_rfl) h)
          clear hdep hsame hi hlate hfr hkeep
          exact .inl ⟨wanted_none rfl, showsO_row hsn rfl 24 (.tmp 8) rfl n8 e8 (ocells root) (hro) underH rfl (hszL RL.out) rfl⟩
        | 4, hi =>
          cases (show some _ = some o from hi)
          have e137 : (f.tmps.getD 137 undef) = .agg (ocells (root)) := depT (V := (VTk18 nq c13 a13 root Q)) hdep 3 137 (by kernel_rfl) (by kernel_rfl) (.inl rfl)
          clear hdep hsame hi hlate hfr hkeep
          exact .inl ⟨wanted_none rfl, showsO_built hsn rfl 1 24 (ocells root) (run_bs_one u (.tmp 137) rfl root RL.out e137) (fun h => h)⟩
        | 5, hi =>
          cases (show some _ = some o from hi)
          have e136 : RowC own u (f.tmps.getD 136 undef) 5 0 24 32 nq (hcells Q) := depT (V := (VTk18 nq c13 a13 root Q)) hdep 2 136 (by kernel_rfl) (by kernel_rfl) (.inr rfl)
          have e138 : BuiltV own u (f.tmps.getD 138 undef) 1 24 (ocells root) := depT (V := (VTk18 nq c13 a13 root Q)) hdep 4 138 (by kernel_rfl) (by kernel_rfl) (.inl rfl)
          clear hdep hsame hi hlate hfr
          exact .inl ⟨wanted_none rfl, showsO_appendLast hsn rfl (.tmp 136) (.tmp 138) 25 rfl 24 i0 (.agg zeros32) 32 32 underHs RI.out.1 RI.out.2.1 RI.out.2.2.1 RI.out.2.2.2 rfl (by decide) nq (hcells Q) e136 e138 (by decide) (by rw [ocells_size, RL.out]) (ocells_one _) (by have := NQ.out; unfold maxLen; omega) (by have := NQ.out; omega) (fun _ _ _ h => h)⟩
        | 6, hi =>
          cases (show some _ = some o from hi)
          have e139 : GrownV own u 5 0 24 32 (f.tmps.getD 139 undef) (nq + 1) (hcells Q ++ (ocells root).toList) := depT (V := (VTk18 nq c13 a13 root Q)) hdep 5 139 (by kernel_rfl) (by kernel_rfl) (.inl rfl)
          clear hdep hsame hi hlate hfr hkeep
          exact .inl ⟨wanted_none rfl, showsO_assign hsn rfl _ rfl e139⟩
        | n + 7, hi => exact absurd hi (by simp)
      · intro f u3 own hsame hsn hall
        have hb := hsn.below (B := w6.heap.size) (fun _ _ => rfl) (Nat.le_refl _)
        obtain ⟨g134, q134, o134, m134⟩ : BuiltV own u3 (f.tmps.getD 134 undef) 0 24 #[] := (finT (V := (VTk18 nq c13 a13 root Q)) hall 0 134 rfl rfl)
        have q135 : f.tmps.getD 135 undef = .slice a13 nq c13 := (finT (V := (VTk18 nq c13 a13 root Q)) hall 1 135 rfl rfl)
        obtain ⟨r136, q136⟩ : ∃ r, f.tmps.getD 136 undef = r := ⟨_, rfl⟩
        have q137 : f.tmps.getD 137 undef = .agg (ocells (root)) := (finT (V := (VTk18 nq c13 a13 root Q)) hall 3 137 rfl rfl)
        obtain ⟨g138, q138, o138, m138⟩ : BuiltV own u3 (f.tmps.getD 138 undef) 1 24 (ocells root) := (finT (V := (VTk18 nq c13 a13 root Q)) hall 4 138 rfl rfl)
        have m139 := (finT (V := (VTk18 nq c13 a13 root Q)) hall 5 139 rfl rfl)
        obtain ⟨r139, q139⟩ : ∃ r, f.tmps.getD 139 undef = r := ⟨_, rfl⟩
        rw [q139] at m139
        have m12 := (finT (V := (VTk18 nq c13 a13 root Q)) hall 6 12 rfl rfl)
        obtain ⟨r12, q12⟩ : ∃ r, f.tmps.getD 12 undef = r := ⟨_, rfl⟩
        rw [q12] at m12
        obtain rfl := frame_eq hsame [(134, .slice (some ⟨g134, 0, none⟩) 0 0), (135, .slice a13 nq c13), (136, r136), (137, .agg (ocells (root))), (138, .slice (some ⟨g138, 0, none⟩) 1 1), (139, r139), (12, r12)] (by kernel_rfl) ⟨q134, q135, q136, q137, q138, q139, q12, trivial⟩
        clear hall hsame q134 q135 q136 q137 q138 q139 q12
        simp only [List.foldl, List.setIfInBounds_toArray, List.set_cons_succ, List.set_cons_zero]
        have hrow := m12.1
        rw [hcells_push] at hrow
        have hmm := hss_own hrow (by intro z hz; rcases List.mem_append.1 hz with h | h; exact Q32.out z h; rw [List.mem_singleton] at h; rw [h]; exact RL.out) (by rw [List.length_append, List.length_singleton, ← HNQ.out])
        obtain ⟨am, cm, rfl, q1, q2, q3⟩ := own_shape hrow
        have HM0 := Bx.mk hmm
        clear hsn hrow hmm q1 q2 q3 m12 m139
        have K12 := Bx.mk (K11.out.trans (hb.mono K11.out.size)); have RO11 := Bx.mk (RO10.out.below hb); have HP10 := Bx.mk (HP9.out.below hb); have OQ4 := Bx.mk (own_keep OQ3.out (Keep.of_below hb (fun _ => False)) (fun _ _ h => h)); have HQ4 := Bx.mk (HQ3.out.below hb); have OD2 := Bx.mk (OD1.out.below hb)
        clear hb K11 RO10 HP9 OQ3 HQ3 OD1
        have CM1 := Bx.mk (CMF.out (Q ++ [root]) (by rw [List.length_append, List.length_singleton]; omega))
        obtain ⟨nm, hnm⟩ : ∃ nm, nm = nq + 1 := ⟨_, rfl⟩
        rw [← hnm] at HM0 ⊢
        clear hnm
        go_upto_region 19 with (fail)
        go_cut [167] (fun v wc => v = .bool false ∧ Below u3.heap.size u3 wc)
        case first =>
          rcases hQc : Q with _ | ⟨p0, pr⟩
          · obtain rfl : nq = 0 := by rw [HNQ.out, hQc]; rfl
            clear hQc
            refine wp_region_own4 (n := 195) VTk19nmk (fun _ => none) (VTk19n L O nm cm c13 am a13 root old A) (by kernel_rfl) (by kernel_rfl) rfl (fun _ _ => rfl) (fun j i hj _ => by cases hj) ?_ ?_ ?_
            · exact fun oi oj v own w own' w' hij _ h r => VTk19n_mono L O nm cm c13 am a13 root old A oi oj v own w own' w' hij h r
            · intro oi o hi f u own hsame hsn hfr hlate hkeep hdep
              have hb6 := hsn.below (B := u3.heap.size) (fun _ _ => rfl) (Nat.le_refl _)
              have hku := K12.out.trans (hb6.mono K12.out.size)
              have hr := rangeAt_below RX.out BLT.out hku
              have hro := (RO11.out.below hb6).1
              have hod := (OD2.out.below hb6).1
              match oi, hi with
              | 0, hi =>
                cases (show some _ = some o from hi)
                have e2 : f.tmps.getD 2 undef = .int .i64 (O : Int) := hsame.slot 2 (fun i o h => invB2_not 2 (by kernel_rfl) h)
                clear hdep hsame hi hlate hfr hkeep
                exact .inl ⟨wanted_none rfl, showsO_move hsn rfl _ rfl e2⟩
              | 1, hi =>
                cases (show some _ = some o from hi)
                have e140 : (f.tmps.getD 140 undef) = .int .i64 (O : Int) := depO (V := (VTk19n L O nm cm c13 am a13 root old A)) hdep 0 140 (by kernel_rfl) (by kernel_rfl)
                clear hdep hsame hi hlate hfr hkeep
                have d1 : IntKind.u64.wrap (O : Int) = (O : Int) := UO.out
                exact .inl ⟨wanted_none rfl, showsO_pure hsn rfl (.int .u64 (O : Int)) (by simp only [execOp, Act.eval]; go_simp) rfl⟩
              | 2, hi =>
                cases (show some _ = some o from hi)
                have e7 : f.tmps.getD 7 undef = .int .i64 (L : Int) := hsame.slot 7 (fun i o h => invB2_not 7 (by kernel_rfl) h)
                clear hdep hsame hi hlate hfr hkeep
                exact .inl ⟨wanted_none rfl, showsO_move hsn rfl _ rfl e7⟩
              | 3, hi =>
                cases (show some _ = some o from hi)
                have e142 : (f.tmps.getD 142 undef) = .int .i64 (L : Int) := depO (V := (VTk19n L O nm cm c13 am a13 root old A)) hdep 2 142 (by kernel_rfl) (by kernel_rfl)
                clear hdep hsame hi hlate hfr hkeep
                have d1 : IntKind.u64.wrap (L : Int) = (L : Int) := UL.out
                exact .inl ⟨wanted_none rfl, showsO_pure hsn rfl (.int .u64 (L : Int)) (by simp only [execOp, Act.eval]; go_simp) rfl⟩
              | 4, hi =>
                cases (show some _ = some o from hi)
                have e14 : f.tmps.getD 14 undef = .pointer (some ⟨n14, 0, none⟩) := hsame.slot 14 (fun i o h => invB2_not 14 (by kernel_rfl) h)
                clear hdep hsame hi hlate hfr hkeep
                exact .inl ⟨wanted_none rfl, showsO_row hsn rfl 24 (.tmp 14) rfl n14 e14 (ocells old) (hod) underH rfl (hszL OL.out) rfl⟩
              | 5, hi =>
                cases (show some _ = some o from hi)
                have e8 : f.tmps.getD 8 undef = .pointer (some ⟨n8, 0, none⟩) := hsame.slot 8 (fun i o h => invB2_not 8 (by kernel_rfl) h)
                clear hdep hsame hi hlate hfr hkeep
                exact .inl ⟨wanted_none rfl, showsO_row hsn rfl 24 (.tmp 8) rfl n8 e8 (ocells root) (hro) underH rfl (hszL RL.out) rfl⟩
              | 6, hi =>
                cases (show some _ = some o from hi)
                have e12 : f.tmps.getD 12 undef = .slice am nm cm := hsame.slot 12 (fun i o h => invB2_not 12 (by kernel_rfl) h)
                clear hdep hsame hi hlate hfr hkeep
                exact .inl ⟨wanted_none rfl, showsO_move hsn rfl _ rfl e12⟩
              | 7, hi =>
                cases (show some _ = some o from hi)
                have e141 : (f.tmps.getD 141 undef) = .int .u64 (O : Int) := depO (V := (VTk19n L O nm cm c13 am a13 root old A)) hdep 1 141 (by kernel_rfl) (by kernel_rfl)
                have e143 : (f.tmps.getD 143 undef) = .int .u64 (L : Int) := depO (V := (VTk19n L O nm cm c13 am a13 root old A)) hdep 3 143 (by kernel_rfl) (by kernel_rfl)
                have e144 : (f.tmps.getD 144 undef) = .agg (ocells (old)) := depO (V := (VTk19n L O nm cm c13 am a13 root old A)) hdep 4 144 (by kernel_rfl) (by kernel_rfl)
                have e145 : (f.tmps.getD 145 undef) = .agg (ocells (root)) := depO (V := (VTk19n L O nm cm c13 am a13 root old A)) hdep 5 145 (by kernel_rfl) (by kernel_rfl)
                have e146 : (f.tmps.getD 146 undef) = .slice am nm cm := depO (V := (VTk19n L O nm cm c13 am a13 root old A)) hdep 6 146 (by kernel_rfl) (by kernel_rfl)
                clear hdep hsame hi hlate hfr hkeep
                have c := cons_any A u O L (by have := OB.out; have := L2.out; omega) (by have := L2.out; omega) old root OL.out RL.out _ _ _ (Q ++ [root]) (HM0.out.below hb6) (HT.out.below hku)
                rw [hv_agg, hv_agg, CM1.out] at c
                exact .inl ⟨wanted_none rfl, showsO_call1 hsn rfl 17 #[.int .u64 (O : Int), .int .u64 (L : Int), .agg (ocells (old)), .agg (ocells (root)), .slice am nm cm] (by simp only [execOp, Act.eval]; go_simp) (c) (fun _ => rfl)⟩
              | 8, hi =>
                cases (show some _ = some o from hi)
                have e147 : (f.tmps.getD 147 undef) = errVal A 9 := depO (V := (VTk19n L O nm cm c13 am a13 root old A)) hdep 7 147 (by kernel_rfl) (by kernel_rfl)
                clear hdep hsame hi hlate hfr hkeep
                have c := isE_any (HT.out.below hku).err (ErrV.plain 9 (by decide)) 10
                exact .inl ⟨wanted_none rfl, showsO_call1 hsn rfl 27 #[errVal A 9, .int .i64 10] (by simp only [execOp, Act.eval]; go_simp) (c) (fun _ => rfl)⟩
              | 9, hi =>
                cases (show some _ = some o from hi)
                have e148 : (f.tmps.getD 148 undef) = .bool true := depO (V := (VTk19n L O nm cm c13 am a13 root old A)) hdep 8 148 (by kernel_rfl) (by kernel_rfl)
                clear hdep hsame hi hlate hfr hkeep
                exact .inl ⟨wanted_none rfl, showsO_pure hsn rfl (.bool false) (by simp only [execOp, Act.eval]; go_simp) rfl⟩
              | 10, hi =>
                cases (show some _ = some o from hi)
                have e149 : (f.tmps.getD 149 undef) = .bool false := depO (V := (VTk19n L O nm cm c13 am a13 root old A)) hdep 9 149 (by kernel_rfl) (by kernel_rfl)
                clear hdep hsame hi hlate hfr hkeep
                exact .inl ⟨wanted_none rfl, showsO_move hsn rfl _ rfl e149⟩
              | 11, hi =>
                cases (show some _ = some o from hi)
                have e13 : f.tmps.getD 13 undef = .slice a13 0 c13 := hsame.slot 13 (fun i o h => invB2_not 13 (by kernel_rfl) h)
                have eg : f.tmps.getD 150 undef = .bool false := depO (V := (VTk19n L O nm cm c13 am a13 root old A)) hdep 10 150 (by kernel_rfl) (by kernel_rfl)
                clear hdep hsame hi hlate hfr hkeep
                exact .inl ⟨wanted_of 10 rfl eg (by kernel_rfl), showsO_move hsn rfl _ rfl e13⟩
              | 12, hi =>
                cases (show some _ = some o from hi)
                have e151 : (f.tmps.getD 151 undef) = .slice a13 0 c13 := depO (V := (VTk19n L O nm cm c13 am a13 root old A)) hdep 11 151 (by kernel_rfl) (by kernel_rfl)
                have eg : f.tmps.getD 150 undef = .bool false := depO (V := (VTk19n L O nm cm c13 am a13 root old A)) hdep 10 150 (by kernel_rfl) (by kernel_rfl)
                clear hdep hsame hi hlate hfr hkeep
                exact .inl ⟨wanted_of 10 rfl eg (by kernel_rfl), showsO_pure hsn rfl (.int .i64 0) (by simp only [execOp, Act.eval]; go_simp) rfl⟩
              | 13, hi =>
                cases (show some _ = some o from hi)
                have e152 : (f.tmps.getD 152 undef) = .int .i64 0 := depO (V := (VTk19n L O nm cm c13 am a13 root old A)) hdep 12 152 (by kernel_rfl) (by kernel_rfl)
                have eg : f.tmps.getD 150 undef = .bool false := depO (V := (VTk19n L O nm cm c13 am a13 root old A)) hdep 10 150 (by kernel_rfl) (by kernel_rfl)
                clear hdep hsame hi hlate hfr hkeep
                exact .inl ⟨wanted_of 10 rfl eg (by kernel_rfl), showsO_pure hsn rfl (.bool false) (by simp only [execOp, Act.eval]; go_simp) rfl⟩
              | 14, hi =>
                cases (show some _ = some o from hi)
                have e153 : (f.tmps.getD 153 undef) = .bool false := depO (V := (VTk19n L O nm cm c13 am a13 root old A)) hdep 13 153 (by kernel_rfl) (by kernel_rfl)
                have eg : f.tmps.getD 150 undef = .bool false := depO (V := (VTk19n L O nm cm c13 am a13 root old A)) hdep 10 150 (by kernel_rfl) (by kernel_rfl)
                clear hdep hsame hi hlate hfr hkeep
                exact .inl ⟨wanted_of 10 rfl eg (by kernel_rfl), showsO_move hsn rfl _ rfl e153⟩
              | 15, hi =>
                cases (show some _ = some o from hi)
                have e2 : f.tmps.getD 2 undef = .int .i64 (O : Int) := hsame.slot 2 (fun i o h => invB2_not 2 (by kernel_rfl) h)
                have eg : f.tmps.getD 154 undef = .bool false := depO (V := (VTk19n L O nm cm c13 am a13 root old A)) hdep 14 154 (by kernel_rfl) (by kernel_rfl)
                clear hdep hsame hi hlate hfr hkeep
                exact .inr ⟨unwanted_of 14 rfl eg (by kernel_rfl) (by decide), rfl⟩
              | 16, hi =>
                cases (show some _ = some o from hi)
                have e155 : (f.tmps.getD 155 undef) = undef := depO (V := (VTk19n L O nm cm c13 am a13 root old A)) hdep 15 155 (by kernel_rfl) (by kernel_rfl)
                have eg : f.tmps.getD 154 undef = .bool false := depO (V := (VTk19n L O nm cm c13 am a13 root old A)) hdep 14 154 (by kernel_rfl) (by kernel_rfl)
                clear hdep hsame hi hlate hfr hkeep
                exact .inr ⟨unwanted_of 14 rfl eg (by kernel_rfl) (by decide), rfl⟩
              | 17, hi =>
                cases (show some _ = some o from hi)
                have e7 : f.tmps.getD 7 undef = .int .i64 (L : Int) := hsame.slot 7 (fun i o h => invB2_not 7 (by kernel_rfl) h)
                have eg : f.tmps.getD 154 undef = .bool false := depO (V := (VTk19n L O nm cm c13 am a13 root old A)) hdep 14 154 (by kernel_rfl) (by kernel_rfl)
                clear hdep hsame hi hlate hfr hkeep
                exact .inr ⟨unwanted_of 14 rfl eg (by kernel_rfl) (by decide), rfl⟩
              | 18, hi =>
                cases (show some _ = some o from hi)
                have e157 : (f.tmps.getD 157 undef) = undef := depO (V := (VTk19n L O nm cm c13 am a13 root old A)) hdep 17 157 (by kernel_rfl) (by kernel_rfl)
                have eg : f.tmps.getD 154 undef = .bool false := depO (V := (VTk19n L O nm cm c13 am a13 root old A)) hdep 14 154 (by kernel_rfl) (by kernel_rfl)
                clear hdep hsame hi hlate hfr hkeep
                exact .inr ⟨unwanted_of 14 rfl eg (by kernel_rfl) (by decide), rfl⟩
              | 19, hi =>
                cases (show some _ = some o from hi)
                have e14 : f.tmps.getD 14 undef = .pointer (some ⟨n14, 0, none⟩) := hsame.slot 14 (fun i o h => invB2_not 14 (by kernel_rfl) h)
                have eg : f.tmps.getD 154 undef = .bool false := depO (V := (VTk19n L O nm cm c13 am a13 root old A)) hdep 14 154 (by kernel_rfl) (by kernel_rfl)
                clear hdep hsame hi hlate hfr hkeep
                exact .inr ⟨unwanted_of 14 rfl eg (by kernel_rfl) (by decide), rfl⟩
              | 20, hi =>
                cases (show some _ = some o from hi)
                have e8 : f.tmps.getD 8 undef = .pointer (some ⟨n8, 0, none⟩) := hsame.slot 8 (fun i o h => invB2_not 8 (by kernel_rfl) h)
                have eg : f.tmps.getD 154 undef = .bool false := depO (V := (VTk19n L O nm cm c13 am a13 root old A)) hdep 14 154 (by kernel_rfl) (by kernel_rfl)
                clear hdep hsame hi hlate hfr hkeep
                exact .inr ⟨unwanted_of 14 rfl eg (by kernel_rfl) (by decide), rfl⟩
              | 21, hi =>
                cases (show some _ = some o from hi)
                have e13 : f.tmps.getD 13 undef = .slice a13 0 c13 := hsame.slot 13 (fun i o h => invB2_not 13 (by kernel_rfl) h)
                have eg : f.tmps.getD 154 undef = .bool false := depO (V := (VTk19n L O nm cm c13 am a13 root old A)) hdep 14 154 (by kernel_rfl) (by kernel_rfl)
                clear hdep hsame hi hlate hfr hkeep
                exact .inr ⟨unwanted_of 14 rfl eg (by kernel_rfl) (by decide), rfl⟩
              | 22, hi =>
                cases (show some _ = some o from hi)
                have e161 : (f.tmps.getD 161 undef) = undef := depO (V := (VTk19n L O nm cm c13 am a13 root old A)) hdep 21 161 (by kernel_rfl) (by kernel_rfl)
                have eg : f.tmps.getD 154 undef = .bool false := depO (V := (VTk19n L O nm cm c13 am a13 root old A)) hdep 14 154 (by kernel_rfl) (by kernel_rfl)
                clear hdep hsame hi hlate hfr hkeep
                exact .inr ⟨unwanted_of 14 rfl eg (by kernel_rfl) (by decide), rfl⟩
              | 23, hi =>
                cases (show some _ = some o from hi)
                have e156 : (f.tmps.getD 156 undef) = undef := depO (V := (VTk19n L O nm cm c13 am a13 root old A)) hdep 16 156 (by kernel_rfl) (by kernel_rfl)
                have e158 : (f.tmps.getD 158 undef) = undef := depO (V := (VTk19n L O nm cm c13 am a13 root old A)) hdep 18 158 (by kernel_rfl) (by kernel_rfl)
                have e159 : (f.tmps.getD 159 undef) = undef := depO (V := (VTk19n L O nm cm c13 am a13 root old A)) hdep 19 159 (by kernel_rfl) (by kernel_rfl)
                have e160 : (f.tmps.getD 160 undef) = undef := depO (V := (VTk19n L O nm cm c13 am a13 root old A)) hdep 20 160 (by kernel_rfl) (by kernel_rfl)
                have e162 : (f.tmps.getD 162 undef) = undef := depO (V := (VTk19n L O nm cm c13 am a13 root old A)) hdep 22 162 (by kernel_rfl) (by kernel_rfl)
                have eg : f.tmps.getD 154 undef = .bool false := depO (V := (VTk19n L O nm cm c13 am a13 root old A)) hdep 14 154 (by kernel_rfl) (by kernel_rfl)
                clear hdep hsame hi hlate hfr hkeep
                exact .inr ⟨unwanted_of 14 rfl eg (by kernel_rfl) (by decide), rfl⟩
              | 24, hi =>
                cases (show some _ = some o from hi)
                have e163 : (f.tmps.getD 163 undef) = undef := depO (V := (VTk19n L O nm cm c13 am a13 root old A)) hdep 23 163 (by kernel_rfl) (by kernel_rfl)
                have eg : f.tmps.getD 154 undef = .bool false := depO (V := (VTk19n L O nm cm c13 am a13 root old A)) hdep 14 154 (by kernel_rfl) (by kernel_rfl)
                clear hdep hsame hi hlate hfr hkeep
                exact .inr ⟨unwanted_of 14 rfl eg (by kernel_rfl) (by decide), rfl⟩
              | 25, hi =>
                cases (show some _ = some o from hi)
                have e164 : (f.tmps.getD 164 undef) = undef := depO (V := (VTk19n L O nm cm c13 am a13 root old A)) hdep 24 164 (by kernel_rfl) (by kernel_rfl)
                have eg : f.tmps.getD 154 undef = .bool false := depO (V := (VTk19n L O nm cm c13 am a13 root old A)) hdep 14 154 (by kernel_rfl) (by kernel_rfl)
                clear hdep hsame hi hlate hfr hkeep
                exact .inr ⟨unwanted_of 14 rfl eg (by kernel_rfl) (by decide), rfl⟩
              | 26, hi =>
                cases (show some _ = some o from hi)
                have e154 : (f.tmps.getD 154 undef) = .bool false := depO (V := (VTk19n L O nm cm c13 am a13 root old A)) hdep 14 154 (by kernel_rfl) (by kernel_rfl)
                have e165 : (f.tmps.getD 165 undef) = undef := depO (V := (VTk19n L O nm cm c13 am a13 root old A)) hdep 25 165 (by kernel_rfl) (by kernel_rfl)
                have eg : f.tmps.getD 150 undef = .bool false := depO (V := (VTk19n L O nm cm c13 am a13 root old A)) hdep 10 150 (by kernel_rfl) (by kernel_rfl)
                clear hdep hsame hi hlate hfr hkeep
                exact .inl ⟨wanted_of 10 rfl eg (by kernel_rfl), showsO_pure hsn rfl (.bool false) (by simp only [execOp, Act.eval]; go_simp) rfl⟩
              | 27, hi =>
                cases (show some _ = some o from hi)
                have e150 : (f.tmps.getD 150 undef) = .bool false := depO (V := (VTk19n L O nm cm c13 am a13 root old A)) hdep 10 150 (by kernel_rfl) (by kernel_rfl)
                have e166 : (f.tmps.getD 166 undef) = .bool false := depO (V := (VTk19n L O nm cm c13 am a13 root old A)) hdep 26 166 (by kernel_rfl) (by kernel_rfl)
                clear hdep hsame hi hlate hfr hkeep
                exact .inl ⟨wanted_none rfl, showsO_pure hsn rfl (.bool false) (by simp only [execOp, Act.eval]; go_simp) rfl⟩
              | n + 28, hi => exact absurd hi (by simp)
            · intro f u own hsame hsn hall
              have hb6 := hsn.below (B := u3.heap.size) (fun _ _ => rfl) (Nat.le_refl _)
              have q140 : f.tmps.getD 140 undef = .int .i64 (O : Int) := finO (V := (VTk19n L O nm cm c13 am a13 root old A)) hall 0 140 rfl
              have q141 : f.tmps.getD 141 undef = .int .u64 (O : Int) := finO (V := (VTk19n L O nm cm c13 am a13 root old A)) hall 1 141 rfl
              have q142 : f.tmps.getD 142 undef = .int .i64 (L : Int) := finO (V := (VTk19n L O nm cm c13 am a13 root old A)) hall 2 142 rfl
              have q143 : f.tmps.getD 143 undef = .int .u64 (L : Int) := finO (V := (VTk19n L O nm cm c13 am a13 root old A)) hall 3 143 rfl
              have q144 : f.tmps.getD 144 undef = .agg (ocells (old)) := finO (V := (VTk19n L O nm cm c13 am a13 root old A)) hall 4 144 rfl
              have q145 : f.tmps.getD 145 undef = .agg (ocells (root)) := finO (V := (VTk19n L O nm cm c13 am a13 root old A)) hall 5 145 rfl
              have q146 : f.tmps.getD 146 undef = .slice am nm cm := finO (V := (VTk19n L O nm cm c13 am a13 root old A)) hall 6 146 rfl
              have q147 : f.tmps.getD 147 undef = errVal A 9 := finO (V := (VTk19n L O nm cm c13 am a13 root old A)) hall 7 147 rfl
              have q148 : f.tmps.getD 148 undef = .bool true := finO (V := (VTk19n L O nm cm c13 am a13 root old A)) hall 8 148 rfl
              have q149 : f.tmps.getD 149 undef = .bool false := finO (V := (VTk19n L O nm cm c13 am a13 root old A)) hall 9 149 rfl
              have q150 : f.tmps.getD 150 undef = .bool false := finO (V := (VTk19n L O nm cm c13 am a13 root old A)) hall 10 150 rfl
              have q151 : f.tmps.getD 151 undef = .slice a13 0 c13 := finO (V := (VTk19n L O nm cm c13 am a13 root old A)) hall 11 151 rfl
              have q152 : f.tmps.getD 152 undef = .int .i64 0 := finO (V := (VTk19n L O nm cm c13 am a13 root old A)) hall 12 152 rfl
              have q153 : f.tmps.getD 153 undef = .bool false := finO (V := (VTk19n L O nm cm c13 am a13 root old A)) hall 13 153 rfl
              have q154 : f.tmps.getD 154 undef = .bool false := finO (V := (VTk19n L O nm cm c13 am a13 root old A)) hall 14 154 rfl
              have q155 : f.tmps.getD 155 undef = undef := finO (V := (VTk19n L O nm cm c13 am a13 root old A)) hall 15 155 rfl
              have q156 : f.tmps.getD 156 undef = undef := finO (V := (VTk19n L O nm cm c13 am a13 root old A)) hall 16 156 rfl
              have q157 : f.tmps.getD 157 undef = undef := finO (V := (VTk19n L O nm cm c13 am a13 root old A)) hall 17 157 rfl
              have q158 : f.tmps.getD 158 undef = undef := finO (V := (VTk19n L O nm cm c13 am a13 root old A)) hall 18 158 rfl
              have q159 : f.tmps.getD 159 undef = undef := finO (V := (VTk19n L O nm cm c13 am a13 root old A)) hall 19 159 rfl
              have q160 : f.tmps.getD 160 undef = undef := finO (V := (VTk19n L O nm cm c13 am a13 root old A)) hall 20 160 rfl
              have q161 : f.tmps.getD 161 undef = undef := finO (V := (VTk19n L O nm cm c13 am a13 root old A)) hall 21 161 rfl
              have q162 : f.tmps.getD 162 undef = undef := finO (V := (VTk19n L O nm cm c13 am a13 root old A)) hall 22 162 rfl
              have q163 : f.tmps.getD 163 undef = undef := finO (V := (VTk19n L O nm cm c13 am a13 root old A)) hall 23 163 rfl
              have q164 : f.tmps.getD 164 undef = undef := finO (V := (VTk19n L O nm cm c13 am a13 root old A)) hall 24 164 rfl
              have q165 : f.tmps.getD 165 undef = undef := finO (V := (VTk19n L O nm cm c13 am a13 root old A)) hall 25 165 rfl
              have q166 : f.tmps.getD 166 undef = .bool false := finO (V := (VTk19n L O nm cm c13 am a13 root old A)) hall 26 166 rfl
              have q167 : f.tmps.getD 167 undef = .bool false := finO (V := (VTk19n L O nm cm c13 am a13 root old A)) hall 27 167 rfl
              obtain rfl := frame_eq hsame [(140, .int .i64 (O : Int)), (141, .int .u64 (O : Int)), (142, .int .i64 (L : Int)), (143, .int .u64 (L : Int)), (144, .agg (ocells (old))), (145, .agg (ocells (root))), (146, .slice am nm cm), (147, errVal A 9), (148, .bool true), (149, .bool false), (150, .bool false), (151, .slice a13 0 c13), (152, .int .i64 0), (153, .bool false), (154, .bool false), (155, undef), (156, undef), (157, undef), (158, undef), (159, undef), (160, undef), (161, undef), (162, undef), (163, undef), (164, undef), (165, undef), (166, .bool false), (167, .bool false)] (by kernel_rfl) ⟨q140, q141, q142, q143, q144, q145, q146, q147, q148, q149, q150, q151, q152, q153, q154, q155, q156, q157, q158, q159, q160, q161, q162, q163, q164, q165, q166, q167, trivial⟩
              clear hall hsame q140 q141 q142 q143 q144 q145 q146 q147 q148 q149 q150 q151 q152 q153 q154 q155 q156 q157 q158 q159 q160 q161 q162 q163 q164 q165 q166 q167
              simp only [List.foldl, List.setIfInBounds_toArray, List.set_cons_succ, List.set_cons_zero]
              have HB := Bx.mk hb6
              clear hb6 hsn
              go_wp2_with fail
              go_meet
              case rel => exact ⟨rfl, HB.out⟩
          · have hhp := HQ4.out
            rw [hQc] at hhp
            obtain ⟨hj1, hc9, hj3, B9, o9, rfl, _, _, _⟩ := hhp.at 0 (by simp)
            obtain ⟨ad2, had, hpr⟩ := hhp.rest
            have CM2 := Bx.mk (CMF.out pr (by rw [hQc, List.length_cons]; omega))
            rw [List.length_cons] at hc9
            obtain ⟨lp, hlp⟩ : ∃ lp, lp = pr.length := ⟨_, rfl⟩
            obtain rfl : nq = lp + 1 := by rw [HNQ.out, hQc, hlp]; rfl
            rw [← hlp] at hpr hc9
            have HPR := Bx.mk hpr; have HAD := Bx.mk had; have CG := Bx.mk hc9
            clear hpr had hc9 hlp hQc hhp hj1 hj3
            refine wp_region_own4 (n := 195) VTk19smk (fun _ => none) (VTk19s L O nm cm c13 lp B9 o9 am ad2 root old A) (by kernel_rfl) (by kernel_rfl) rfl (fun _ _ => rfl) (fun j i hj _ => by cases hj) ?_ ?_ ?_
            · exact fun oi oj v own w own' w' hij _ h r => VTk19s_mono L O nm cm c13 lp B9 o9 am ad2 root old A oi oj v own w own' w' hij h r
            · intro oi o hi f u own hsame hsn hfr hlate hkeep hdep
              have hb6 := hsn.below (B := u3.heap.size) (fun _ _ => rfl) (Nat.le_refl _)
              have hku := K12.out.trans (hb6.mono K12.out.size)
              have hr := rangeAt_below RX.out BLT.out hku
              have hro := (RO11.out.below hb6).1
              have hod := (OD2.out.below hb6).1
              match oi, hi with
              | 0, hi =>
                cases (show some _ = some o from hi)
                have e2 : f.tmps.getD 2 undef = .int .i64 (O : Int) := hsame.slot 2 (fun i o h => invB2_not 2 (by kernel_rfl) h)
                clear hdep hsame hi hlate hfr hkeep
                exact .inl ⟨wanted_none rfl, showsO_move hsn rfl _ rfl e2⟩
              | 1, hi =>
                cases (show some _ = some o from hi)
                have e140 : (f.tmps.getD 140 undef) = .int .i64 (O : Int) := depO (V := (VTk19s L O nm cm c13 lp B9 o9 am ad2 root old A)) hdep 0 140 (by kernel_rfl) (by kernel_rfl)
                clear hdep hsame hi hlate hfr hkeep
                have d1 : IntKind.u64.wrap (O : Int) = (O : Int) := UO.out
                exact .inl ⟨wanted_none rfl, showsO_pure hsn rfl (.int .u64 (O : Int)) (by simp only [execOp, Act.eval]; go_simp) rfl⟩
              | 2, hi =>
                cases (show some _ = some o from hi)
                have e7 : f.tmps.getD 7 undef = .int .i64 (L : Int) := hsame.slot 7 (fun i o h => invB2_not 7 (by kernel_rfl) h)
                clear hdep hsame hi hlate hfr hkeep
                exact .inl ⟨wanted_none rfl, showsO_move hsn rfl _ rfl e7⟩
              | 3, hi =>
                cases (show some _ = some o from hi)
                have e142 : (f.tmps.getD 142 undef) = .int .i64 (L : Int) := depO (V := (VTk19s L O nm cm c13 lp B9 o9 am ad2 root old A)) hdep 2 142 (by kernel_rfl) (by kernel_rfl)
                clear hdep hsame hi hlate hfr hkeep
                have d1 : IntKind.u64.wrap (L : Int) = (L : Int) := UL.out
                exact .inl ⟨wanted_none rfl, showsO_pure hsn rfl (.int .u64 (L : Int)) (by simp only [execOp, Act.eval]; go_simp) rfl⟩
              | 4, hi =>
                cases (show some _ = some o from hi)
                have e14 : f.tmps.getD 14 undef = .pointer (some ⟨n14, 0, none⟩) := hsame.slot 14 (fun i o h => invB2_not 14 (by kernel_rfl) h)
                clear hdep hsame hi hlate hfr hkeep
                exact .inl ⟨wanted_none rfl, showsO_row hsn rfl 24 (.tmp 14) rfl n14 e14 (ocells old) (hod) underH rfl (hszL OL.out) rfl⟩
              | 5, hi =>
                cases (show some _ = some o from hi)
                have e8 : f.tmps.getD 8 undef = .pointer (some ⟨n8, 0, none⟩) := hsame.slot 8 (fun i o h => invB2_not 8 (by kernel_rfl) h)
                clear hdep hsame hi hlate hfr hkeep
                exact .inl ⟨wanted_none rfl, showsO_row hsn rfl 24 (.tmp 8) rfl n8 e8 (ocells root) (hro) underH rfl (hszL RL.out) rfl⟩
              | 6, hi =>
                cases (show some _ = some o from hi)
                have e12 : f.tmps.getD 12 undef = .slice am nm cm := hsame.slot 12 (fun i o h => invB2_not 12 (by kernel_rfl) h)
                clear hdep hsame hi hlate hfr hkeep
                exact .inl ⟨wanted_none rfl, showsO_move hsn rfl _ rfl e12⟩
              | 7, hi =>
                cases (show some _ = some o from hi)
                have e141 : (f.tmps.getD 141 undef) = .int .u64 (O : Int) := depO (V := (VTk19s L O nm cm c13 lp B9 o9 am ad2 root old A)) hdep 1 141 (by kernel_rfl) (by kernel_rfl)
                have e143 : (f.tmps.getD 143 undef) = .int .u64 (L : Int) := depO (V := (VTk19s L O nm cm c13 lp B9 o9 am ad2 root old A)) hdep 3 143 (by kernel_rfl) (by kernel_rfl)
                have e144 : (f.tmps.getD 144 undef) = .agg (ocells (old)) := depO (V := (VTk19s L O nm cm c13 lp B9 o9 am ad2 root old A)) hdep 4 144 (by kernel_rfl) (by kernel_rfl)
                have e145 : (f.tmps.getD 145 undef) = .agg (ocells (root)) := depO (V := (VTk19s L O nm cm c13 lp B9 o9 am ad2 root old A)) hdep 5 145 (by kernel_rfl) (by kernel_rfl)
                have e146 : (f.tmps.getD 146 undef) = .slice am nm cm := depO (V := (VTk19s L O nm cm c13 lp B9 o9 am ad2 root old A)) hdep 6 146 (by kernel_rfl) (by kernel_rfl)
                clear hdep hsame hi hlate hfr hkeep
                have c := cons_any A u O L (by have := OB.out; have := L2.out; omega) (by have := L2.out; omega) old root OL.out RL.out _ _ _ (Q ++ [root]) (HM0.out.below hb6) (HT.out.below hku)
                rw [hv_agg, hv_agg, CM1.out] at c
                exact .inl ⟨wanted_none rfl, showsO_call1 hsn rfl 17 #[.int .u64 (O : Int), .int .u64 (L : Int), .agg (ocells (old)), .agg (ocells (root)), .slice am nm cm] (by simp only [execOp, Act.eval]; go_simp) (c) (fun _ => rfl)⟩
              | 8, hi =>
                cases (show some _ = some o from hi)
                have e147 : (f.tmps.getD 147 undef) = errVal A 9 := depO (V := (VTk19s L O nm cm c13 lp B9 o9 am ad2 root old A)) hdep 7 147 (by kernel_rfl) (by kernel_rfl)
                clear hdep hsame hi hlate hfr hkeep
                have c := isE_any (HT.out.below hku).err (ErrV.plain 9 (by decide)) 10
                exact .inl ⟨wanted_none rfl, showsO_call1 hsn rfl 27 #[errVal A 9, .int .i64 10] (by simp only [execOp, Act.eval]; go_simp) (c) (fun _ => rfl)⟩
              | 9, hi =>
                cases (show some _ = some o from hi)
                have e148 : (f.tmps.getD 148 undef) = .bool true := depO (V := (VTk19s L O nm cm c13 lp B9 o9 am ad2 root old A)) hdep 8 148 (by kernel_rfl) (by kernel_rfl)
                clear hdep hsame hi hlate hfr hkeep
                exact .inl ⟨wanted_none rfl, showsO_pure hsn rfl (.bool false) (by simp only [execOp, Act.eval]; go_simp) rfl⟩
              | 10, hi =>
                cases (show some _ = some o from hi)
                have e149 : (f.tmps.getD 149 undef) = .bool false := depO (V := (VTk19s L O nm cm c13 lp B9 o9 am ad2 root old A)) hdep 9 149 (by kernel_rfl) (by kernel_rfl)
                clear hdep hsame hi hlate hfr hkeep
                exact .inl ⟨wanted_none rfl, showsO_move hsn rfl _ rfl e149⟩
              | 11, hi =>
                cases (show some _ = some o from hi)
                have e13 : f.tmps.getD 13 undef = .slice (some ⟨B9, o9, none⟩) (lp + 1) c13 := hsame.slot 13 (fun i o h => invB2_not 13 (by kernel_rfl) h)
                have eg : f.tmps.getD 150 undef = .bool false := depO (V := (VTk19s L O nm cm c13 lp B9 o9 am ad2 root old A)) hdep 10 150 (by kernel_rfl) (by kernel_rfl)
                clear hdep hsame hi hlate hfr hkeep
                exact .inl ⟨wanted_of 10 rfl eg (by kernel_rfl), showsO_move hsn rfl _ rfl e13⟩
              | 12, hi =>
                cases (show some _ = some o from hi)
                have e151 : (f.tmps.getD 151 undef) = .slice (some ⟨B9, o9, none⟩) (lp + 1) c13 := depO (V := (VTk19s L O nm cm c13 lp B9 o9 am ad2 root old A)) hdep 11 151 (by kernel_rfl) (by kernel_rfl)
                have eg : f.tmps.getD 150 undef = .bool false := depO (V := (VTk19s L O nm cm c13 lp B9 o9 am ad2 root old A)) hdep 10 150 (by kernel_rfl) (by kernel_rfl)
                clear hdep hsame hi hlate hfr hkeep
                exact .inl ⟨wanted_of 10 rfl eg (by kernel_rfl), showsO_pure hsn rfl (.int .i64 ((lp : Int) + 1)) (by simp only [execOp, Act.eval]; go_simp; try rfl) rfl⟩
              | 13, hi =>
                cases (show some _ = some o from hi)
                have e152 : (f.tmps.getD 152 undef) = .int .i64 ((lp : Int) + 1) := depO (V := (VTk19s L O nm cm c13 lp B9 o9 am ad2 root old A)) hdep 12 152 (by kernel_rfl) (by kernel_rfl)
                have eg : f.tmps.getD 150 undef = .bool false := depO (V := (VTk19s L O nm cm c13 lp B9 o9 am ad2 root old A)) hdep 10 150 (by kernel_rfl) (by kernel_rfl)
                clear hdep hsame hi hlate hfr hkeep
                have f1 : (0 : Int) < (lp : Int) + 1 := by omega
                exact .inl ⟨wanted_of 10 rfl eg (by kernel_rfl), showsO_pure hsn rfl (.bool true) (by simp only [execOp, Act.eval]; go_simp) rfl⟩
              | 14, hi =>
                cases (show some _ = some o from hi)
                have e153 : (f.tmps.getD 153 undef) = .bool true := depO (V := (VTk19s L O nm cm c13 lp B9 o9 am ad2 root old A)) hdep 13 153 (by kernel_rfl) (by kernel_rfl)
                have eg : f.tmps.getD 150 undef = .bool false := depO (V := (VTk19s L O nm cm c13 lp B9 o9 am ad2 root old A)) hdep 10 150 (by kernel_rfl) (by kernel_rfl)
                clear hdep hsame hi hlate hfr hkeep
                exact .inl ⟨wanted_of 10 rfl eg (by kernel_rfl), showsO_move hsn rfl _ rfl e153⟩
              | 15, hi =>
                cases (show some _ = some o from hi)
                have e2 : f.tmps.getD 2 undef = .int .i64 (O : Int) := hsame.slot 2 (fun i o h => invB2_not 2 (by kernel_rfl) h)
                have eg : f.tmps.getD 154 undef = .bool true := depO (V := (VTk19s L O nm cm c13 lp B9 o9 am ad2 root old A)) hdep 14 154 (by kernel_rfl) (by kernel_rfl)
                clear hdep hsame hi hlate hfr hkeep
                exact .inl ⟨wanted_of 14 rfl eg (by kernel_rfl), showsO_move hsn rfl _ rfl e2⟩
              | 16, hi =>
                cases (show some _ = some o from hi)
                have e155 : (f.tmps.getD 155 undef) = .int .i64 (O : Int) := depO (V := (VTk19s L O nm cm c13 lp B9 o9 am ad2 root old A)) hdep 15 155 (by kernel_rfl) (by kernel_rfl)
                have eg : f.tmps.getD 154 undef = .bool true := depO (V := (VTk19s L O nm cm c13 lp B9 o9 am ad2 root old A)) hdep 14 154 (by kernel_rfl) (by kernel_rfl)
                clear hdep hsame hi hlate hfr hkeep
                have d1 : IntKind.u64.wrap (O : Int) = (O : Int) := UO.out
                exact .inl ⟨wanted_of 14 rfl eg (by kernel_rfl), showsO_pure hsn rfl (.int .u64 (O : Int)) (by simp only [execOp, Act.eval]; go_simp) rfl⟩
              | 17, hi =>
                cases (show some _ = some o from hi)
                have e7 : f.tmps.getD 7 undef = .int .i64 (L : Int) := hsame.slot 7 (fun i o h => invB2_not 7 (by kernel_rfl) h)
                have eg : f.tmps.getD 154 undef = .bool true := depO (V := (VTk19s L O nm cm c13 lp B9 o9 am ad2 root old A)) hdep 14 154 (by kernel_rfl) (by kernel_rfl)
                clear hdep hsame hi hlate hfr hkeep
                exact .inl ⟨wanted_of 14 rfl eg (by kernel_rfl), showsO_move hsn rfl _ rfl e7⟩
              | 18, hi =>
                cases (show some _ = some o from hi)
                have e157 : (f.tmps.getD 157 undef) = .int .i64 (L : Int) := depO (V := (VTk19s L O nm cm c13 lp B9 o9 am ad2 root old A)) hdep 17 157 (by kernel_rfl) (by kernel_rfl)
                have eg : f.tmps.getD 154 undef = .bool true := depO (V := (VTk19s L O nm cm c13 lp B9 o9 am ad2 root old A)) hdep 14 154 (by kernel_rfl) (by kernel_rfl)
                clear hdep hsame hi hlate hfr hkeep
                have d1 : IntKind.u64.wrap (L : Int) = (L : Int) := UL.out
                exact .inl ⟨wanted_of 14 rfl eg (by kernel_rfl), showsO_pure hsn rfl (.int .u64 (L : Int)) (by simp only [execOp, Act.eval]; go_simp) rfl⟩
              | 19, hi =>
                cases (show some _ = some o from hi)
                have e14 : f.tmps.getD 14 undef = .pointer (some ⟨n14, 0, none⟩) := hsame.slot 14 (fun i o h => invB2_not 14 (by kernel_rfl) h)
                have eg : f.tmps.getD 154 undef = .bool true := depO (V := (VTk19s L O nm cm c13 lp B9 o9 am ad2 root old A)) hdep 14 154 (by kernel_rfl) (by kernel_rfl)
                clear hdep hsame hi hlate hfr hkeep
                exact .inl ⟨wanted_of 14 rfl eg (by kernel_rfl), showsO_row hsn rfl 24 (.tmp 14) rfl n14 e14 (ocells old) (hod) underH rfl (hszL OL.out) rfl⟩
              | 20, hi =>
                cases (show some _ = some o from hi)
                have e8 : f.tmps.getD 8 undef = .pointer (some ⟨n8, 0, none⟩) := hsame.slot 8 (fun i o h => invB2_not 8 (by kernel_rfl) h)
                have eg : f.tmps.getD 154 undef = .bool true := depO (V := (VTk19s L O nm cm c13 lp B9 o9 am ad2 root old A)) hdep 14 154 (by kernel_rfl) (by kernel_rfl)
                clear hdep hsame hi hlate hfr hkeep
                exact .inl ⟨wanted_of 14 rfl eg (by kernel_rfl), showsO_row hsn rfl 24 (.tmp 8) rfl n8 e8 (ocells root) (hro) underH rfl (hszL RL.out) rfl⟩
              | 21, hi =>
                cases (show some _ = some o from hi)
                have e13 : f.tmps.getD 13 undef = .slice (some ⟨B9, o9, none⟩) (lp + 1) c13 := hsame.slot 13 (fun i o h => invB2_not 13 (by kernel_rfl) h)
                have eg : f.tmps.getD 154 undef = .bool true := depO (V := (VTk19s L O nm cm c13 lp B9 o9 am ad2 root old A)) hdep 14 154 (by kernel_rfl) (by kernel_rfl)
                clear hdep hsame hi hlate hfr hkeep
                exact .inl ⟨wanted_of 14 rfl eg (by kernel_rfl), showsO_move hsn rfl _ rfl e13⟩
              | 22, hi =>
                cases (show some _ = some o from hi)
                have e161 : (f.tmps.getD 161 undef) = .slice (some ⟨B9, o9, none⟩) (lp + 1) c13 := depO (V := (VTk19s L O nm cm c13 lp B9 o9 am ad2 root old A)) hdep 21 161 (by kernel_rfl) (by kernel_rfl)
                have eg : f.tmps.getD 154 undef = .bool true := depO (V := (VTk19s L O nm cm c13 lp B9 o9 am ad2 root old A)) hdep 14 154 (by kernel_rfl) (by kernel_rfl)
                clear hdep hsame hi hlate hfr hkeep
                have f1 : ¬ (lp : Int) + 1 < 1 := by omega
                have f2 : (1 : Int) ≤ (lp : Int) + 1 := by omega
                have f3 := CG.out
                have had := HAD.out
                exact .inl ⟨wanted_of 14 rfl eg (by kernel_rfl), showsO_pure hsn rfl (.slice ad2 lp (c13 - 1)) (by (rcases had with ⟨hc, hd⟩ | ⟨hc, hd⟩); (subst hc; subst hd; obtain rfl : lp = 0 := (by omega); simp only [execOp, Act.eval]; go_simp); (subst hd; simp only [execOp, Act.eval]; go_simp)) rfl⟩
              | 23, hi =>
                cases (show some _ = some o from hi)
                have e156 : (f.tmps.getD 156 undef) = .int .u64 (O : Int) := depO (V := (VTk19s L O nm cm c13 lp B9 o9 am ad2 root old A)) hdep 16 156 (by kernel_rfl) (by kernel_rfl)
                have e158 : (f.tmps.getD 158 undef) = .int .u64 (L : Int) := depO (V := (VTk19s L O nm cm c13 lp B9 o9 am ad2 root old A)) hdep 18 158 (by kernel_rfl) (by kernel_rfl)
                have e159 : (f.tmps.getD 159 undef) = .agg (ocells (old)) := depO (V := (VTk19s L O nm cm c13 lp B9 o9 am ad2 root old A)) hdep 19 159 (by kernel_rfl) (by kernel_rfl)
                have e160 : (f.tmps.getD 160 undef) = .agg (ocells (root)) := depO (V := (VTk19s L O nm cm c13 lp B9 o9 am ad2 root old A)) hdep 20 160 (by kernel_rfl) (by kernel_rfl)
                have e162 : (f.tmps.getD 162 undef) = .slice ad2 lp (c13 - 1) := depO (V := (VTk19s L O nm cm c13 lp B9 o9 am ad2 root old A)) hdep 22 162 (by kernel_rfl) (by kernel_rfl)
                have eg : f.tmps.getD 154 undef = .bool true := depO (V := (VTk19s L O nm cm c13 lp B9 o9 am ad2 root old A)) hdep 14 154 (by kernel_rfl) (by kernel_rfl)
                clear hdep hsame hi hlate hfr hkeep
                have c := cons_any A u O L (by have := OB.out; have := L2.out; omega) (by have := L2.out; omega) old root OL.out RL.out _ _ _ pr (HPR.out.below hb6) (HT.out.below hku)
                rw [hv_agg, hv_agg, CM2.out] at c
                exact .inl ⟨wanted_of 14 rfl eg (by kernel_rfl), showsO_call1 hsn rfl 17 #[.int .u64 (O : Int), .int .u64 (L : Int), .agg (ocells (old)), .agg (ocells (root)), .slice ad2 lp (c13 - 1)] (by simp only [execOp, Act.eval]; go_simp) (c) (fun _ => rfl)⟩
              | 24, hi =>
                cases (show some _ = some o from hi)
                have e163 : (f.tmps.getD 163 undef) = errVal A 9 := depO (V := (VTk19s L O nm cm c13 lp B9 o9 am ad2 root old A)) hdep 23 163 (by kernel_rfl) (by kernel_rfl)
                have eg : f.tmps.getD 154 undef = .bool true := depO (V := (VTk19s L O nm cm c13 lp B9 o9 am ad2 root old A)) hdep 14 154 (by kernel_rfl) (by kernel_rfl)
                clear hdep hsame hi hlate hfr hkeep
                have c := isE_any (HT.out.below hku).err (ErrV.plain 9 (by decide)) 10
                exact .inl ⟨wanted_of 14 rfl eg (by kernel_rfl), showsO_call1 hsn rfl 27 #[errVal A 9, .int .i64 10] (by simp only [execOp, Act.eval]; go_simp) (c) (fun _ => rfl)⟩
              | 25, hi =>
                cases (show some _ = some o from hi)
                have e164 : (f.tmps.getD 164 undef) = .bool true := depO (V := (VTk19s L O nm cm c13 lp B9 o9 am ad2 root old A)) hdep 24 164 (by kernel_rfl) (by kernel_rfl)
                have eg : f.tmps.getD 154 undef = .bool true := depO (V := (VTk19s L O nm cm c13 lp B9 o9 am ad2 root old A)) hdep 14 154 (by kernel_rfl) (by kernel_rfl)
                clear hdep hsame hi hlate hfr hkeep
                exact .inl ⟨wanted_of 14 rfl eg (by kernel_rfl), showsO_pure hsn rfl (.bool false) (by simp only [execOp, Act.eval]; go_simp) rfl⟩
              | 26, hi =>
                cases (show some _ = some o from hi)
                have e154 : (f.tmps.getD 154 undef) = .bool true := depO (V := (VTk19s L O nm cm c13 lp B9 o9 am ad2 root old A)) hdep 14 154 (by kernel_rfl) (by kernel_rfl)
                have e165 : (f.tmps.getD 165 undef) = .bool false := depO (V := (VTk19s L O nm cm c13 lp B9 o9 am ad2 root old A)) hdep 25 165 (by kernel_rfl) (by kernel_rfl)
                have eg : f.tmps.getD 150 undef = .bool false := depO (V := (VTk19s L O nm cm c13 lp B9 o9 am ad2 root old A)) hdep 10 150 (by kernel_rfl) (by kernel_rfl)
                clear hdep hsame hi hlate hfr hkeep
                exact .inl ⟨wanted_of 10 rfl eg (by kernel_rfl), showsO_pure hsn rfl (.bool false) (by simp only [execOp, Act.eval]; go_simp) rfl⟩
              | 27, hi =>
                cases (show some _ = some o from hi)
                have e150 : (f.tmps.getD 150 undef) = .bool false := depO (V := (VTk19s L O nm cm c13 lp B9 o9 am ad2 root old A)) hdep 10 150 (by kernel_rfl) (by kernel_rfl)
                have e166 : (f.tmps.getD 166 undef) = .bool false := depO (V := (VTk19s L O nm cm c13 lp B9 o9 am ad2 root old A)) hdep 26 166 (by kernel_rfl) (by kernel_rfl)
                clear hdep hsame hi hlate hfr hkeep
                exact .inl ⟨wanted_none rfl, showsO_pure hsn rfl (.bool false) (by simp only [execOp, Act.eval]; go_simp) rfl⟩
              | n + 28, hi => exact absurd hi (by simp)
            · intro f u own hsame hsn hall
              have hb6 := hsn.below (B := u3.heap.size) (fun _ _ => rfl) (Nat.le_refl _)
              have q140 : f.tmps.getD 140 undef = .int .i64 (O : Int) := finO (V := (VTk19s L O nm cm c13 lp B9 o9 am ad2 root old A)) hall 0 140 rfl
              have q141 : f.tmps.getD 141 undef = .int .u64 (O : Int) := finO (V := (VTk19s L O nm cm c13 lp B9 o9 am ad2 root old A)) hall 1 141 rfl
              have q142 : f.tmps.getD 142 undef = .int .i64 (L : Int) := finO (V := (VTk19s L O nm cm c13 lp B9 o9 am ad2 root old A)) hall 2 142 rfl
              have q143 : f.tmps.getD 143 undef = .int .u64 (L : Int) := finO (V := (VTk19s L O nm cm c13 lp B9 o9 am ad2 root old A)) hall 3 143 rfl
              have q144 : f.tmps.getD 144 undef = .agg (ocells (old)) := finO (V := (VTk19s L O nm cm c13 lp B9 o9 am ad2 root old A)) hall 4 144 rfl
              have q145 : f.tmps.getD 145 undef = .agg (ocells (root)) := finO (V := (VTk19s L O nm cm c13 lp B9 o9 am ad2 root old A)) hall 5 145 rfl
              have q146 : f.tmps.getD 146 undef = .slice am nm cm := finO (V := (VTk19s L O nm cm c13 lp B9 o9 am ad2 root old A)) hall 6 146 rfl
              have q147 : f.tmps.getD 147 undef = errVal A 9 := finO (V := (VTk19s L O nm cm c13 lp B9 o9 am ad2 root old A)) hall 7 147 rfl
              have q148 : f.tmps.getD 148 undef = .bool true := finO (V := (VTk19s L O nm cm c13 lp B9 o9 am ad2 root old A)) hall 8 148 rfl
              have q149 : f.tmps.getD 149 undef = .bool false := finO (V := (VTk19s L O nm cm c13 lp B9 o9 am ad2 root old A)) hall 9 149 rfl
              have q150 : f.tmps.getD 150 undef = .bool false := finO (V := (VTk19s L O nm cm c13 lp B9 o9 am ad2 root old A)) hall 10 150 rfl
              have q151 : f.tmps.getD 151 undef = .slice (some ⟨B9, o9, none⟩) (lp + 1) c13 := finO (V := (VTk19s L O nm cm c13 lp B9 o9 am ad2 root old A)) hall 11 151 rfl
              have q152 : f.tmps.getD 152 undef = .int .i64 ((lp : Int) + 1) := finO (V := (VTk19s L O nm cm c13 lp B9 o9 am ad2 root old A)) hall 12 152 rfl
              have q153 : f.tmps.getD 153 undef = .bool true := finO (V := (VTk19s L O nm cm c13 lp B9 o9 am ad2 root old A)) hall 13 153 rfl
              have q154 : f.tmps.getD 154 undef = .bool true := finO (V := (VTk19s L O nm cm c13 lp B9 o9 am ad2 root old A)) hall 14 154 rfl
              have q155 : f.tmps.getD 155 undef = .int .i64 (O : Int) := finO (V := (VTk19s L O nm cm c13 lp B9 o9 am ad2 root old A)) hall 15 155 rfl
              have q156 : f.tmps.getD 156 undef = .int .u64 (O : Int) := finO (V := (VTk19s L O nm cm c13 lp B9 o9 am ad2 root old A)) hall 16 156 rfl
              have q157 : f.tmps.getD 157 undef = .int .i64 (L : Int) := finO (V := (VTk19s L O nm cm c13 lp B9 o9 am ad2 root old A)) hall 17 157 rfl
              have q158 : f.tmps.getD 158 undef = .int .u64 (L : Int) := finO (V := (VTk19s L O nm cm c13 lp B9 o9 am ad2 root old A)) hall 18 158 rfl
              have q159 : f.tmps.getD 159 undef = .agg (ocells (old)) := finO (V := (VTk19s L O nm cm c13 lp B9 o9 am ad2 root old A)) hall 19 159 rfl
              have q160 : f.tmps.getD 160 undef = .agg (ocells (root)) := finO (V := (VTk19s L O nm cm c13 lp B9 o9 am ad2 root old A)) hall 20 160 rfl
              have q161 : f.tmps.getD 161 undef = .slice (some ⟨B9, o9, none⟩) (lp + 1) c13 := finO (V := (VTk19s L O nm cm c13 lp B9 o9 am ad2 root old A)) hall 21 161 rfl
              have q162 : f.tmps.getD 162 undef = .slice ad2 lp (c13 - 1) := finO (V := (VTk19s L O nm cm c13 lp B9 o9 am ad2 root old A)) hall 22 162 rfl
              have q163 : f.tmps.getD 163 undef = errVal A 9 := finO (V := (VTk19s L O nm cm c13 lp B9 o9 am ad2 root old A)) hall 23 163 rfl
              have q164 : f.tmps.getD 164 undef = .bool true := finO (V := (VTk19s L O nm cm c13 lp B9 o9 am ad2 root old A)) hall 24 164 rfl
              have q165 : f.tmps.getD 165 undef = .bool false := finO (V := (VTk19s L O nm cm c13 lp B9 o9 am ad2 root old A)) hall 25 165 rfl
              have q166 : f.tmps.getD 166 undef = .bool false := finO (V := (VTk19s L O nm cm c13 lp B9 o9 am ad2 root old A)) hall 26 166 rfl
              have q167 : f.tmps.getD 167 undef = .bool false := finO (V := (VTk19s L O nm cm c13 lp B9 o9 am ad2 root old A)) hall 27 167 rfl
              obtain rfl := frame_eq hsame [(140, .int .i64 (O : Int)), (141, .int .u64 (O : Int)), (142, .int .i64 (L : Int)), (143, .int .u64 (L : Int)), (144, .agg (ocells (old))), (145, .agg (ocells (root))), (146, .slice am nm cm), (147, errVal A 9), (148, .bool true), (149, .bool false), (150, .bool false), (151, .slice (some ⟨B9, o9, none⟩) (lp + 1) c13), (152, .int .i64 ((lp : Int) + 1)), (153, .bool true), (154, .bool true), (155, .int .i64 (O : Int)), (156, .int .u64 (O : Int)), (157, .int .i64 (L : Int)), (158, .int .u64 (L : Int)), (159, .agg (ocells (old))), (160, .agg (ocells (root))), (161, .slice (some ⟨B9, o9, none⟩) (lp + 1) c13), (162, .slice ad2 lp (c13 - 1)), (163, errVal A 9), (164, .bool true), (165, .bool false), (166, .bool false), (167, .bool false)] (by kernel_rfl) ⟨q140, q141, q142, q143, q144, q145, q146, q147, q148, q149, q150, q151, q152, q153, q154, q155, q156, q157, q158, q159, q160, q161, q162, q163, q164, q165, q166, q167, trivial⟩
              clear hall hsame q140 q141 q142 q143 q144 q145 q146 q147 q148 q149 q150 q151 q152 q153 q154 q155 q156 q157 q158 q159 q160 q161 q162 q163 q164 q165 q166 q167
              simp only [List.foldl, List.setIfInBounds_toArray, List.set_cons_succ, List.set_cons_zero]
              have HB := Bx.mk hb6
              clear hb6 hsn
              go_wp2_with fail
              go_meet
              case rel => exact ⟨rfl, HB.out⟩
        case rest =>
        obtain ⟨rfl, hb⟩ := hcut
        have K13 := Bx.mk (K12.out.trans (hb.mono K12.out.size)); have RO12 := Bx.mk (RO11.out.below hb); have HP11 := Bx.mk (HP10.out.below hb); have HQ5 := Bx.mk (HQ4.out.below hb); have OD3 := Bx.mk (OD2.out.below hb)
        clear hb K12 RO11 HP10 HQ4 OD2
        have IR := Bx.mk (inclV_range A L x root P)
        have CR := Bx.mk (consV_range A L Q old root)
        go_upto_region 21 with (fail)
        refine wp_region_own4 (n := 195) VTk21mk (fun _ => none) (VTk21 Ba off L cap M np nq c9 c13 a9 a13 x root old A) (by kernel_rfl) (by kernel_rfl) rfl (fun _ _ => rfl) (fun j i hj _ => by cases hj) ?_ ?_ ?_
        · exact fun oi oj v own w own' w' hij _ h r => VTk21_mono Ba off L cap M np nq c9 c13 a9 a13 x root old A oi oj v own w own' w' hij h r
        · intro oi o hi f u own hsame hsn hfr hlate hkeep hdep
          have hb6 := hsn.below (B := wc.heap.size) (fun _ _ => rfl) (Nat.le_refl _)
          have hku := K13.out.trans (hb6.mono K13.out.size)
          have hr := rangeAt_below RX.out BLT.out hku
          have hro := (RO12.out.below hb6).1
          have hod := (OD3.out.below hb6).1
          match oi, hi with
          | 0, hi =>
            cases (show some _ = some o from hi)
            have e7 : f.tmps.getD 7 undef = .int .i64 (L : Int) := hsame.slot 7 (fun i o h => invB2_not 7 (by kernel_rfl) h)
            clear hdep hsame hi hlate hfr hkeep
            exact .inl ⟨wanted_none rfl, showsO_move hsn rfl _ rfl e7⟩
          | 1, hi =>
            cases (show some _ = some o from hi)
            have e168 : (f.tmps.getD 168 undef) = .int .i64 (L : Int) := depO (V := (VTk21 Ba off L cap M np nq c9 c13 a9 a13 x root old A)) hdep 0 168 (by kernel_rfl) (by kernel_rfl)
            clear hdep hsame hi hlate hfr hkeep
            have d1 : IntKind.u64.wrap (L : Int) = (L : Int) := UL.out
            exact .inl ⟨wanted_none rfl, showsO_pure hsn rfl (.int .u64 (L : Int)) (by simp only [execOp, Act.eval]; go_simp) rfl⟩
          | 2, hi =>
            cases (show some _ = some o from hi)
            have e7 : f.tmps.getD 7 undef = .int .i64 (L : Int) := hsame.slot 7 (fun i o h => invB2_not 7 (by kernel_rfl) h)
            clear hdep hsame hi hlate hfr hkeep
            exact .inl ⟨wanted_none rfl, showsO_move hsn rfl _ rfl e7⟩
          | 3, hi =>
            cases (show some _ = some o from hi)
            have e170 : (f.tmps.getD 170 undef) = .int .i64 (L : Int) := depO (V := (VTk21 Ba off L cap M np nq c9 c13 a9 a13 x root old A)) hdep 2 170 (by kernel_rfl) (by kernel_rfl)
            clear hdep hsame hi hlate hfr hkeep
            have d1 : IntKind.u64.wrap (L : Int) = (L : Int) := UL.out
            exact .inl ⟨wanted_none rfl, showsO_pure hsn rfl (.int .u64 (L : Int)) (by simp only [execOp, Act.eval]; go_simp) rfl⟩
          | 4, hi =>
            cases (show some _ = some o from hi)
            have e0 : f.tmps.getD 0 undef = .slice (some ⟨Ba, off, none⟩) L cap := hsame.slot 0 (fun i o h => invB2_not 0 (by kernel_rfl) h)
            clear hdep hsame hi hlate hfr hkeep
            exact .inl ⟨wanted_none rfl, showsO_move hsn rfl _ rfl e0⟩
          | 5, hi =>
            cases (show some _ = some o from hi)
            have e1 : f.tmps.getD 1 undef = .int .i64 (M : Int) := hsame.slot 1 (fun i o h => invB2_not 1 (by kernel_rfl) h)
            clear hdep hsame hi hlate hfr hkeep
            exact .inl ⟨wanted_none rfl, showsO_move hsn rfl _ rfl e1⟩
          | 6, hi =>
            cases (show some _ = some o from hi)
            have e172 : (f.tmps.getD 172 undef) = .slice (some ⟨Ba, off, none⟩) L cap := depO (V := (VTk21 Ba off L cap M np nq c9 c13 a9 a13 x root old A)) hdep 4 172 (by kernel_rfl) (by kernel_rfl)
            have e173 : (f.tmps.getD 173 undef) = .int .i64 (M : Int) := depO (V := (VTk21 Ba off L cap M np nq c9 c13 a9 a13 x root old A)) hdep 5 173 (by kernel_rfl) (by kernel_rfl)
            clear hdep hsame hi hlate hfr hkeep
            have f1 : ¬ (L : Int) ≤ (M : Int) := by have := ML.out; omega
            have f2 : (M : Int) < (L : Int) := by have := ML.out; omega
            exact .inl ⟨wanted_none rfl, showsO_pure hsn rfl (.pointer (some ⟨Ba, off + M * 32, none⟩)) (by simp only [execOp, Act.eval]; go_simp) rfl⟩
          | 7, hi =>
            cases (show some _ = some o from hi)
            have e174 : (f.tmps.getD 174 undef) = .pointer (some ⟨Ba, off + M * 32, none⟩) := depO (V := (VTk21 Ba off L cap M np nq c9 c13 a9 a13 x root old A)) hdep 6 174 (by kernel_rfl) (by kernel_rfl)
            clear hdep hsame hi hlate hfr hkeep
            exact .inl ⟨wanted_none rfl, showsO_mid hsn rfl 24 (.tmp 174) rfl Ba (off + M * 32) e174 (bcells x) hr underH rfl (hszB' XL.out) rfl⟩
          | 8, hi =>
            cases (show some _ = some o from hi)
            have e9 : f.tmps.getD 9 undef = .slice a9 np c9 := hsame.slot 9 (fun i o h => invB2_not 9 (by kernel_rfl) h)
            clear hdep hsame hi hlate hfr hkeep
            exact .inl ⟨wanted_none rfl, showsO_move hsn rfl _ rfl e9⟩
          | 9, hi =>
            cases (show some _ = some o from hi)
            have e8 : f.tmps.getD 8 undef = .pointer (some ⟨n8, 0, none⟩) := hsame.slot 8 (fun i o h => invB2_not 8 (by kernel_rfl) h)
            clear hdep hsame hi hlate hfr hkeep
            exact .inl ⟨wanted_none rfl, showsO_row hsn rfl 24 (.tmp 8) rfl n8 e8 (ocells root) (hro) underH rfl (hszL RL.out) rfl⟩
          | 10, hi =>
            cases (show some _ = some o from hi)
            have e169 : (f.tmps.getD 169 undef) = .int .u64 (L : Int) := depO (V := (VTk21 Ba off L cap M np nq c9 c13 a9 a13 x root old A)) hdep 1 169 (by kernel_rfl) (by kernel_rfl)
            have e171 : (f.tmps.getD 171 undef) = .int .u64 (L : Int) := depO (V := (VTk21 Ba off L cap M np nq c9 c13 a9 a13 x root old A)) hdep 3 171 (by kernel_rfl) (by kernel_rfl)
            have e175 : (f.tmps.getD 175 undef) = .agg (ocells (x)) := depO (V := (VTk21 Ba off L cap M np nq c9 c13 a9 a13 x root old A)) hdep 7 175 (by kernel_rfl) (by kernel_rfl)
            have e176 : (f.tmps.getD 176 undef) = .slice a9 np c9 := depO (V := (VTk21 Ba off L cap M np nq c9 c13 a9 a13 x root old A)) hdep 8 176 (by kernel_rfl) (by kernel_rfl)
            have e177 : (f.tmps.getD 177 undef) = .agg (ocells (root)) := depO (V := (VTk21 Ba off L cap M np nq c9 c13 a9 a13 x root old A)) hdep 9 177 (by kernel_rfl) (by kernel_rfl)
            clear hdep hsame hi hlate hfr hkeep
            have c := incl_any A u L L (by have := ML.out; have := L2.out; omega) (by have := L2.out; omega) x XL.out _ _ _ P (HP11.out.below hb6) root RL.out (HT.out.below hku)
            rw [hv_agg, hv_agg, IR.out] at c
            exact .inl ⟨wanted_none rfl, showsO_call1 hsn rfl 14 #[.int .u64 (L : Int), .int .u64 (L : Int), .agg (ocells (x)), .slice a9 np c9, .agg (ocells (root))] (by simp only [execOp, Act.eval]; go_simp) (c) (fun _ => rfl)⟩
          | 11, hi =>
            cases (show some _ = some o from hi)
            have e178 : (f.tmps.getD 178 undef) = errVal A 4 := depO (V := (VTk21 Ba off L cap M np nq c9 c13 a9 a13 x root old A)) hdep 10 178 (by kernel_rfl) (by kernel_rfl)
            clear hdep hsame hi hlate hfr hkeep
            have c := isE_any (HT.out.below hku).err (ErrV.plain 4 (by decide)) 5
            exact .inl ⟨wanted_none rfl, showsO_call1 hsn rfl 27 #[errVal A 4, .int .i64 5] (by simp only [execOp, Act.eval]; go_simp) (c) (fun _ => rfl)⟩
          | 12, hi =>
            cases (show some _ = some o from hi)
            have e179 : (f.tmps.getD 179 undef) = .bool true := depO (V := (VTk21 Ba off L cap M np nq c9 c13 a9 a13 x root old A)) hdep 11 179 (by kernel_rfl) (by kernel_rfl)
            clear hdep hsame hi hlate hfr hkeep
            exact .inl ⟨wanted_none rfl, showsO_move hsn rfl _ rfl e179⟩
          | 13, hi =>
            cases (show some _ = some o from hi)
            have e7 : f.tmps.getD 7 undef = .int .i64 (L : Int) := hsame.slot 7 (fun i o h => invB2_not 7 (by kernel_rfl) h)
            have eg : f.tmps.getD 180 undef = .bool true := depO (V := (VTk21 Ba off L cap M np nq c9 c13 a9 a13 x root old A)) hdep 12 180 (by kernel_rfl) (by kernel_rfl)
            clear hdep hsame hi hlate hfr hkeep
            exact .inl ⟨wanted_of 12 rfl eg (by kernel_rfl), showsO_move hsn rfl _ rfl e7⟩
          | 14, hi =>
            cases (show some _ = some o from hi)
            have e181 : (f.tmps.getD 181 undef) = .int .i64 (L : Int) := depO (V := (VTk21 Ba off L cap M np nq c9 c13 a9 a13 x root old A)) hdep 13 181 (by kernel_rfl) (by kernel_rfl)
            have eg : f.tmps.getD 180 undef = .bool true := depO (V := (VTk21 Ba off L cap M np nq c9 c13 a9 a13 x root old A)) hdep 12 180 (by kernel_rfl) (by kernel_rfl)
            clear hdep hsame hi hlate hfr hkeep
            have d1 : IntKind.u64.wrap (L : Int) = (L : Int) := UL.out
            exact .inl ⟨wanted_of 12 rfl eg (by kernel_rfl), showsO_pure hsn rfl (.int .u64 (L : Int)) (by simp only [execOp, Act.eval]; go_simp) rfl⟩
          | 15, hi =>
            cases (show some _ = some o from hi)
            have e182 : (f.tmps.getD 182 undef) = .int .u64 (L : Int) := depO (V := (VTk21 Ba off L cap M np nq c9 c13 a9 a13 x root old A)) hdep 14 182 (by kernel_rfl) (by kernel_rfl)
            have eg : f.tmps.getD 180 undef = .bool true := depO (V := (VTk21 Ba off L cap M np nq c9 c13 a9 a13 x root old A)) hdep 12 180 (by kernel_rfl) (by kernel_rfl)
            clear hdep hsame hi hlate hfr hkeep
            have d1 := UL1.out
            exact .inl ⟨wanted_of 12 rfl eg (by kernel_rfl), showsO_pure hsn rfl (.int .u64 ((L + 1 : Nat) : Int)) (by simp only [execOp, Act.eval]; go_simp) rfl⟩
          | 16, hi =>
            cases (show some _ = some o from hi)
            have e7 : f.tmps.getD 7 undef = .int .i64 (L : Int) := hsame.slot 7 (fun i o h => invB2_not 7 (by kernel_rfl) h)
            have eg : f.tmps.getD 180 undef = .bool true := depO (V := (VTk21 Ba off L cap M np nq c9 c13 a9 a13 x root old A)) hdep 12 180 (by kernel_rfl) (by kernel_rfl)
            clear hdep hsame hi hlate hfr hkeep
            exact .inl ⟨wanted_of 12 rfl eg (by kernel_rfl), showsO_move hsn rfl _ rfl e7⟩
          | 17, hi =>
            cases (show some _ = some o from hi)
            have e184 : (f.tmps.getD 184 undef) = .int .i64 (L : Int) := depO (V := (VTk21 Ba off L cap M np nq c9 c13 a9 a13 x root old A)) hdep 16 184 (by kernel_rfl) (by kernel_rfl)
            have eg : f.tmps.getD 180 undef = .bool true := depO (V := (VTk21 Ba off L cap M np nq c9 c13 a9 a13 x root old A)) hdep 12 180 (by kernel_rfl) (by kernel_rfl)
            clear hdep hsame hi hlate hfr hkeep
            have d1 : IntKind.u64.wrap (L : Int) = (L : Int) := UL.out
            exact .inl ⟨wanted_of 12 rfl eg (by kernel_rfl), showsO_pure hsn rfl (.int .u64 (L : Int)) (by simp only [execOp, Act.eval]; go_simp) rfl⟩
          | 18, hi =>
            cases (show some _ = some o from hi)
            have e14 : f.tmps.getD 14 undef = .pointer (some ⟨n14, 0, none⟩) := hsame.slot 14 (fun i o h => invB2_not 14 (by kernel_rfl) h)
            have eg : f.tmps.getD 180 undef = .bool true := depO (V := (VTk21 Ba off L cap M np nq c9 c13 a9 a13 x root old A)) hdep 12 180 (by kernel_rfl) (by kernel_rfl)
            clear hdep hsame hi hlate hfr hkeep
            exact .inl ⟨wanted_of 12 rfl eg (by kernel_rfl), showsO_row hsn rfl 24 (.tmp 14) rfl n14 e14 (ocells old) (hod) underH rfl (hszL OL.out) rfl⟩
          | 19, hi =>
            cases (show some _ = some o from hi)
            have e8 : f.tmps.getD 8 undef = .pointer (some ⟨n8, 0, none⟩) := hsame.slot 8 (fun i o h => invB2_not 8 (by kernel_rfl) h)
            have eg : f.tmps.getD 180 undef = .bool true := depO (V := (VTk21 Ba off L cap M np nq c9 c13 a9 a13 x root old A)) hdep 12 180 (by kernel_rfl) (by kernel_rfl)
            clear hdep hsame hi hlate hfr hkeep
            exact .inl ⟨wanted_of 12 rfl eg (by kernel_rfl), showsO_row hsn rfl 24 (.tmp 8) rfl n8 e8 (ocells root) (hro) underH rfl (hszL RL.out) rfl⟩
          | 20, hi =>
            cases (show some _ = some o from hi)
            have e13 : f.tmps.getD 13 undef = .slice a13 nq c13 := hsame.slot 13 (fun i o h => invB2_not 13 (by kernel_rfl) h)
            have eg : f.tmps.getD 180 undef = .bool true := depO (V := (VTk21 Ba off L cap M np nq c9 c13 a9 a13 x root old A)) hdep 12 180 (by kernel_rfl) (by kernel_rfl)
            clear hdep hsame hi hlate hfr hkeep
            exact .inl ⟨wanted_of 12 rfl eg (by kernel_rfl), showsO_move hsn rfl _ rfl e13⟩
          | 21, hi =>
            cases (show some _ = some o from hi)
            have e183 : (f.tmps.getD 183 undef) = .int .u64 ((L + 1 : Nat) : Int) := depO (V := (VTk21 Ba off L cap M np nq c9 c13 a9 a13 x root old A)) hdep 15 183 (by kernel_rfl) (by kernel_rfl)
            have e185 : (f.tmps.getD 185 undef) = .int .u64 (L : Int) := depO (V := (VTk21 Ba off L cap M np nq c9 c13 a9 a13 x root old A)) hdep 17 185 (by kernel_rfl) (by kernel_rfl)
            have e186 : (f.tmps.getD 186 undef) = .agg (ocells (old)) := depO (V := (VTk21 Ba off L cap M np nq c9 c13 a9 a13 x root old A)) hdep 18 186 (by kernel_rfl) (by kernel_rfl)
            have e187 : (f.tmps.getD 187 undef) = .agg (ocells (root)) := depO (V := (VTk21 Ba off L cap M np nq c9 c13 a9 a13 x root old A)) hdep 19 187 (by kernel_rfl) (by kernel_rfl)
            have e188 : (f.tmps.getD 188 undef) = .slice a13 nq c13 := depO (V := (VTk21 Ba off L cap M np nq c9 c13 a9 a13 x root old A)) hdep 20 188 (by kernel_rfl) (by kernel_rfl)
            have eg : f.tmps.getD 180 undef = .bool true := depO (V := (VTk21 Ba off L cap M np nq c9 c13 a9 a13 x root old A)) hdep 12 180 (by kernel_rfl) (by kernel_rfl)
            clear hdep hsame hi hlate hfr hkeep
            have c := cons_any A u (L + 1) L (by have := OB.out; have := L2.out; omega) (by have := L2.out; omega) old root OL.out RL.out _ _ _ Q (HQ5.out.below hb6) (HT.out.below hku)
            rw [hv_agg, hv_agg, CR.out] at c
            exact .inl ⟨wanted_of 12 rfl eg (by kernel_rfl), showsO_call1 hsn rfl 17 #[.int .u64 ((L + 1 : Nat) : Int), .int .u64 (L : Int), .agg (ocells (old)), .agg (ocells (root)), .slice a13 nq c13] (by simp only [execOp, Act.eval]; go_simp) (c) (fun _ => rfl)⟩
          | 22, hi =>
            cases (show some _ = some o from hi)
            have e189 : (f.tmps.getD 189 undef) = errVal A 4 := depO (V := (VTk21 Ba off L cap M np nq c9 c13 a9 a13 x root old A)) hdep 21 189 (by kernel_rfl) (by kernel_rfl)
            have eg : f.tmps.getD 180 undef = .bool true := depO (V := (VTk21 Ba off L cap M np nq c9 c13 a9 a13 x root old A)) hdep 12 180 (by kernel_rfl) (by kernel_rfl)
            clear hdep hsame hi hlate hfr hkeep
            have c := isE_any (HT.out.below hku).err (ErrV.plain 4 (by decide)) 5
            exact .inl ⟨wanted_of 12 rfl eg (by kernel_rfl), showsO_call1 hsn rfl 27 #[errVal A 4, .int .i64 5] (by simp only [execOp, Act.eval]; go_simp) (c) (fun _ => rfl)⟩
          | 23, hi =>
            cases (show some _ = some o from hi)
            have e180 : (f.tmps.getD 180 undef) = .bool true := depO (V := (VTk21 Ba off L cap M np nq c9 c13 a9 a13 x root old A)) hdep 12 180 (by kernel_rfl) (by kernel_rfl)
            have e190 : (f.tmps.getD 190 undef) = .bool true := depO (V := (VTk21 Ba off L cap M np nq c9 c13 a9 a13 x root old A)) hdep 22 190 (by kernel_rfl) (by kernel_rfl)
            clear hdep hsame hi hlate hfr hkeep
            exact .inl ⟨wanted_none rfl, showsO_pure hsn rfl (.bool true) (by simp only [execOp, Act.eval]; go_simp) rfl⟩
          | 24, hi =>
            cases (show some _ = some o from hi)
            have e191 : (f.tmps.getD 191 undef) = .bool true := depO (V := (VTk21 Ba off L cap M np nq c9 c13 a9 a13 x root old A)) hdep 23 191 (by kernel_rfl) (by kernel_rfl)
            clear hdep hsame hi hlate hfr hkeep
            exact .inl ⟨wanted_none rfl, showsO_move hsn rfl _ rfl e191⟩
          | 25, hi =>
            cases (show some _ = some o from hi)
            have eg : f.tmps.getD 192 undef = .bool true := depO (V := (VTk21 Ba off L cap M np nq c9 c13 a9 a13 x root old A)) hdep 24 192 (by kernel_rfl) (by kernel_rfl)
            clear hdep hsame hi hlate hfr hkeep
            have c := alive_any A u (HT.out.below hku)
            exact .inl ⟨wanted_of 24 rfl eg (by kernel_rfl), showsO_call1 hsn rfl 16 #[] (by simp only [execOp, Act.eval]; go_simp) (c) (fun _ => rfl)⟩
          | 26, hi =>
            cases (show some _ = some o from hi)
            have e192 : (f.tmps.getD 192 undef) = .bool true := depO (V := (VTk21 Ba off L cap M np nq c9 c13 a9 a13 x root old A)) hdep 24 192 (by kernel_rfl) (by kernel_rfl)
            have e193 : (f.tmps.getD 193 undef) = .bool true := depO (V := (VTk21 Ba off L cap M np nq c9 c13 a9 a13 x root old A)) hdep 25 193 (by kernel_rfl) (by kernel_rfl)
            clear hdep hsame hi hlate hfr hkeep
            exact .inl ⟨wanted_none rfl, showsO_pure hsn rfl (.bool true) (by simp only [execOp, Act.eval]; go_simp) rfl⟩
          | 27, hi =>
            cases (show some _ = some o from hi)
            have e194 : (f.tmps.getD 194 undef) = .bool true := depO (V := (VTk21 Ba off L cap M np nq c9 c13 a9 a13 x root old A)) hdep 26 194 (by kernel_rfl) (by kernel_rfl)
            clear hdep hsame hi hlate hfr hkeep
            exact .inl ⟨wanted_none rfl, showsO_assign hsn rfl _ rfl e194⟩
          | n + 28, hi => exact absurd hi (by simp)
        · intro f u own hsame hsn hall
          have hb6 := hsn.below (B := wc.heap.size) (fun _ _ => rfl) (Nat.le_refl _)
          have q168 : f.tmps.getD 168 undef = .int .i64 (L : Int) := finO (V := (VTk21 Ba off L cap M np nq c9 c13 a9 a13 x root old A)) hall 0 168 rfl
          have q169 : f.tmps.getD 169 undef = .int .u64 (L : Int) := finO (V := (VTk21 Ba off L cap M np nq c9 c13 a9 a13 x root old A)) hall 1 169 rfl
          have q170 : f.tmps.getD 170 undef = .int .i64 (L : Int) := finO (V := (VTk21 Ba off L cap M np nq c9 c13 a9 a13 x root old A)) hall 2 170 rfl
          have q171 : f.tmps.getD 171 undef = .int .u64 (L : Int) := finO (V := (VTk21 Ba off L cap M np nq c9 c13 a9 a13 x root old A)) hall 3 171 rfl
          have q172 : f.tmps.getD 172 undef = .slice (some ⟨Ba, off, none⟩) L cap := finO (V := (VTk21 Ba off L cap M np nq c9 c13 a9 a13 x root old A)) hall 4 172 rfl
          have q173 : f.tmps.getD 173 undef = .int .i64 (M : Int) := finO (V := (VTk21 Ba off L cap M np nq c9 c13 a9 a13 x root old A)) hall 5 173 rfl
          have q174 : f.tmps.getD 174 undef = .pointer (some ⟨Ba, off + M * 32, none⟩) := finO (V := (VTk21 Ba off L cap M np nq c9 c13 a9 a13 x root old A)) hall 6 174 rfl
          have q175 : f.tmps.getD 175 undef = .agg (ocells (x)) := finO (V := (VTk21 Ba off L cap M np nq c9 c13 a9 a13 x root old A)) hall 7 175 rfl
          have q176 : f.tmps.getD 176 undef = .slice a9 np c9 := finO (V := (VTk21 Ba off L cap M np nq c9 c13 a9 a13 x root old A)) hall 8 176 rfl
          have q177 : f.tmps.getD 177 undef = .agg (ocells (root)) := finO (V := (VTk21 Ba off L cap M np nq c9 c13 a9 a13 x root old A)) hall 9 177 rfl
          have q178 : f.tmps.getD 178 undef = errVal A 4 := finO (V := (VTk21 Ba off L cap M np nq c9 c13 a9 a13 x root old A)) hall 10 178 rfl
          have q179 : f.tmps.getD 179 undef = .bool true := finO (V := (VTk21 Ba off L cap M np nq c9 c13 a9 a13 x root old A)) hall 11 179 rfl
          have q180 : f.tmps.getD 180 undef = .bool true := finO (V := (VTk21 Ba off L cap M np nq c9 c13 a9 a13 x root old A)) hall 12 180 rfl
          have q181 : f.tmps.getD 181 undef = .int .i64 (L : Int) := finO (V := (VTk21 Ba off L cap M np nq c9 c13 a9 a13 x root old A)) hall 13 181 rfl
          have q182 : f.tmps.getD 182 undef = .int .u64 (L : Int) := finO (V := (VTk21 Ba off L cap M np nq c9 c13 a9 a13 x root old A)) hall 14 182 rfl
          have q183 : f.tmps.getD 183 undef = .int .u64 ((L + 1 : Nat) : Int) := finO (V := (VTk21 Ba off L cap M np nq c9 c13 a9 a13 x root old A)) hall 15 183 rfl
          have q184 : f.tmps.getD 184 undef = .int .i64 (L : Int) := finO (V := (VTk21 Ba off L cap M np nq c9 c13 a9 a13 x root old A)) hall 16 184 rfl
          have q185 : f.tmps.getD 185 undef = .int .u64 (L : Int) := finO (V := (VTk21 Ba off L cap M np nq c9 c13 a9 a13 x root old A)) hall 17 185 rfl
          have q186 : f.tmps.getD 186 undef = .agg (ocells (old)) := finO (V := (VTk21 Ba off L cap M np nq c9 c13 a9 a13 x root old A)) hall 18 186 rfl
          have q187 : f.tmps.getD 187 undef = .agg (ocells (root)) := finO (V := (VTk21 Ba off L cap M np nq c9 c13 a9 a13 x root old A)) hall 19 187 rfl
          have q188 : f.tmps.getD 188 undef = .slice a13 nq c13 := finO (V := (VTk21 Ba off L cap M np nq c9 c13 a9 a13 x root old A)) hall 20 188 rfl
          have q189 : f.tmps.getD 189 undef = errVal A 4 := finO (V := (VTk21 Ba off L cap M np nq c9 c13 a9 a13 x root old A)) hall 21 189 rfl
          have q190 : f.tmps.getD 190 undef = .bool true := finO (V := (VTk21 Ba off L cap M np nq c9 c13 a9 a13 x root old A)) hall 22 190 rfl
          have q191 : f.tmps.getD 191 undef = .bool true := finO (V := (VTk21 Ba off L cap M np nq c9 c13 a9 a13 x root old A)) hall 23 191 rfl
          have q192 : f.tmps.getD 192 undef = .bool true := finO (V := (VTk21 Ba off L cap M np nq c9 c13 a9 a13 x root old A)) hall 24 192 rfl
          have q193 : f.tmps.getD 193 undef = .bool true := finO (V := (VTk21 Ba off L cap M np nq c9 c13 a9 a13 x root old A)) hall 25 193 rfl
          have q194 : f.tmps.getD 194 undef = .bool true := finO (V := (VTk21 Ba off L cap M np nq c9 c13 a9 a13 x root old A)) hall 26 194 rfl
          have q6 : f.tmps.getD 6 undef = .bool true := finO (V := (VTk21 Ba off L cap M np nq c9 c13 a9 a13 x root old A)) hall 27 6 rfl
          obtain rfl := frame_eq hsame [(168, .int .i64 (L : Int)), (169, .int .u64 (L : Int)), (170, .int .i64 (L : Int)), (171, .int .u64 (L : Int)), (172, .slice (some ⟨Ba, off, none⟩) L cap), (173, .int .i64 (M : Int)), (174, .pointer (some ⟨Ba, off + M * 32, none⟩)), (175, .agg (ocells (x))), (176, .slice a9 np c9), (177, .agg (ocells (root))), (178, errVal A 4), (179, .bool true), (180, .bool true), (181, .int .i64 (L : Int)), (182, .int .u64 (L : Int)), (183, .int .u64 ((L + 1 : Nat) : Int)), (184, .int .i64 (L : Int)), (185, .int .u64 (L : Int)), (186, .agg (ocells (old))), (187, .agg (ocells (root))), (188, .slice a13 nq c13), (189, errVal A 4), (190, .bool true), (191, .bool true), (192, .bool true), (193, .bool true), (194, .bool true), (6, .bool true)] (by kernel_rfl) ⟨q168, q169, q170, q171, q172, q173, q174, q175, q176, q177, q178, q179, q180, q181, q182, q183, q184, q185, q186, q187, q188, q189, q190, q191, q192, q193, q194, q6, trivial⟩
          clear hall hsame q168 q169 q170 q171 q172 q173 q174 q175 q176 q177 q178 q179 q180 q181 q182 q183 q184 q185 q186 q187 q188 q189 q190 q191 q192 q193 q194 q6
          simp only [List.foldl, List.setIfInBounds_toArray, List.set_cons_succ, List.set_cons_zero]
          have HB := Bx.mk (K13.out.trans (hb6.mono K13.out.size))
          clear hb6 hsn
          go_wp2_with fail
          exact bodyPost_ret (results_tmp rfl _ _ _) rfl ⟨rfl, HB.out⟩
end Go.Proofs.YtmlpldkgennmkaaDoor
