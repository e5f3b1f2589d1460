/- (*cartularyref10.Builder).Add below the limit. -/
import Derived.Test.YtbhcaalelfaceaaGreatDoorE3
import Derived.Test.YtbhcaalelfaceaaGreatDoorEmD
import Derived.Test.YtbhcaalelfaceaaGreatDoorEmT
import Derived.Test.YtbhcaalelfaceaaGreatDoorApw
import Derived.Test.YtbhcaalelfaceaaGreatDoorCaQ
import Derived.Test.YtbhcaalelfaceaaGreatDoorE4
namespace Go.Proofs.YtbhcaalelfaceaaGreatDoor
set_option maxRecDepth 100000
open Go.RowKit
/-- a bit below the lowest zero is a one -/
theorem tnF_bit : ∀ (f n t : Nat), n < 2 ^ f → t ≤ tnF f n → (n / 2 ^ t % 2 = 1 ↔ t < tnF f n)
  | 0, n, t, h, ht => by
    obtain rfl : n = 0 := by simpa using h
    unfold tnF at ht ⊢
    simp
  | f + 1, n, t, h, ht => by
    rw [Nat.pow_succ] at h
    unfold tnF at ht ⊢
    by_cases e : n % 2 = 1
    · rw [if_pos e] at ht ⊢
      cases t with
      | zero => simp [e]; omega
      | succ t =>
        have h1 := tnF_bit f (n / 2) t (by omega) (by omega)
        rw [Nat.pow_succ, Nat.mul_comm, ← Nat.div_div_eq_div_mul, h1]
        omega
    · rw [if_neg e] at ht ⊢
      obtain rfl : t = 0 := by omega
      simp [e]
theorem own_takeE {w : World} {base : Nat} {e : TypeId} {size n c : Nat} {a : Option Addr} {xs : List Value} (h : w.ownsRow base e size (.slice a n c) n xs) (k : Nat) (hk : k ≤ n) : w.ownsRow base e size (.slice a k c) k (xs.take (k * size)) := by
  obtain ⟨h1, h2⟩ := h
  refine ⟨by rw [List.length_take, h1]; exact Nat.min_eq_left (Nat.mul_le_mul_right _ hk), ?_⟩
  rcases h2 with ⟨e0, hz⟩ | ⟨g, cap, cur, e1, hb, hg, hn, hm, hs, hx⟩
  · injection e0 with e1 e2 e3
    subst e1; subst e3
    exact .inl ⟨by obtain rfl : k = 0 := by omega
                   rfl, by omega⟩
  · injection e1 with e1 e2 e3
    subst e1; subst e3
    refine .inr ⟨g, c, cur, rfl, hb, hg, by omega, hm, hs, ?_⟩
    rw [← hx, List.take_take, Nat.min_eq_left (Nat.mul_le_mul_right _ hk)]
theorem own_nilE {w : World} {base : Nat} {e : TypeId} {size n c : Nat} {a : Option Addr} {xs : List Value} (h : w.ownsRow base e size (.slice a n c) n xs) : a = none → c = 0 ∧ n = 0 := by
  rintro rfl
  rcases h.2 with ⟨e0, hz⟩ | ⟨g, cap, cur, e1, _⟩
  · injection e0 with _ _ e3
    exact ⟨e3, hz⟩
  · cases e1
theorem own_leE {w : World} {base : Nat} {e : TypeId} {size n c : Nat} {a : Option Addr} {xs : List Value} (h : w.ownsRow base e size (.slice a n c) n xs) : n ≤ c ∧ c ≤ maxLen := by
  rcases h.2 with ⟨e0, hz⟩ | ⟨g, cap, cur, e1, _, _, hn, hm, _⟩
  · injection e0 with _ _ e3
    exact ⟨by omega, by rw [e3]; exact Nat.zero_le _⟩
  · injection e1 with _ _ e3
    subst e3
    exact ⟨hn, hm⟩
theorem rangeAt_keptE {w w' : World} {B o : Nat} {cs : List Value} (h : w.rangeAt B o cs) (k : w'.heap[B]? = w.heap[B]?) : w'.rangeAt B o cs := fun j v hv => by
  have h1 := h j v hv
  simp only [World.cell?, k] at h1 ⊢
  exact h1
theorem appTwo_keepE {w w' : World} {base : Nat} {e : TypeId} {size n m : Nat} {ys : List Value} {v v' : Value} (h : AppTwo w w' base e size v n m ys v') : w'.ownsRow base e size v' (n + m) ys ∧ Keep (fun j => v.ownBlock = some j) w w' ∧ ∀ k, v'.ownBlock = some k → v.ownBlock = some k ∨ w.heap.size ≤ k := by
  obtain ⟨h1, ⟨g, cap, e1, e2, hg⟩ | ⟨hg, hk⟩⟩ := h
  · subst e1 e2
    exact ⟨h1, Keep.of_grown hg, fun k hk => .inl hk⟩
  · exact ⟨h1, (Keep.of_grown hg).mono (fun k _ h => by cases h), fun k hk' => .inr (hk k hk')⟩
theorem newsE (w : World) (cs : Array Value) (T : TypeId) : ∀ j u, cs.toList[j]? = some u → (w.alloc (.cells cs T)).cell? ((⟨w.heap.size, 0, none⟩ : Addr).add j) = some u := fun j u hu => by
  rw [Addr.add_mid, Nat.zero_add]
  exact er_cellAt (heap_alloc_new w _) j u (by simpa using hu)
theorem ownBlock_lenE (a : Option Addr) (n m c d : Nat) : (Value.slice a n c).ownBlock = (Value.slice a m d).ownBlock := by cases a <;> rfl
theorem zero_setE {w : World} {n : Nat} {a b : Value} {T : TypeId} {fr : Nat × Nat} (h : w.heap[n]? = some (.cells #[a, b] T fr)) (y : Value) :
    (w.setCell ⟨n, 0, none⟩ y).heap[n]? = some (.cells #[y, b] T fr) := by
  simp [World.setCell, Array.getElem?_modify, h]
/-- what the loop keeps -/
structure LpC (w : World) (B1 N F n : Nat) (ls : List (List UInt8)) (p : List UInt8) (a9 : Option Addr) (c9 : Nat) (ov : Value) (t : Nat) (wr : World) : Prop where
  nod : wr.ownsRow B1 130 34 ov (t + 1) (ncells (nodesB n ls p (t + 1)))
  lef : wr.ownsRow B1 66 32 (.slice a9 ls.length c9) ls.length (hcells ls)
  hsh : wr.heap[N]? = some (.cells (ocells (hkB ls p t)) 66 (0, 0))
  flt : wr.heap[F]? = some (.cells #[.int .i64 0, .int .i64 0] 73 (0, 0))
  bel : Below N w wr
  two : ∀ j, ov.ownBlock = some j → (Value.slice a9 ls.length c9).ownBlock ≠ some j
/-- what the document's Add leaves -/
def RAddR (base : Nat) (w w' : World) (rb n : Nat) (ls : List (List UInt8)) (p : List UInt8) (v : Value) : Prop :=
  w'.ownsRow w.heap.size 130 34 v (tones n + 1) (ncells (nodesB n ls p (tones n + 1))) ∧ Keep (fun j => j = rb) w w' ∧ ∃ L', RbM base w' rb (n + 1) (lsB n ls p) L' ∧ ∀ k, L'.ownBlock = some k → w.heap.size ≤ k
def VRa3 (rb n _N B1 : Nat) (p : List UInt8) (oi : Nat) (v : Value) (own : Nat → Option Nat) (w : World) : Prop :=
  match oi with
  | 0 => v = .pointer (some ⟨rb, 0, none⟩)
  | 1 => v = .pointer (some ⟨rb, 0, none⟩)
  | 2 => v = .pointer (some ⟨rb, 0, none⟩)
  | 3 => v = .int .u64 (n : Int)
  | 4 => v = .agg #[.int .u8 0, .int .u64 (n : Int)]
  | 5 => v = .agg (ocells (p))
  | 6 => v = .agg (ncell (0, n, p))
  | 7 => FreshV own w v B1 1 130 (ncell (0, n, p))
  | 8 => FreshV own w v B1 1 130 (ncell (0, n, p))
  | _ => True
def VRa3mk : Nat → Option Nat := fun _ => none
theorem VRa3_mono (rb n N B1 : Nat) (p : List UInt8) (oi oj : Nat) (v : Value) (own : Nat → Option Nat) (w : World) (own' : Nat → Option Nat) (w' : World) (hij : oi ≠ oj)   (h : VRa3 rb n N B1 p oj v own w) (r : Rel VRa3mk oi own w own' w') : VRa3 rb n N B1 p oj v own' w' := by
  unfold VRa3 at h ⊢
  split at h
  · exact h
  · exact h
  · exact h
  · exact h
  · exact h
  · exact h
  · exact h
  · exact h.stable r
  · exact h.stable r
  · trivial

def VRa9 (g c9 m N : Nat) (x y z : List UInt8) (oi : Nat) (v : Value) (own : Nat → Option Nat) (w : World) : Prop :=
  match oi with
  | 0 => v = .slice (some ⟨g, 0, none⟩) (m + 1) c9
  | 1 => v = .slice (some ⟨g, 0, none⟩) (m + 1) c9
  | 2 => v = .int .i64 ((m + 1 : Nat) : Int)
  | 3 => v = .int .i64 (m : Int)
  | 4 => v = .pointer (some ⟨g, m * 32, none⟩)
  | 5 => v = .agg (ocells (x))
  | 6 => v = .agg (ocells (y))
  | 7 => v = .agg (ocells (z))
  | 8 => OutV own w (N) 8 66 (ocells z)
  | _ => True
def VRa9mk : Nat → Option Nat := fun _ => none
theorem VRa9_mono (g c9 m N : Nat) (x y z : List UInt8) (oi oj : Nat) (v : Value) (own : Nat → Option Nat) (w : World) (own' : Nat → Option Nat) (w' : World) (hij : oi ≠ oj)   (h : VRa9 g c9 m N x y z oj v own w) (r : Rel VRa9mk oi own w own' w') : VRa9 g c9 m N x y z oj v own' w' := by
  unfold VRa9 at h ⊢
  split at h
  · exact h
  · exact h
  · exact h
  · exact h
  · exact h
  · exact h
  · exact h
  · exact h
  · exact h.stable r hij
  · trivial

set_option maxHeartbeats 3200000 in
theorem radd_any (base : Nat) (w : World) (rb n : Nat) (ls : List (List UInt8)) (s : Value) (hB : RbM base w rb n ls s) (hlen : ls.length = pcnt n) (hn : n < 9223372036854775808) (p : List UInt8) (hh : p.length = 32) (hbase : base ≤ w.heap.size) :
    Calls Tryz.prog 71 #[.pointer (some ⟨rb, 0, none⟩), hv p] w fun e w' => ∃ v, e = .returned (.tuple #[v, .agg #[.int .i64 0, .int .i64 0]]) ∧ RAddR base w w' rb n ls p v := by
  have kb1 := er_al (Below.refl w.heap.size w) (.cells (ocells p) 66)
  have kb := er_al kb1 (.cells #[.int .i64 0, .int .i64 0] 73)
  have xN1 := (HashAt.new w p hh).1
  have xN := ((er_al (Below.refl (w.alloc (.cells (ocells p) 66)).heap.size _) (.cells #[.int .i64 0, .int .i64 0] 73)).block _ (Array.getElem?_eq_some_iff.1 xN1).1).trans xN1
  have xF := heap_alloc_new (w.alloc (.cells (ocells p) 66)) (.cells #[.int .i64 0, .int .i64 0] 73)
  rw [show (w.alloc (.cells (ocells p) 66)).heap.size = w.heap.size + 1 by simp] at xF
  have hbl : rb < w.heap.size := (Array.getElem?_eq_some_iff.1 hB.hb).1
  have h2 := hB.below kb
  have hrow := h2.row
  have hHs := h2.hss
  obtain ⟨a, c, hs, hc1, hc2, hc3⟩ := own_shape hB.row
  have hfm := Go.Joins.ownsRow_forms hB.row
  subst hs
  have c0 := er_cellAt h2.hb 0 _ rfl
  have xb := h2.hb
  have hk1 := tones_le n
  have hk2 := tones_64 n
  have hod : ∀ t, t ≤ tones n → (n / 2 ^ t % 2 = 1 ↔ t < tones n) := fun t ht => tnF_bit 64 n t (Nat.lt_trans hn (by decide)) ht
  rw [← hlen] at hk1
  obtain ⟨k, hk⟩ : ∃ k, k = tones n := ⟨_, rfl⟩
  rw [← hk] at hk1 hk2 hod
  unfold hv
  go_enter Tryz.func71, Tryz.ntmps71
  go_upto_region 1 with (fail)
  change Code.wp _ _ _ _ ((w.alloc (.cells (ocells p) 66)).alloc (.cells #[.int .i64 0, .int .i64 0] 73))
  generalize hW : (w.alloc (.cells (ocells p) 66)).alloc (.cells #[.int .i64 0, .int .i64 0] 73) = W at kb xN xF h2 c0 xb hrow hHs ⊢
  obtain ⟨N, hN⟩ : ∃ N, N = w.heap.size := ⟨_, rfl⟩
  obtain ⟨G, hG⟩ : ∃ G, G = w.heap.size + 1 := ⟨_, rfl⟩
  have hNF : N < G := by omega
  rw [← hG] at xF ⊢
  rw [← hN] at xN hbl kb ⊢
  have hNW : N < W.heap.size := (Array.getElem?_eq_some_iff.1 xN).1
  have XN := Bx.mk xN; have XF := Bx.mk xF; have NF := Bx.mk hNF; have KB := Bx.mk kb; have BL := Bx.mk hbl; have HN := Bx.mk hN; have HL := Bx.mk hh; have HLEN := Bx.mk hlen; have HK := Bx.mk hk; have NW := Bx.mk (Nat.le_of_lt hNW); have OD := Bx.mk hod
  have HHS := Bx.mk hHs; have HRW := Bx.mk hrow
  have XB := Bx.mk (fun u (hu : Below N W u) => (hu.block rb hbl).trans xb)
  have HBM := Bx.mk hB; have HBS := Bx.mk hbase; have H32 := Bx.mk hB.h32
  clear xN xF hNF kb kb1 xN1 xb hbl hN hG hHs hrow h2 hB hbase hlen hk hh hNW hod hW
  have n1 : ((n : Int) == 9223372036854775808) = false := by rw [beq_eq_false_iff_ne]; omega
  have n2 : (n == 9223372036854775808) = false := by rw [beq_eq_false_iff_ne]; omega
  obtain ⟨B1, hB1⟩ : ∃ B1, B1 = W.heap.size := ⟨_, rfl⟩
  have HB1 := Bx.mk (Nat.le_of_eq hB1); have FB1 := Bx.mk (show G < B1 by rw [hB1]; exact (Array.getElem?_eq_some_iff.1 XF.out).1)
  clear hB1
  go_upto_region 3 with (fail)
  clear c0
  refine wp_region_own4 (n := 78) VRa3mk (fun _ => none) (VRa3 rb n N B1 p) (by kernel_rfl) (by kernel_rfl) rfl (fun _ _ => rfl) (fun j i hj _ => by cases hj) ?_ ?_ ?_
  · exact fun oi oj v own w own' w' hij _ h r => VRa3_mono rb n N B1 p oi oj v own w own' w' hij h r
  · intro oi o hi f u own hsame hsn hfr hlate hkeep hdep
    have hb6 := hsn.below (B := W.heap.size) (fun _ _ => rfl) (Nat.le_refl _)
    have hbN := hb6.mono NW.out
    match oi, hi with
    | 0, hi =>
      cases (show some _ = some o from hi)
      have e0 : f.tmps.getD 0 undef = .pointer (some ⟨rb, 0, none⟩) := hsame.slot 0 (fun i o h => invB2_not 0 (by kernel_rfl) h)
      clear hdep hsame hi hlate hfr hkeep
      exact .inl ⟨wanted_none rfl, showsO_move hsn rfl _ rfl e0⟩
    | 1, hi =>
      cases (show some _ = some o from hi)
      have e16 : (f.tmps.getD 16 undef) = .pointer (some ⟨rb, 0, none⟩) := depO (V := (VRa3 rb n N B1 p)) hdep 0 16 (by kernel_rfl) (by kernel_rfl)
      clear hdep hsame hi hlate hfr hkeep
      exact .inl ⟨wanted_none rfl, showsO_pure hsn rfl (.pointer (some ⟨rb, 0, none⟩)) (by simp only [execOp, Act.eval]; go_simp) rfl⟩
    | 2, hi =>
      cases (show some _ = some o from hi)
      have e17 : (f.tmps.getD 17 undef) = .pointer (some ⟨rb, 0, none⟩) := depO (V := (VRa3 rb n N B1 p)) hdep 1 17 (by kernel_rfl) (by kernel_rfl)
      clear hdep hsame hi hlate hfr hkeep
      exact .inl ⟨wanted_none rfl, showsO_pure hsn rfl (.pointer (some ⟨rb, 0, none⟩)) (by simp only [execOp, Act.eval]; go_simp) rfl⟩
    | 3, hi =>
      cases (show some _ = some o from hi)
      have e18 : (f.tmps.getD 18 undef) = .pointer (some ⟨rb, 0, none⟩) := depO (V := (VRa3 rb n N B1 p)) hdep 2 18 (by kernel_rfl) (by kernel_rfl)
      clear hdep hsame hi hlate hfr hkeep
      have c0 := er_cellAt (XB.out u hbN) 0 _ rfl
      exact .inl ⟨wanted_none rfl, showsO_pure hsn rfl (.int .u64 (n : Int)) (by simp only [execOp, Act.eval]; go_simp) rfl⟩
    | 4, hi =>
      cases (show some _ = some o from hi)
      have e19 : (f.tmps.getD 19 undef) = .int .u64 (n : Int) := depO (V := (VRa3 rb n N B1 p)) hdep 3 19 (by kernel_rfl) (by kernel_rfl)
      clear hdep hsame hi hlate hfr hkeep
      exact .inl ⟨wanted_none rfl, showsO_build hsn rfl 119 #[(1, .tmp 19)] rfl #[.int .u8 0, .int .u64 (n : Int)] (by simp only [List.map_toArray, List.map_cons, List.map_nil, Act.eval]; rw [e19]; exact built_coord1 _) rfl⟩
    | 5, hi =>
      cases (show some _ = some o from hi)
      have e3 : f.tmps.getD 3 undef = .pointer (some ⟨N, 0, none⟩) := hsame.slot 3 (fun i o h => invB2_not 3 (by kernel_rfl) h)
      clear hdep hsame hi hlate hfr hkeep
      exact .inl ⟨wanted_none rfl, showsO_row hsn rfl 66 (.tmp 3) rfl N e3 (ocells p) ((hb6.block N (Array.getElem?_eq_some_iff.1 XN.out).1).trans XN.out) underH rfl (hszL HL.out) rfl⟩
    | 6, hi =>
      cases (show some _ = some o from hi)
      have e20 : (f.tmps.getD 20 undef) = .agg #[.int .u8 0, .int .u64 (n : Int)] := depO (V := (VRa3 rb n N B1 p)) hdep 4 20 (by kernel_rfl) (by kernel_rfl)
      have e21 : (f.tmps.getD 21 undef) = .agg (ocells (p)) := depO (V := (VRa3 rb n N B1 p)) hdep 5 21 (by kernel_rfl) (by kernel_rfl)
      clear hdep hsame hi hlate hfr hkeep
      exact .inl ⟨wanted_none rfl, showsO_build hsn rfl 130 #[(0, .tmp 20), (1, .tmp 21)] rfl (ncell (0, n, p)) (by simp only [List.map_toArray, List.map_cons, List.map_nil, Act.eval]; rw [e20, e21]; exact built_node 0 n p HL.out) rfl⟩
    | 7, hi =>
      cases (show some _ = some o from hi)
      have e22 : (f.tmps.getD 22 undef) = .agg (ncell (0, n, p)) := depO (V := (VRa3 rb n N B1 p)) hdep 6 22 (by kernel_rfl) (by kernel_rfl)
      clear hdep hsame hi hlate hfr hkeep
      exact .inl ⟨wanted_none rfl, showsO_built hsn rfl 1 130 (ncell (0, n, p)) (run_bs_node u (.tmp 22) rfl (ncell (0, n, p)) (ncell_size HL.out) e22) (fun h => .of h fun k hk => by cases hk; exact Nat.le_trans HB1.out hb6.size)⟩
    | 8, hi =>
      cases (show some _ = some o from hi)
      have e23 : FreshV own u (f.tmps.getD 23 undef) B1 1 130 (ncell (0, n, p)) := depO (V := (VRa3 rb n N B1 p)) hdep 7 23 (by kernel_rfl) (by kernel_rfl)
      clear hdep hsame hi hlate hfr hkeep
      exact .inl ⟨wanted_none rfl, showsO_assign hsn rfl _ rfl e23⟩
    | n + 9, hi => exact absurd hi (by simp)
  · intro f u own hsame hsn hall
    have q16 : f.tmps.getD 16 undef = .pointer (some ⟨rb, 0, none⟩) := finO (V := (VRa3 rb n N B1 p)) hall 0 16 rfl
    have q17 : f.tmps.getD 17 undef = .pointer (some ⟨rb, 0, none⟩) := finO (V := (VRa3 rb n N B1 p)) hall 1 17 rfl
    have q18 : f.tmps.getD 18 undef = .pointer (some ⟨rb, 0, none⟩) := finO (V := (VRa3 rb n N B1 p)) hall 2 18 rfl
    have q19 : f.tmps.getD 19 undef = .int .u64 (n : Int) := finO (V := (VRa3 rb n N B1 p)) hall 3 19 rfl
    have q20 : f.tmps.getD 20 undef = .agg #[.int .u8 0, .int .u64 (n : Int)] := finO (V := (VRa3 rb n N B1 p)) hall 4 20 rfl
    have q21 : f.tmps.getD 21 undef = .agg (ocells (p)) := finO (V := (VRa3 rb n N B1 p)) hall 5 21 rfl
    have q22 : f.tmps.getD 22 undef = .agg (ncell (0, n, p)) := finO (V := (VRa3 rb n N B1 p)) hall 6 22 rfl
    obtain ⟨g23, q23, f23, o23, m23⟩ := finO (V := (VRa3 rb n N B1 p)) hall 7 23 rfl
    obtain ⟨g6, q6, f6, o6, m6⟩ := finO (V := (VRa3 rb n N B1 p)) hall 8 6 rfl
    obtain rfl := frame_eq hsame [(16, .pointer (some ⟨rb, 0, none⟩)), (17, .pointer (some ⟨rb, 0, none⟩)), (18, .pointer (some ⟨rb, 0, none⟩)), (19, .int .u64 (n : Int)), (20, .agg #[.int .u8 0, .int .u64 (n : Int)]), (21, .agg (ocells (p))), (22, .agg (ncell (0, n, p))), (23, .slice (some ⟨g23, 0, none⟩) 1 1), (6, .slice (some ⟨g6, 0, none⟩) 1 1)] (by kernel_rfl) ⟨q16, q17, q18, q19, q20, q21, q22, q23, q6, trivial⟩
    clear hall hsame q16 q17 q18 q19 q20 q21 q22 q23 q6
    simp only [List.foldl, List.setIfInBounds_toArray, List.set_cons_succ, List.set_cons_zero]
    have b6 := hsn.below (B := W.heap.size) (fun _ _ => rfl) (Nat.le_refl _)
    have R7 := Bx.mk (row_of_built m6 f6 (size := 34) (n := 1) (by rw [ncell_size HL.out]) (by unfold maxLen; decide))
    have B6 := Bx.mk b6
    clear b6 m6 m23 f6 f23 o6 o23 hsn
    have xr := XB.out u (B6.out.mono NW.out)
    have c0 := er_cellAt xr 0 _ rfl; have c1 := er_cellAt xr 1 _ rfl
    clear xr
    obtain ⟨i1, hi1, hy0, hy1, hy2⟩ := info_parts infoH
    have RH := Bx.mk (And.intro hi1 (And.intro hy0 (And.intro hy1 hy2)))
    have HS := Bx.mk (hss_src (HHS.out.below B6.out))
    have HCL := Bx.mk (hcells_length H32.out)
    have HNL := Bx.mk (own_nilE HRW.out)
    have R0 := Bx.mk (World.ownsRow_nil u u.heap.size 66 32)
    have h64 : ls.length ≤ 64 := by rw [HLEN.out]; exact pcnt_le n
    have L64 := Bx.mk h64
    have M1 := Bx.mk (show 0 + ls.length ≤ maxLen by unfold maxLen; omega); have M2 := Bx.mk (show (0 + ls.length) * 32 ≤ 140737488355328 by omega)
    clear hi1 hy0 hy1 hy2
    go_upto_region 8 with (guard_target =~ wpList _ _ _ (⟨some 33, _, _, _, _, _⟩ :: _) _ _; refine wpList_append_src rfl (.tmp 28) (.tmp 32) 51 rfl u.heap.size 66 i1 (.agg zeros32) 32 32 underHs RH.out.1 RH.out.2.1 RH.out.2.2.1 RH.out.2.2.2 rfl (by decide) (.slice none 0 0) 0 [] rfl R0.out a ls.length c (hcells ls) rfl HNL.out HCL.out HS.out (hcells_one _) M1.out M2.out (Nat.le_refl _) ?_; intro v1 w1 o1 g1 _; obtain ⟨a9, c9, rfl, _, _, _⟩ := own_shape o1; have hk1 : Keep (fun _ => False) u w1 := (Keep.of_grown g1).mono (fun k _ h => by cases h); have O1 := Bx.mk o1; have G1 := Bx.mk hk1; clear o1 g1 hk1)
    have hb1 : Below u.heap.size u w1 := G1.out.below (Nat.le_refl _) (fun _ h => h.elim)
    have o1 := O1.out
    rw [Nat.zero_add, List.nil_append] at o1
    have hle9 := own_leE o1
    have LP0 : LpC W B1 N G n ls p a9 c9 (.slice (some ⟨g6, 0, none⟩) 1 1) 0 w1 := by
      refine ⟨?_, ownsRow_mono o1 (Nat.le_trans HB1.out B6.out.size), ?_, ?_, (B6.out.mono NW.out).trans (hb1.mono (Nat.le_trans NW.out B6.out.size)), ?_⟩
      · rw [ncells_one1]
        exact ownsRow_keep' R7.out fun j hj => hb1.block j (ownsRow_lt R7.out j hj)
      · have h := (B6.out.block N (Array.getElem?_eq_some_iff.1 XN.out).1).trans XN.out
        exact (hb1.block N (Array.getElem?_eq_some_iff.1 h).1).trans h
      · have h := (B6.out.block G (Array.getElem?_eq_some_iff.1 XF.out).1).trans XF.out
        exact (hb1.block G (Array.getElem?_eq_some_iff.1 h).1).trans h
      · intro j hj e
        have h1 := ownsRow_lt R7.out j hj
        have h2 := ownsRow_fresh o1 j e
        omega
    have LP := Bx.mk LP0; have LE9 := Bx.mk hle9
    clear LP0 hb1 o1 O1 G1 HS R0 HCL HNL RH R7 B6 M1 M2 c0 c1 hle9
    obtain ⟨L, hL⟩ : ∃ L, L = ls.length := ⟨_, rfl⟩
    rw [← hL] at hk1
    have LL := Bx.mk hL
    rw [← hL]
    clear hL
    go_loopw [6, 7, 8, 9] (fun ov iv lv sv wr => ∃ t : Nat, t ≤ k ∧ iv = .int .u64 ((n / 2 ^ t : Nat) : Int) ∧ lv = .int .u8 (t : Int) ∧ sv = .slice a9 (L - t) c9 ∧ LpC W B1 N G n ls p a9 c9 ov t wr) (fun _ _ lv _ _ => k - (intOf lv).toNat)
    case atStart => exact ⟨0, Nat.zero_le _, by rw [Nat.pow_zero, Nat.div_one], rfl, rfl, LP.out⟩
    case round =>
      obtain ⟨t, ht, rfl, rfl, rfl, hlp⟩ := hrel
      have hd := OD.out t ht
      have LQ := Bx.mk hlp
      obtain ⟨xi, hxi⟩ : ∃ xi, xi = n / 2 ^ t := ⟨_, rfl⟩
      have hxs : xi ≤ n := by rw [hxi]; exact Nat.div_le_self _ _
      rw [← hxi] at hd ⊢
      obtain ⟨a7, c7, rfl, q1, q2, q3⟩ := own_shape hlp.nod
      clear hlp LP q1 q2 q3
      have XI := Bx.mk hxi; have XS := Bx.mk hxs
      clear hxi hxs
      by_cases hlt : t < k
      · have hodd : xi % 2 = 1 := hd.2 hlt
        have f1 : ((xi : Int) % 2 == 1) = true := by rw [beq_iff_eq]; omega
        have TK := Bx.mk hlt
        have TL := Bx.mk (show t < L by omega)
        obtain ⟨m, hm⟩ : ∃ m, m = L - t - 1 := ⟨_, rfl⟩
        have em : L - t = m + 1 := by omega
        have lc := LE9.out
        rw [← LL.out] at lc
        have M64 := Bx.mk (show m ≤ 64 by have := L64.out; have := LL.out; omega)
        have MC := Bx.mk (show m + 1 ≤ c9 by omega)
        have ML := Bx.mk (show m + t + 1 = L by omega)
        rw [em]
        clear hd hlt ht hodd hm em lc
        have hfl := Go.Joins.ownsRow_forms LQ.out.lef
        have hHq := hss_own LQ.out.lef H32.out rfl
        obtain ⟨g, c', e⟩ : ∃ g c', Value.slice a9 ls.length c9 = .slice (some ⟨g, 0, none⟩) ls.length c' := by
          rcases hfl with ⟨e, h0⟩ | ⟨g, c', e⟩
          · have := TL.out; have := LL.out; omega
          · exact ⟨g, c', e⟩
        cases e
        obtain ⟨_, _, _, B, off, e, hBl, hr, hxl⟩ := hHq.at m (by have := ML.out; have := LL.out; omega)
        cases e
        rw [Nat.zero_add] at hr
        have hmx : ls.length - 1 - t = m := by have := ML.out; have := LL.out; omega
        have hst : hkB ls p (t + 1) = nd (ls[m]'(by have := ML.out; have := LL.out; omega)) (hkB ls p t) := by
          show nd (ls.getD _ _) _ = _
          rw [List.getD_eq_getElem?_getD, hmx, List.getElem?_eq_getElem (by have := ML.out; have := LL.out; omega)]; rfl
        have hyl := hkB_length (ls := ls) HL.out t
        have hnp := ncells_push (nodesB n ls p (t + 1)) (t + 1, n / 2 ^ (t + 1), hkB ls p (t + 1))
        rw [← nodesB_succ] at hnp
        obtain ⟨x, hx⟩ : ∃ x, x = ls[m]'(by have := ML.out; have := LL.out; omega) := ⟨_, rfl⟩
        rw [← hx] at hr hxl hst
        have h3 := LQ.out.hsh
        have h4 := LQ.out.nod
        obtain ⟨y, hy⟩ : ∃ y, y = hkB ls p t := ⟨_, rfl⟩
        rw [← hy] at hst hyl h3
        obtain ⟨z, hz⟩ : ∃ z, z = nd x y := ⟨_, rfl⟩
        rw [← hz] at hst
        rw [hst] at hnp
        have hzl : z.length = 32 := by rw [hz]; exact nd_length _ _
        obtain ⟨nl, hnl⟩ : ∃ nl, nl = nodesB n ls p (t + 1) := ⟨_, rfl⟩
        rw [← hnl] at hnp h4
        obtain ⟨x2, hx2⟩ : ∃ x2, x2 = n / 2 ^ (t + 1) := ⟨_, rfl⟩
        have hx3 : xi / 2 = x2 := by rw [hx2, XI.out, Nat.pow_succ, Nat.div_div_eq_div_mul]
        rw [← hx2] at hnp
        have RX := Bx.mk (fun (u : World) (hu : u.heap[g]? = wr.heap[g]?) => rangeAt_keptE hr hu)
        have GN := Bx.mk (show N < g by have := ownsRow_fresh LQ.out.lef g rfl; have := FB1.out; have := NF.out; omega)
        have GG := Bx.mk (show g < wr.heap.size from hBl)
        have XL := Bx.mk hxl; have YL := Bx.mk hyl; have ZL := Bx.mk hzl; have HST := Bx.mk hst; have YN := Bx.mk h3; have HO := Bx.mk h4; have HNP := Bx.mk hnp; have X2 := Bx.mk hx2; have X3 := Bx.mk hx3
        have NDE := Bx.mk (show sha (1 :: (x ++ y)) = z from hz.symm)
        have T64 := Bx.mk (show t < 64 by have := TL.out; have := LL.out; have := L64.out; omega)
        have M1 := Bx.mk (show t + 1 + 1 ≤ maxLen by have := T64.out; unfold maxLen; omega); have M2 := Bx.mk (show (t + 1 + 1) * 48 ≤ 140737488355328 by have := T64.out; omega)
        have NK := Bx.mk (show ¬ (Value.slice a7 (t + 1) c7).ownBlock = some N from fun e => by have := ownsRow_fresh h4 N e; have := FB1.out; have := NF.out; omega)
        obtain ⟨i0, hi0, hz0, hz1, hz2⟩ := info_parts infoNz
        have RI := Bx.mk (And.intro hi0 (And.intro hz0 (And.intro hz1 hz2)))
        clear hi0 hz0 hz1 hz2 hr hBl hxl hyl hzl hst h3 h4 hnp hx hy hz hnl hx2 hx3 hmx hfl hHq
        go_upto_region 9 with (fail)
        refine wp_region_own8 (n := 78) VRa9mk (ownTwo N N 8 8) (VRa9 g c9 m N x y z) (by kernel_rfl) (by kernel_rfl) rfl (fun k hk => ownTwo_none (by have := (Array.getElem?_eq_some_iff.1 YN.out).1; omega) (by have := (Array.getElem?_eq_some_iff.1 YN.out).1; omega)) (fun j i hj _ => by cases hj) ?_ ?_ ?_
        · exact fun oi oj v own w own' w' hij _ h r => VRa9_mono g c9 m N x y z oi oj v own w own' w' hij h r
        · intro oi o hi f u own hsame hsn hfr hlate hkeep8 hdep
          have hkeep := hkeep8 _ (.inl rfl)
          have hk6 := hsn.keepTwo
          have hkk := hk6.block g GG.out (fun e => by have := GN.out; omega)
          match oi, hi with
          | 0, hi =>
            cases (show some _ = some o from hi)
            have e9 : f.tmps.getD 9 undef = .slice (some ⟨g, 0, none⟩) (m + 1) c9 := hsame.slot 9 (fun i o h => invB2_not 9 (by kernel_rfl) h)
            clear hdep hsame hi hlate hfr hkeep
            exact .inl ⟨wanted_none rfl, showsO_move hsn rfl _ rfl e9⟩
          | 1, hi =>
            cases (show some _ = some o from hi)
            have e9 : f.tmps.getD 9 undef = .slice (some ⟨g, 0, none⟩) (m + 1) c9 := hsame.slot 9 (fun i o h => invB2_not 9 (by kernel_rfl) h)
            clear hdep hsame hi hlate hfr hkeep
            exact .inl ⟨wanted_none rfl, showsO_move hsn rfl _ rfl e9⟩
          | 2, hi =>
            cases (show some _ = some o from hi)
            have e38 : (f.tmps.getD 38 undef) = .slice (some ⟨g, 0, none⟩) (m + 1) c9 := depO (V := (VRa9 g c9 m N x y z)) hdep 1 38 (by kernel_rfl) (by kernel_rfl)
            clear hdep hsame hi hlate hfr hkeep
            exact .inl ⟨wanted_none rfl, showsO_pure hsn rfl (.int .i64 ((m + 1 : Nat) : Int)) (by simp only [execOp, Act.eval]; go_simp) rfl⟩
          | 3, hi =>
            cases (show some _ = some o from hi)
            have e39 : (f.tmps.getD 39 undef) = .int .i64 ((m + 1 : Nat) : Int) := depO (V := (VRa9 g c9 m N x y z)) hdep 2 39 (by kernel_rfl) (by kernel_rfl)
            clear hdep hsame hi hlate hfr hkeep
            have hl := M64.out
            exact .inl ⟨wanted_none rfl, showsO_pure hsn rfl (.int .i64 (m : Int)) (by simp only [execOp, Act.eval]; go_simp; simp [IntKind.wrap, IntKind.bits, IntKind.signed]; omega) rfl⟩
          | 4, hi =>
            cases (show some _ = some o from hi)
            have e37 : (f.tmps.getD 37 undef) = .slice (some ⟨g, 0, none⟩) (m + 1) c9 := depO (V := (VRa9 g c9 m N x y z)) hdep 0 37 (by kernel_rfl) (by kernel_rfl)
            have e40 : (f.tmps.getD 40 undef) = .int .i64 (m : Int) := depO (V := (VRa9 g c9 m N x y z)) hdep 3 40 (by kernel_rfl) (by kernel_rfl)
            clear hdep hsame hi hlate hfr hkeep
            have hl := M64.out
            have hl2 : ¬ m + 1 ≤ m := by omega
            have hl3 : ¬ (m : Int) + 1 ≤ (m : Int) := by omega
            exact .inl ⟨wanted_none rfl, showsO_pure hsn rfl (.pointer (some ⟨g, m * 32, none⟩)) (by simp only [execOp, Act.eval]; go_simp) rfl⟩
          | 5, hi =>
            cases (show some _ = some o from hi)
            have e41 : (f.tmps.getD 41 undef) = .pointer (some ⟨g, m * 32, none⟩) := depO (V := (VRa9 g c9 m N x y z)) hdep 4 41 (by kernel_rfl) (by kernel_rfl)
            clear hdep hsame hi hlate hfr hkeep
            exact .inl ⟨wanted_none rfl, showsO_mid hsn rfl 66 (.tmp 41) rfl g (m * 32) e41 (bcells x) (RX.out u hkk) underH rfl (hszB' XL.out) rfl⟩
          | 6, hi =>
            cases (show some _ = some o from hi)
            have e3 : f.tmps.getD 3 undef = .pointer (some ⟨N, 0, none⟩) := hsame.slot 3 (fun i o h => invB2_not 3 (by kernel_rfl) h)
            clear hdep hsame hi hlate hfr hkeep
            have hgu := (hkeep8 8 (.inr (by kernel_rfl)) N (Array.getElem?_eq_some_iff.1 YN.out).1 (ownTwo_one _ _ _ _)).trans YN.out
            exact .inl ⟨wanted_none rfl, showsO_row hsn rfl 66 (.tmp 3) rfl N e3 (ocells y) hgu underH rfl (hszL YL.out) rfl⟩
          | 7, hi =>
            cases (show some _ = some o from hi)
            have e42 : (f.tmps.getD 42 undef) = .agg (ocells (x)) := depO (V := (VRa9 g c9 m N x y z)) hdep 5 42 (by kernel_rfl) (by kernel_rfl)
            have e43 : (f.tmps.getD 43 undef) = .agg (ocells (y)) := depO (V := (VRa9 g c9 m N x y z)) hdep 6 43 (by kernel_rfl) (by kernel_rfl)
            clear hdep hsame hi hlate hfr hkeep
            have cn := rnode_any u x y XL.out YL.out
            rw [hv_agg, hv_agg, hv_agg, show sha (1 :: (x ++ y)) = z from NDE.out] at cn
            exact .inl ⟨wanted_none rfl, showsO_call1 hsn rfl 116 #[.agg (ocells (x)), .agg (ocells (y))] (by simp only [execOp, Act.eval]; go_simp) (cn) (fun _ => rfl)⟩
          | 8, hi =>
            cases (show some _ = some o from hi)
            have e3 : f.tmps.getD 3 undef = .pointer (some ⟨N, 0, none⟩) := hsame.slot 3 (fun i o h => invB2_not 3 (by kernel_rfl) h)
            have e44 : (f.tmps.getD 44 undef) = .agg (ocells (z)) := depO (V := (VRa9 g c9 m N x y z)) hdep 7 44 (by kernel_rfl) (by kernel_rfl)
            clear hdep hsame hi hlate hfr hkeep
            exact .inl ⟨wanted_none rfl, showsO_store_out hsn rfl 66 (.tmp 3) (.tmp 44) rfl (N) e3 YN.out (ownTwo_one _ _ _ _) (ocells z) e44 (hszL ZL.out) (by rw [ocells_size, ocells_size, YL.out, ZL.out]) (ocells_one _) (fun _ h => h)⟩
          | n + 9, hi => exact absurd hi (by simp)
        · intro f u own hsame hsn hall
          have q37 : f.tmps.getD 37 undef = .slice (some ⟨g, 0, none⟩) (m + 1) c9 := finO (V := (VRa9 g c9 m N x y z)) hall 0 37 rfl
          have q38 : f.tmps.getD 38 undef = .slice (some ⟨g, 0, none⟩) (m + 1) c9 := finO (V := (VRa9 g c9 m N x y z)) hall 1 38 rfl
          have q39 : f.tmps.getD 39 undef = .int .i64 ((m + 1 : Nat) : Int) := finO (V := (VRa9 g c9 m N x y z)) hall 2 39 rfl
          have q40 : f.tmps.getD 40 undef = .int .i64 (m : Int) := finO (V := (VRa9 g c9 m N x y z)) hall 3 40 rfl
          have q41 : f.tmps.getD 41 undef = .pointer (some ⟨g, m * 32, none⟩) := finO (V := (VRa9 g c9 m N x y z)) hall 4 41 rfl
          have q42 : f.tmps.getD 42 undef = .agg (ocells (x)) := finO (V := (VRa9 g c9 m N x y z)) hall 5 42 rfl
          have q43 : f.tmps.getD 43 undef = .agg (ocells (y)) := finO (V := (VRa9 g c9 m N x y z)) hall 6 43 rfl
          have q44 : f.tmps.getD 44 undef = .agg (ocells (z)) := finO (V := (VRa9 g c9 m N x y z)) hall 7 44 rfl
          obtain ⟨o_8, m_8⟩ : OutV own u (N) 8 66 (ocells z) := finN (V := (VRa9 g c9 m N x y z)) hall 8 rfl
          obtain rfl := frame_eq hsame [(37, .slice (some ⟨g, 0, none⟩) (m + 1) c9), (38, .slice (some ⟨g, 0, none⟩) (m + 1) c9), (39, .int .i64 ((m + 1 : Nat) : Int)), (40, .int .i64 (m : Int)), (41, .pointer (some ⟨g, m * 32, none⟩)), (42, .agg (ocells (x))), (43, .agg (ocells (y))), (44, .agg (ocells (z)))] (by kernel_rfl) ⟨q37, q38, q39, q40, q41, q42, q43, q44, trivial⟩
          clear hall hsame q37 q38 q39 q40 q41 q42 q43 q44
          simp only [List.foldl, List.setIfInBounds_toArray, List.set_cons_succ, List.set_cons_zero]
          have hk6 := hsn.keepTwo
          have bN : Below N W u := LQ.out.bel.trans (hk6.below (Nat.le_trans NW.out LQ.out.bel.size) (fun k hk => by omega))
          have oo := own_keep HO.out hk6 (fun j hj e => by have := ownsRow_fresh HO.out j hj; have := FB1.out; have := NF.out; omega)
          have ol := own_keep LQ.out.lef hk6 (fun j hj e => by have := ownsRow_fresh LQ.out.lef j hj; have := FB1.out; have := NF.out; omega)
          have fl := (hk6.block G (Array.getElem?_eq_some_iff.1 LQ.out.flt).1 (fun e => by have := NF.out; omega)).trans LQ.out.flt
          have HBW := Bx.mk (show B1 ≤ u.heap.size from Nat.le_trans HB1.out (Nat.le_trans LQ.out.bel.size hk6.size))
          have TWO := Bx.mk LQ.out.two
          clear HO YN o_8 hk6 hsn LQ RX
          have BW := Bx.mk bN; have HO := Bx.mk oo; have ZN := Bx.mk m_8; have OL := Bx.mk ol; have FLT := Bx.mk fl
          clear bN oo m_8 ol fl f1
          obtain ⟨wz, hwz⟩ : ∃ wz, wz = u := ⟨_, rfl⟩
          rw [← hwz] at BW HO ZN HBW OL FLT ⊢
          clear hwz
          have fm : m ≤ c9 := by have := MC.out; omega
          have f2 : (m : Int) ≤ (c9 : Int) := by omega
          have hm64 := M64.out
          have ht64 := T64.out
          have xs := XS.out
          go_upto_region 13 with (fail)
          obtain ⟨t1, ht1⟩ : ∃ t1, t1 = t + 1 := ⟨_, rfl⟩
          rw [show ((xi : Int) / 2) = (x2 : Int) by rw [← X3.out]; omega, show ((t : Int) + 1) = (t1 : Int) by omega]
          have T1 := Bx.mk ht1
          have HNQ := HNP.out
          rw [← ht1] at HNQ
          have HNP := Bx.mk HNQ
          have HO2 := Bx.mk (HO.out.alloc (.cells (ncell (t1, x2, z)) 130))
          have NW2 := Bx.mk (newsE wz (ncell (t1, x2, z)) 130)
          have BB := Bx.mk (show B1 ≤ (wz.alloc (.cells (ncell (t1, x2, z)) 130)).heap.size by have := HBW.out; simp; omega)
          clear fm f2 hm64 ht64 xs ht1 HNQ
          go_wp2_with (first
            | (guard_target =~ wpList _ _ _ (⟨some 57, _, _, _, _, _⟩ :: _) _ _; refine wpList_build_c (by simp [Region.wanted]) 119 #[(0, .tmp 55), (1, .tmp 56)] rfl #[.int .u8 (t1 : Int), .int .u64 (x2 : Int)] (by simp only [List.map_toArray, List.map_cons, List.map_nil]; exact built_coord _ _) ?_)
            | (guard_target =~ wpList _ _ _ (⟨some 58, _, _, _, _, _⟩ :: _) _ _; refine wpList_load_row rfl 66 (.tmp 3) rfl N rfl _ _ _ _ ZN.out underH rfl (hszL ZL.out) ?_)
            | (guard_target =~ wpList _ _ _ (⟨some 59, _, _, _, _, _⟩ :: _) _ _; refine wpList_build_c (by simp [Region.wanted]) 130 #[(0, .tmp 57), (1, .tmp 58)] rfl (ncell (t1, x2, z)) (by simp only [List.map_toArray, List.map_cons, List.map_nil]; exact built_node _ _ z ZL.out) ?_)
            | (guard_target =~ wpList _ _ _ (⟨some 60, _, _, _, _, _⟩ :: _) _ _; refine wpList_run_c (by simp [Region.wanted]) _ (run_bs_node wz (.tmp 59) rfl (ncell (t1, x2, z)) (ncell_size ZL.out) rfl) ?_)
            | (guard_target =~ wpList _ _ _ (⟨some 61, _, _, _, _, _⟩ :: _) _ _; refine wpList_append_apw _ rfl _ _ 83 rfl B1 130 i0 (.agg zerosN) 34 48 underNs RI.out.1 RI.out.2.1 RI.out.2.2.1 RI.out.2.2.2 rfl (by decide) (.slice a7 (t + 1) c7) (t + 1) (ncells nl) rfl HO2.out ⟨wz.heap.size, 0, none⟩ 1 1 (ncell (t1, x2, z)).toList rfl ((Array.length_toList ..).trans (ncell_size ZL.out)) NW2.out (ncell_mem _) M1.out M2.out BB.out ?_; intro v7 w7 happ; have AP := Bx.mk happ; clear happ))
          obtain ⟨o7, k7, n7⟩ := appTwo_keepE AP.out
          have kr := (Keep.of_below (er_al (Below.refl wz.heap.size wz) (.cells (ncell (t1, x2, z)) 130)) (fun j => (Value.slice a7 (t + 1) c7).ownBlock = some j)).trans k7 (fun _ _ h => h)
          have b3 : Below N W w7 := BW.out.trans (kr.below (Nat.le_trans NW.out BW.out.size) (fun k hk => by have := ownsRow_fresh HO.out k hk; have := FB1.out; have := NF.out; omega))
          have z3 := (kr.block N (Array.getElem?_eq_some_iff.1 ZN.out).1 NK.out).trans ZN.out
          have g3 := (kr.block G (Array.getElem?_eq_some_iff.1 FLT.out).1 (fun e => by have := ownsRow_fresh HO.out G e; have := FB1.out; omega)).trans FLT.out
          have l3 := own_keep OL.out kr (fun j hj e => TWO.out j e hj)
          have w3 : ∀ j, v7.ownBlock = some j → (Value.slice (some ⟨g, 0, none⟩) ls.length c9).ownBlock ≠ some j := fun j hj e => by
            rcases n7 j hj with h1 | h1
            · exact TWO.out j h1 e
            · have h2 := ownsRow_lt OL.out j e
              simp at h1
              omega
          rw [HNP.out, T1.out] at o7
          have LR := Bx.mk (show LpC W B1 N G n ls p (some ⟨g, 0, none⟩) c9 v7 (t + 1) w7 from ⟨o7, l3, by rw [HST.out]; exact z3, g3, b3, w3⟩)
          clear o7 k7 n7 kr b3 z3 g3 l3 w3 AP
          have htk : t < k := TK.out
          have ht2 := T1.out
          go_roundw
          case rel => exact ⟨t + 1, htk, by rw [X2.out], by rw [T1.out], by rw [show L - (t + 1) = m by have := ML.out; omega], LR.out⟩
          case measure => simp only [intOf]; omega
      · obtain rfl : t = k := by omega
        have f1 : ((xi : Int) % 2 == 1) = false := by
          rw [beq_eq_false_iff_ne]
          intro e
          exact hlt (hd.1 (by omega))
        clear hlt ht hd
        obtain ⟨m, hm⟩ : ∃ m, m = L - t := ⟨_, rfl⟩
        rw [← hm]
        have YX0 := LQ.out.hsh
        obtain ⟨z, hz⟩ : ∃ z, z = hkB ls p t := ⟨_, rfl⟩
        rw [← hz] at YX0
        have OX0 := own_takeE LQ.out.lef m (by have := LL.out; omega)
        rw [hcells_take H32.out m (by have := LL.out; omega)] at OX0
        obtain ⟨l2, hl2⟩ : ∃ l2, l2 = ls.take m := ⟨_, rfl⟩
        rw [← hl2] at OX0
        have l2n : l2.length = m := by rw [hl2, List.length_take]; have := LL.out; omega
        have els : lsB n ls p = l2 ++ [z] := by unfold lsB; rw [← HK.out, ← LL.out, ← hm, ← hl2, ← hz]
        have zl : z.length = 32 := by rw [hz]; exact hkB_length HL.out t
        have xr := XB.out wr LQ.out.bel
        obtain ⟨j0, hj0, hy0, hy1, hy2⟩ := info_parts infoH
        have RJ := Bx.mk (And.intro hj0 (And.intro hy0 (And.intro hy1 hy2)))
        have ZN := Bx.mk YX0; have ZL := Bx.mk zl; have ELS := Bx.mk els; have L2N := Bx.mk l2n
        have OX := Bx.mk (OX0.alloc (.cells (ocells z) 66))
        have OXW := Bx.mk OX0
        have NW2 := Bx.mk (newsE wr (ocells z) 66)
        have Q1 := Bx.mk (show m + 1 ≤ maxLen by have := L64.out; have := LL.out; unfold maxLen; omega); have Q2 := Bx.mk (show (m + 1) * 32 ≤ 140737488355328 by have := L64.out; have := LL.out; omega)
        have BB := Bx.mk (show B1 ≤ (wr.alloc (.cells (ocells z) 66)).heap.size by have := HB1.out; have := LQ.out.bel.size; simp; omega)
        have XR := Bx.mk xr
        clear hm YX0 hz OX0 hl2 l2n els zl xr hj0 hy0 hy1 hy2
        go_upto_region 15 with (first
          | (guard_target =~ wpList _ _ _ (⟨some 64, _, _, _, _, _⟩ :: _) _ _; refine wpList_load_row rfl 66 (.tmp 3) rfl N rfl _ _ _ _ ZN.out underH rfl (hszL ZL.out) ?_)
          | (guard_target =~ wpList _ _ _ (⟨some 65, _, _, _, _, _⟩ :: _) _ _; refine wpList_run_c (by simp [Region.wanted]) _ (run_bs_one wr (.tmp 64) rfl z ZL.out rfl) ?_)
          | (guard_target =~ wpList _ _ _ (⟨some 66, _, _, _, _, _⟩ :: _) _ _; refine wpList_append_apw _ rfl (.tmp 63) (.tmp 65) 51 rfl B1 66 j0 (.agg zeros32) 32 32 underHs RJ.out.1 RJ.out.2.1 RJ.out.2.2.1 RJ.out.2.2.2 rfl (by decide) (.slice a9 m c9) m (hcells l2) rfl OX.out ⟨wr.heap.size, 0, none⟩ 1 1 (ocells z).toList rfl ((Array.length_toList ..).trans ((ocells_size z).trans ZL.out)) NW2.out (fun u hu => Array.all_eq_true_iff_forall_mem.1 (ocells_one z) u (by simpa using hu)) Q1.out Q2.out BB.out ?_; intro v9 w9 happ; obtain ⟨a10, c10, hv9, -, -, -⟩ := own_shape (appTwo_keepE happ).1; subst hv9; have xw := ((appTwo_keepE happ).2.1.block rb (Nat.lt_of_lt_of_le (Array.getElem?_eq_some_iff.1 XR.out).1 (er_al (Below.refl wr.heap.size wr) (.cells (ocells z) 66)).size) (fun e => by have := ownsRow_fresh OXW.out rb e; have := BL.out; have := NF.out; have := FB1.out; omega)).trans (((er_al (Below.refl wr.heap.size wr) (.cells (ocells z) 66)).block rb (Array.getElem?_eq_some_iff.1 XR.out).1).trans XR.out); have d1 := er_cellAt xw 1 _ rfl; have f9 := frozenC xw 1; have AP := Bx.mk happ; have XW := Bx.mk xw; clear happ xw))
        have y1 := one_setE XW.out (.slice a10 (m + 1) c10)
        obtain ⟨o9, k9, n9⟩ := appTwo_keepE AP.out
        have b9 := er_al (Below.refl wr.heap.size wr) (.cells (ocells z) 66)
        have kr := (Keep.of_below b9 (fun j => (Value.slice a9 m c9).ownBlock = some j)).trans k9 (fun _ _ h => h)
        have a9B : ∀ k, (Value.slice a9 m c9).ownBlock = some k → B1 ≤ k := fun k hk => ownsRow_fresh OXW.out k hk
        have ord : rb < N ∧ N < G ∧ G < B1 := ⟨BL.out, NF.out, FB1.out⟩
        have bN9 : Below N w w9 := (KB.out.trans LQ.out.bel).trans (kr.below (Nat.le_trans NW.out LQ.out.bel.size) (fun k hk => by have := a9B k hk; omega))
        have v9B : ∀ k, (Value.slice a10 (m + 1) c10).ownBlock = some k → B1 ≤ k := fun k hk => ownsRow_fresh o9 k hk
        have nod9 := own_keep LQ.out.nod kr (fun j hj e => LQ.out.two j hj ((ownBlock_lenE a9 ls.length m c9 c9).trans e))
        have g9 := (kr.block G (Array.getElem?_eq_some_iff.1 LQ.out.flt).1 (fun e => by have := a9B G e; omega)).trans LQ.out.flt
        have o10 := ownsRow_setCell_ne o9 ⟨rb, 1, none⟩ (.slice a10 (m + 1) c10) (fun k hk e => by have h1 := v9B k hk; have e2 : k = rb := e; omega)
        have n10 := ownsRow_setCell_ne nod9 ⟨rb, 1, none⟩ (.slice a10 (m + 1) c10) (fun k hk e => by have h1 := ownsRow_fresh nod9 k hk; have e2 : k = rb := e; omega)
        have hk1 := (Keep.of_below (HN.out ▸ bN9) (fun j => j = rb)).trans (Keep.setCell w9 ⟨rb, 1, none⟩ (.slice a10 (m + 1) c10)) (fun _ _ h => h)
        have g10 := ((Keep.setCell w9 ⟨rb, 1, none⟩ (.slice a10 (m + 1) c10)).block G (Array.getElem?_eq_some_iff.1 g9).1 (by show G ≠ rb; omega)).trans g9
        change Code.wp _ _ _ _ (w9.setCell ⟨rb, 1, none⟩ (.slice a10 (m + 1) c10))
        generalize w9.setCell ⟨rb, 1, none⟩ (.slice a10 (m + 1) c10) = w10 at y1 o10 n10 hk1 g10 ⊢
        have Y1 := Bx.mk y1; have O10 := Bx.mk o10; have N10 := Bx.mk n10; have HK1 := Bx.mk hk1; have G10 := Bx.mk g10; have V9 := Bx.mk v9B
        have e0 := er_cellAt y1 0 _ rfl; have e1 := frozenC y1 0
        clear y1 o9 k9 n9 b9 kr a9B bN9 v9B nod9 g9 o10 n10 hk1 g10 d1 f9 AP XW ord
        go_upto_region 16 with (fail)
        have y2 := zero_setE Y1.out (.int .u64 ((n : Int) + 1))
        have o11 := ownsRow_setCell_ne O10.out ⟨rb, 0, none⟩ (.int .u64 ((n : Int) + 1)) (fun k hk e => by have h1 := V9.out k hk; have e2 : k = rb := e; have := BL.out; have := NF.out; have := FB1.out; omega)
        have n11 := ownsRow_setCell_ne N10.out ⟨rb, 0, none⟩ (.int .u64 ((n : Int) + 1)) (fun k hk e => by have h1 := ownsRow_fresh N10.out k hk; have e2 : k = rb := e; have := BL.out; have := NF.out; have := FB1.out; omega)
        have k11 := HK1.out.trans (Keep.setCell w10 ⟨rb, 0, none⟩ (.int .u64 ((n : Int) + 1))) (fun _ _ h => h)
        have g11 := ((Keep.setCell w10 ⟨rb, 0, none⟩ (.int .u64 ((n : Int) + 1))).block G (Array.getElem?_eq_some_iff.1 G10.out).1 (by show G ≠ rb; have := BL.out; have := NF.out; omega)).trans G10.out
        clear e0 e1
        change Code.wp _ _ _ _ (w10.setCell ⟨rb, 0, none⟩ (.int .u64 ((n : Int) + 1)))
        generalize w10.setCell ⟨rb, 0, none⟩ (.int .u64 ((n : Int) + 1)) = w11 at y2 o11 n11 k11 g11 ⊢
        have Y2 := Bx.mk y2; have O11 := Bx.mk o11; have N11 := Bx.mk n11; have K11 := Bx.mk k11; have G11 := Bx.mk g11
        have z0 := er_cellAt g11 0 _ rfl; have z1 := er_cellAt g11 1 _ rfl
        have z2 := frozenC g11 0; have z3 := frozenC g11 1
        clear y2 o11 n11 k11 g11
        go_wp2_with fail
        refine bodyPost_ret (res_tf rfl _ _ G _ _ _ _ rfl (two_setE G11.out _ _) Tryz.underlying73 (by kernel_rfl)) rfl ⟨.slice a7 (t + 1) c7, rfl, ?_⟩
        have gne : ∀ j, B1 ≤ j → j ≠ G := fun j hj => by have := FB1.out; omega
        have gfin := fun (x y : Value) => ((K11.out.trans (Keep.setCell w11 ⟨G, 0, none⟩ x) (fun j hj e => absurd (show j = G from e) (by have := HN.out; have := NF.out; omega))).trans (Keep.setCell (w11.setCell ⟨G, 0, none⟩ x) ⟨G, 1, none⟩ y) (fun j hj e => absurd (show j = G from e) (by have := HN.out; have := NF.out; omega)))
        have rows := fun (T : TypeId) (sz cn : Nat) (v : Value) (xs : List Value) (h : w11.ownsRow B1 T sz v cn xs) (x y : Value) => ownsRow_setCell_ne (ownsRow_setCell_ne h ⟨G, 0, none⟩ x (fun k hk e => gne k (ownsRow_fresh h k hk) e)) ⟨G, 1, none⟩ y (fun k hk e => gne k (ownsRow_fresh h k hk) e)
        have hnB : w.heap.size ≤ B1 := by have := HN.out; have := NF.out; have := FB1.out; omega
        unfold RAddR
        rw [← HK.out]
        refine ⟨ownsRow_mono (rows _ _ _ _ _ N11.out _ _) hnB, gfin _ _, .slice a10 (m + 1) c10, ⟨?_, HBM.out.br, ?_, ?_⟩, fun k hk => Nat.le_trans hnB (V9.out k hk)⟩
        · have h := Y2.out
          have hne : G ≠ rb := by have := BL.out; have := NF.out; omega
          simp [World.setCell, Array.getElem?_modify, h, hne]
        · have h := rows _ _ _ _ _ O11.out (.int .i64 0) (.int .i64 0)
          rw [ELS.out]
          rw [hcells_push] at h
          rw [show (l2 ++ [z]).length = m + 1 by simp [L2N.out]]
          exact ownsRow_mono h (Nat.le_trans HBS.out hnB)
        · exact lsB_mem HL.out H32.out

end Go.Proofs.YtbhcaalelfaceaaGreatDoor
