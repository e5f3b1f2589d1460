/- cartularylaw04.ShaCopies walked. -/
import Derived.Test.YtfoknhogclfhhaaDoorNone
import Derived.Test.YtfoknhogclfhhaaDoorInv
namespace Go.Proofs.YtfoknhogclfhhaaDoor
set_option maxRecDepth 100000
open Go.RowKit
theorem ints_three (w : World) (a b c n : Nat) (hn : n = w.heap.size) : Ints (w.alloc (.cells #[.int .i64 (a : Int), .int .i64 (b : Int), .int .i64 (c : Int)] 3)) (.slice (some ⟨n, 0, none⟩) 3 3) [a, b, c] := by
  subst hn
  exact ⟨_, 3, rfl, Nat.le_refl _, by simp [maxLen], fun _ => ⟨w.heap.size, 0, rfl, by simp, fun i hi => by
    rw [World.cell?_alloc_at _ _ _ _ rfl]
    match i, hi with
    | 0, _ => rfl
    | 1, _ => rfl
    | 2, _ => rfl
    | n + 3, h => exact absurd h (by simp)⟩⟩
/-- the copy that TwinBytes makes reads as the bytes -/
theorem twin_src (w : World) (l : List UInt8) (hl : l.length ≤ 70368744177664) (n : Nat) (hn : n = w.heap.size) : Src (w.alloc (.cells (ocells (l ++ [128])) 5)) (.slice (some ⟨n, 0, none⟩) l.length (l.length + 1)) l := by
  subst hn
  exact ⟨_, l.length + 1, rfl, by omega, by unfold maxLen; omega, by simp, fun _ => ⟨w.heap.size, 0, rfl, by simp, fun i hi => cell_at (heap_alloc_new _ _) _ _ (by
    rw [Nat.zero_add, ocells_get _ _ (by simp; omega), List.getElem_append_left hi])⟩⟩
theorem Src.below {w w' : World} {v : Value} {l : List UInt8} (h : Src w v l) (k : Below w.heap.size w w') : Src w' v l := h.kept (Keep.of_below k (fun _ => False)) (fun _ _ h => h)
theorem Tab.below {w w' : World} (h : Tab w) (hgs : 0 < w.heap.size) (k : Below w.heap.size w w') : Tab w' := h.kept (Keep.of_below k (fun _ => False)) hgs (fun h => h)
/-- d.Write(TwinBytes(x)), behind TwinBytes: the digest takes the bytes -/
theorem write_twin (base : Nat) (w : World) (p : Nat) (m l : List UInt8) (S : Nat → Prop) (h : DigP base w p m S) (hT : Tab w) (hg : 0 < base) (hl : l.length ≤ 1048576) (hlen : m.length ≤ 1073741824)
    (hbase : base ≤ w.heap.size) :
    Calls Tryd.prog 15 #[.pointer (some ⟨p, 0, none⟩), .slice (some ⟨w.heap.size, 0, none⟩) l.length (l.length + 1)] (w.alloc (.cells (ocells (l ++ [128])) 5)) fun e w' => e = .returned (.tuple #[]) ∧ WroteP base w w' p (m ++ l) S := by
  have k : Below w.heap.size w (w.alloc (.cells (ocells (l ++ [128])) 5)) := (Below.refl _ _).alloc (Nat.le_refl _) _
  refine (writeP base _ p _ m l S (h.below k) (hT.below (by omega) k) hg (twin_src w l (by omega) _ rfl) (fun j hj hs => ?_) (by omega) (Nat.le_trans hbase k.size)).mono ?_
  · have : w.heap.size = j := by simpa [Value.ownBlock] using hj
    have := h.lt j hs
    omega
  · rintro e w' ⟨he, hw⟩
    obtain ⟨S', hd, hs⟩ := hw.ex
    refine ⟨he, ⟨S', hd, fun j hj => ?_⟩, ?_⟩
    · rcases hs j hj with h1 | h1
      · exact .inl h1
      · exact .inr (Nat.le_trans k.size h1)
    · exact (Keep.of_below k S).trans hw.keep (fun _ _ h => h)
theorem WroteP.below {base : Nat} {w w' : World} {p : Nat} {m : List UInt8} {S : Nat → Prop} (h : WroteP base w w' p m S) {B : Nat} (hB : B ≤ w.heap.size) (hs : ∀ k, S k → B ≤ k) : Below B w w' := h.keep.below hB hs
/-- '[]byte -> string' of what reads as bytes -/
theorem Src.string {w : World} {a : Option Addr} {n c : Nat} {l : List UInt8} (h : Src w (.slice a n c) l) (u : World) (k : Below w.heap.size w u) : (convert 30 9 (.slice a n c)).run Tryd.prog u = .ok (.string ⟨l.toArray⟩) u := by
  have h := h.below k
  obtain ⟨a', c', he, h1, h2, h4, h3⟩ := h
  simp only [Value.slice.injEq] at he
  obtain ⟨rfl, rfl, rfl⟩ := he
  by_cases hl : l = []
  · subst hl
    cases a with
    | none =>
      rw [run_convert_bytes_string u 30 9 5 none _ c underB (by kernel_rfl) (by kernel_rfl)]
      simp [Conv.bytesToString]
      rfl
    | some ad => exact run_convert_bytes_back (P := Tryd.prog) u 30 9 5 ad c [] underB (by kernel_rfl) (by kernel_rfl) (fun j hj => absurd hj (by simp))
  · obtain ⟨B, off, rfl, _, hc⟩ := h3 hl
    exact run_convert_bytes_back (P := Tryd.prog) u 30 9 5 ⟨B, off, none⟩ c l underB (by kernel_rfl) (by kernel_rfl) (fun j hj => by
      have e : (⟨B, off, none⟩ : Addr).add j = ⟨B, off + j, none⟩ := by unfold Addr.add; split <;> simp_all
      rw [e]; exact hc j hj)
theorem strs_block (u : World) (n : Nat) (ss : List ByteArray) (T : TypeId) (fr : Nat × Nat) (m : Nat) (hm : m = ss.length) (hss : ss.length ≤ maxLen) (h : u.heap[n]? = some (.cells (ss.map Value.string).toArray T fr)) :
    Strs u (.slice (some ⟨n, 0, none⟩) m m) ss := by
  subst hm
  exact ⟨_, ss.length, rfl, Nat.le_refl _, hss, fun _ => ⟨n, 0, rfl, (Array.getElem?_eq_some_iff.1 h).1, fun i hi => cell_at h _ _ (by simp [hi])⟩⟩
theorem hne_same (l : List UInt8) (w : World) : (binOp .neq 38 (.agg (ocells (sha l))) (.agg (ocells (sha l)))).run Tryd.prog w = .ok (.bool false) w := (hv_ne w (sha l) (sha l) (sha_length l) (sha_length l)).trans (by simp)
theorem heq_same (l : List UInt8) (w : World) : (binOp .eql 38 (.agg (ocells (sha l))) (.agg (ocells (sha l)))).run Tryd.prog w = .ok (.bool true) w := (hv_eq w (sha l) (sha l) (sha_length l) (sha_length l)).trans (by simp)
theorem dsumC (base : Nat) (V : World) (p : Nat) (m : List UInt8) (S : Nat → Prop) (h : DigP base V p m S) (hT : Tab V) (hgs : 0 < V.heap.size) (hm : m.length < 576460752303423488) (u : World) (k : Below V.heap.size V u) :
    Calls Tryd.prog 16 #[.pointer (some ⟨p, 0, none⟩)] u fun e w' => e = .returned (.agg (ocells (sha m))) ∧ Below u.heap.size u w' :=
  dsumP base u p m S (h.below k) (hT.below hgs k) (Nat.lt_of_lt_of_le hgs k.size) hm
theorem sumC (V : World) (hT : Tab V) (hgs : 0 < V.heap.size) (ss : List ByteArray) (k : Nat) (hk : k = ss.length) (hl : ss.length ≤ maxLen) (m : List UInt8) (hm : cat ss = m) (hlen : m.length < 576460752303423488) (u : World) (n : Nat) (hb : Below V.heap.size V u) (T : TypeId) (fr : Nat × Nat)
    (h : u.heap[n]? = some (.cells (ss.map Value.string).toArray T fr)) :
    Calls Tryd.prog 13 #[.slice (some ⟨n, 0, none⟩) k k] u fun e w' => e = .returned (.agg (ocells (sha m))) ∧ Below u.heap.size u w' := by
  subst hm
  exact sum_any u _ ss (strs_block u n ss T fr k hk hl h) (hT.below hgs hb) (Nat.lt_of_lt_of_le hgs hb.size) hlen
theorem sumC2 (V : World) (hT : Tab V) (hgs : 0 < V.heap.size) (x y : List UInt8) (u : World) (n : Nat) (T : TypeId) (fr : Nat × Nat)
    (h : u.heap[n]? = some (.cells #[.string ⟨x.toArray⟩, .string ⟨y.toArray⟩] T fr)) (hb : Below V.heap.size V u) (hlen : x.length + y.length < 576460752303423488) :
    Calls Tryd.prog 13 #[.slice (some ⟨n, 0, none⟩) 2 2] u fun e w' => e = .returned (.agg (ocells (sha (x ++ y)))) ∧ Below u.heap.size u w' :=
  sumC V hT hgs [⟨x.toArray⟩, ⟨y.toArray⟩] 2 rfl (by simp [maxLen]) (x ++ y) (by simp [cat, sb]) (by simp only [List.length_append]; omega) u n hb T fr h
/-- the same, behind a call that came between -/
theorem sumC2k (V : World) (hT : Tab V) (hgs : 0 < V.heap.size) (x y : List UInt8) (u w0 : World) (T : TypeId)
    (h : Below (w0.alloc (.cells #[.string ⟨x.toArray⟩, .string ⟨y.toArray⟩] T)).heap.size (w0.alloc (.cells #[.string ⟨x.toArray⟩, .string ⟨y.toArray⟩] T)) u) (hb : Below V.heap.size V u) (hlen : x.length + y.length < 576460752303423488) :
    Calls Tryd.prog 13 #[.slice (some ⟨w0.heap.size, 0, none⟩) 2 2] u fun e w' => e = .returned (.agg (ocells (sha (x ++ y)))) ∧ Below u.heap.size u w' :=
  sumC2 V hT hgs x y u _ T (0, 0) ((h.block _ (by simp)).trans (heap_alloc_new _ _)) hb hlen
theorem sumC2d (V : World) (hT : Tab V) (hgs : 0 < V.heap.size) (x y : List UInt8) (u w0 : World) (T : TypeId)
    (h : Below (w0.alloc (.cells #[.string ⟨x.toArray⟩, .string ⟨y.toArray⟩] T)).drew.heap.size (w0.alloc (.cells #[.string ⟨x.toArray⟩, .string ⟨y.toArray⟩] T)).drew u) (hb : Below V.heap.size V u) (hlen : x.length + y.length < 576460752303423488) :
    Calls Tryd.prog 13 #[.slice (some ⟨w0.heap.size, 0, none⟩) 2 2] u fun e w' => e = .returned (.agg (ocells (sha (x ++ y)))) ∧ Below u.heap.size u w' :=
  sumC2 V hT hgs x y u _ T (0, 0) ((h.block _ (by show w0.heap.size < (w0.alloc _).heap.size; simp)).trans (heap_alloc_new _ _)) hb hlen
theorem sumC2e (V : World) (hT : Tab V) (hgs : 0 < V.heap.size) (x y : List UInt8) (w0 : World) (T : TypeId)
    (hb : Below V.heap.size V (w0.alloc (.cells #[.string ⟨x.toArray⟩, .string ⟨y.toArray⟩] T)).drew) (hlen : x.length + y.length < 576460752303423488) :
    Calls Tryd.prog 13 #[.slice (some ⟨w0.heap.size, 0, none⟩) 2 2] (w0.alloc (.cells #[.string ⟨x.toArray⟩, .string ⟨y.toArray⟩] T)).drew fun e w' => e = .returned (.agg (ocells (sha (x ++ y)))) ∧ Below (w0.alloc (.cells #[.string ⟨x.toArray⟩, .string ⟨y.toArray⟩] T)).drew.heap.size (w0.alloc (.cells #[.string ⟨x.toArray⟩, .string ⟨y.toArray⟩] T)).drew w' :=
  sumC2 V hT hgs x y _ _ T (0, 0) (heap_alloc_new w0 _) hb hlen
theorem sumC3 (V : World) (hT : Tab V) (hgs : 0 < V.heap.size) (x y z : List UInt8) (u : World) (n : Nat) (T : TypeId) (fr : Nat × Nat)
    (h : u.heap[n]? = some (.cells #[.string ⟨x.toArray⟩, .string ⟨y.toArray⟩, .string ⟨z.toArray⟩] T fr)) (hb : Below V.heap.size V u) (hlen : x.length + y.length + z.length < 576460752303423488) :
    Calls Tryd.prog 13 #[.slice (some ⟨n, 0, none⟩) 3 3] u fun e w' => e = .returned (.agg (ocells (sha (x ++ y ++ z)))) ∧ Below u.heap.size u w' :=
  sumC V hT hgs [⟨x.toArray⟩, ⟨y.toArray⟩, ⟨z.toArray⟩] 3 rfl (by simp [maxLen]) (x ++ y ++ z) (by simp [cat, sb]) (by simp only [List.length_append]; omega) u n hb T fr h
theorem sumC3k (V : World) (hT : Tab V) (hgs : 0 < V.heap.size) (x y z : List UInt8) (u w0 : World) (T : TypeId)
    (h : Below (w0.alloc (.cells #[.string ⟨x.toArray⟩, .string ⟨y.toArray⟩, .string ⟨z.toArray⟩] T)).heap.size (w0.alloc (.cells #[.string ⟨x.toArray⟩, .string ⟨y.toArray⟩, .string ⟨z.toArray⟩] T)) u) (hb : Below V.heap.size V u) (hlen : x.length + y.length + z.length < 576460752303423488) :
    Calls Tryd.prog 13 #[.slice (some ⟨w0.heap.size, 0, none⟩) 3 3] u fun e w' => e = .returned (.agg (ocells (sha (x ++ y ++ z)))) ∧ Below u.heap.size u w' :=
  sumC3 V hT hgs x y z u _ T (0, 0) ((h.block _ (by simp)).trans (heap_alloc_new _ _)) hb hlen
theorem u64_small (n : Int) (h0 : 0 ≤ n) (h1 : n < 9223372036854775808) : IntKind.u64.wrap n = n := by
  simp [IntKind.wrap, IntKind.bits, IntKind.signed]; omega
theorem i64_small (n : Int) (h0 : 0 ≤ n) (h1 : n < 9223372036854775808) : IntKind.i64.wrap n = n := by
  simp [IntKind.wrap, IntKind.bits, IntKind.signed]; omega
theorem dlenC (base : Nat) (V : World) (p : Nat) (m : List UInt8) (S : Nat → Prop) (h : DigP base V p m S) (n : Int) (hn : (m.length : Int) = n) (u : World) (k : Below V.heap.size V u) :
    Calls Tryd.prog 19 #[.pointer (some ⟨p, 0, none⟩)] u fun e w' => e = .returned (.int .u64 n) ∧ u = w' := by
  subst hn; exact lenP base u p m S (h.below k)
/-- what each slot of the last region holds -/
def VC (a1 a2 a3 : Option Addr) (c1 c2 c3 : Nat) (la lb lc : List UInt8) (p1 p2 p3 : Nat) (n : Nat) (v : Value) (w : World) : Prop :=
  match n with
  | 77 => v = .pointer (some ⟨p1, 0, none⟩)
  | 78 => v = .int .u64 ((la.length : Int) + (lb.length : Int))
  | 79 => v = .slice a1 la.length c1
  | 80 => v = .int .i64 (la.length : Int)
  | 81 => v = .slice a2 lb.length c2
  | 82 => v = .int .i64 (lb.length : Int)
  | 83 => v = .int .i64 ((la.length : Int) + (lb.length : Int))
  | 84 => v = .int .u64 ((la.length : Int) + (lb.length : Int))
  | 85 => v = .bool true
  | 86 => v = .bool true
  | 87 => v = .pointer (some ⟨p2, 0, none⟩)
  | 88 => v = .int .u64 ((la.length : Int) + (lc.length : Int))
  | 89 => v = .slice a1 la.length c1
  | 90 => v = .int .i64 (la.length : Int)
  | 91 => v = .slice a3 lc.length c3
  | 92 => v = .int .i64 (lc.length : Int)
  | 93 => v = .int .i64 ((la.length : Int) + (lc.length : Int))
  | 94 => v = .int .u64 ((la.length : Int) + (lc.length : Int))
  | 95 => v = .bool true
  | 96 => v = .bool true
  | 97 => v = .bool true
  | 98 => v = .pointer (some ⟨p3, 0, none⟩)
  | 99 => v = .agg (ocells (sha (la ++ lb ++ lc)))
  | 100 => v = .slice a1 la.length c1
  | 101 => v = .string ⟨(la).toArray⟩
  | 102 => v = .slice a2 lb.length c2
  | 103 => v = .string ⟨(lb).toArray⟩
  | 104 => v = .slice a3 lc.length c3
  | 105 => v = .string ⟨(lc).toArray⟩
  | 106 => Strs w v [⟨(la).toArray⟩, ⟨(lb).toArray⟩, ⟨(lc).toArray⟩]
  | 107 => v = .agg (ocells (sha (la ++ lb ++ lc)))
  | 108 => v = .bool true
  | 109 => v = .bool true
  | 110 => v = .bool true
  | 111 => v = .pointer (some ⟨p1, 0, none⟩)
  | 112 => v = .agg (ocells (sha (la ++ lb)))
  | 113 => v = .slice a1 la.length c1
  | 114 => v = .string ⟨(la).toArray⟩
  | 115 => v = .slice a2 lb.length c2
  | 116 => v = .string ⟨(lb).toArray⟩
  | 117 => Strs w v [⟨(la).toArray⟩, ⟨(lb).toArray⟩]
  | 118 => v = .agg (ocells (sha (la ++ lb)))
  | 119 => v = .bool true
  | 120 => v = .bool true
  | 6 => v = .bool true
  | _ => True
theorem Strs.below {w w' : World} {v : Value} {ss : List ByteArray} (h : Strs w v ss) (k : Below w.heap.size w w') : Strs w' v ss := by
  obtain ⟨a, c, h1, h2, h3, h4⟩ := h
  refine ⟨a, c, h1, h2, h3, fun hne => ?_⟩
  obtain ⟨B, off, e1, e2, e3⟩ := h4 hne
  exact ⟨B, off, e1, Nat.lt_of_lt_of_le e2 k.size, fun i hi => (k.cell (p := ⟨B, off + i, none⟩) e2).trans (e3 i hi)⟩
theorem VC_mono (a1 a2 a3 : Option Addr) (c1 c2 c3 : Nat) (la lb lc : List UInt8) (p1 p2 p3 : Nat) (n : Nat) (v : Value) (w w' : World) (h : VC a1 a2 a3 c1 c2 c3 la lb lc p1 p2 p3 n v w) (k : Below w.heap.size w w') : VC a1 a2 a3 c1 c2 c3 la lb lc p1 p2 p3 n v w' := by
  unfold VC at h ⊢
  split at h
  · exact h
  · exact h
  · exact h
  · exact h
  · exact h
  · exact h
  · exact h
  · exact h
  · exact h
  · exact h
  · exact h
  · exact h
  · exact h
  · exact h
  · exact h
  · exact h
  · exact h
  · exact h
  · exact h
  · exact h
  · exact h
  · exact h
  · exact h
  · exact h
  · exact h
  · exact h
  · exact h
  · exact h
  · exact h
  · exact Strs.below h k
  · exact h
  · exact h
  · exact h
  · exact h
  · exact h
  · exact h
  · exact h
  · exact h
  · exact h
  · exact h
  · exact Strs.below h k
  · exact h
  · exact h
  · exact h
  · exact h
  · trivial
set_option maxHeartbeats 6400000 in
set_option maxRecDepth 100000 in
theorem copies_any (w : World) (va vb vc : Value) (la lb lc : List UInt8) (ha : Src w va la) (hb : Src w vb lb) (hc : Src w vc lc) (hl : la.length + lb.length + lc.length < 9223372036854775808) (hT : Tab w) (hgs : 0 < w.heap.size) :
    Calls Tryd.prog 6 #[va, vb, vc] w fun e w' => e = .returned (.bool true) ∧ Below w.heap.size w w' := by
  have hal := alive_any w hT hgs
  have HA := Bx.mk hal; have HT := Bx.mk hT; have SA := Bx.mk ha; have SB := Bx.mk hb; have SC := Bx.mk hc
  obtain ⟨a1, c1, rfl, _, _, h1⟩ := ha
  obtain ⟨a2, c2, rfl, _, _, h2⟩ := hb
  obtain ⟨a3, c3, rfl, _, _, h3⟩ := hc
  clear hal hT h1 h2 h3
  go_enter Tryd.func6, Tryd.ntmps6
  go_wp2_with fail
  refine HA.out.mono ?_
  rintro e w1 ⟨rfl, hb1⟩
  have HB1 := Bx.mk hb1; clear hb1
  go_wp2_with fail
  have hbe := beyond_any (w1.alloc (.cells #[.int .i64 (la.length : Int), .int .i64 (lb.length : Int), .int .i64 (lc.length : Int)] 3)) (.slice (some ⟨w1.heap.size, 0, none⟩) 3 3) [la.length, lb.length, lc.length] (ints_three _ _ _ _ _ rfl) (by simp; omega)
  refine hbe.mono ?_
  rintro e w2 ⟨rfl, rfl⟩
  have hb2 := HB1.out.alloc HB1.out.size (.cells #[.int .i64 (la.length : Int), .int .i64 (lb.length : Int), .int .i64 (lc.length : Int)] 3)
  generalize w1.alloc (.cells #[.int .i64 (la.length : Int), .int .i64 (lb.length : Int), .int .i64 (lc.length : Int)] 3) = w2 at hb2 ⊢
  have HB2 := Bx.mk hb2; clear hb2 hbe HB1
  have hsum : [la.length, lb.length, lc.length].sum = la.length + lb.length + lc.length := by simp; omega
  rw [hsum]; clear hsum
  by_cases hgt : 1048576 < la.length + lb.length + lc.length
  · rw [decide_eq_true hgt]
    go_wp2_with fail
    have ha := alive_any w2 (HT.out.below hgs (HB2.out)) (Nat.lt_of_lt_of_le hgs HB2.out.size)
    refine ha.mono ?_
    rintro e w3 ⟨rfl, hb3⟩
    go_wp2_with fail
    go_ret
    exact ⟨rfl, HB2.out.trans (hb3.mono HB2.out.size)⟩
  · rw [decide_eq_false hgt]
    have hga : la.length ≤ 1048576 := by omega
    have hgb : lb.length ≤ 1048576 := by omega
    have hgc : lc.length ≤ 1048576 := by omega
    go_wp2_with fail
    refine (newP w2).mono ?_
    rintro e w3 ⟨p1, S1, rfl, hd1, hb3⟩
    have hg2 : 0 < w2.heap.size := Nat.lt_of_lt_of_le hgs HB2.out.size
    have t2 := HT.out.below hgs HB2.out
    have sa2 := SA.out.below HB2.out; have sb2 := SB.out.below HB2.out; have sc2 := SC.out.below HB2.out
    have D1 := Bx.mk hd1; have HB3 := Bx.mk hb3; have T2 := Bx.mk t2; have SA2 := Bx.mk sa2; have SB2 := Bx.mk sb2; have SC2 := Bx.mk sc2
    clear hd1 hb3 t2 sa2 sb2 sc2 SA SB SC HA HT
    go_wp2_with fail
    refine (twin_any w3 _ la (SA2.out.below HB3.out) (by omega)).mono ?_
    rintro e w4 ⟨rfl, rfl⟩
    go_wp2_with fail
    refine (write_twin w2.heap.size w3 p1 [] la S1 D1.out (T2.out.below hg2 HB3.out) hg2 hga (by simp) HB3.out.size).mono ?_
    rintro e w5 ⟨rfl, hw5⟩
    have hb5 := HB3.out.trans (hw5.below HB3.out.size (fun k hk => D1.out.ge k hk))
    obtain ⟨S1', hd1, _⟩ := hw5.ex
    rw [List.nil_append] at hd1
    have D1' := Bx.mk hd1; have HB5 := Bx.mk hb5; clear hd1 hb5 hw5 D1 HB3
    go_wp2_with fail
    refine (copyP w2.heap.size w5 p1 la S1' D1'.out).mono ?_
    rintro e w6 ⟨p2, S2, rfl, hd2, hb6⟩
    have hb6' := HB5.out.trans (hb6.mono HB5.out.size)
    have hd1 := D1'.out.below hb6
    have hap : ∀ k, S1' k → ¬ S2 k := fun k h1 h2 => by have := D1'.out.lt k h1; have := hd2.ge k h2; omega
    have hd2' := hd2.mono HB5.out.size
    have D1 := Bx.mk hd1; have D2 := Bx.mk hd2'; have AP := Bx.mk hap; have HB6 := Bx.mk hb6'
    clear hd1 hd2 hd2' hap hb6 hb6' D1' HB5
    go_wp2_with fail
    refine (twin_any w6 _ lb (SB2.out.below HB6.out) (by omega)).mono ?_
    rintro e w7 ⟨rfl, rfl⟩
    go_wp2_with fail
    refine (write_twin w2.heap.size w6 p1 la lb S1' D1.out (T2.out.below hg2 HB6.out) hg2 hgb (by omega) HB6.out.size).mono ?_
    rintro e w8 ⟨rfl, hw8⟩
    have hb8 := HB6.out.trans (hw8.below HB6.out.size (fun k hk => D1.out.ge k hk))
    have hd2 := D2.out.kept hw8.keep (fun j h2 h1 => AP.out j h1 h2)
    obtain ⟨S3, hd1, hs3⟩ := hw8.ex
    have hap : ∀ k, S3 k → ¬ S2 k := fun k h1 h2 => by
      rcases hs3 k h1 with h | h
      · exact AP.out k h h2
      · have := D2.out.lt k h2; omega
    have D1' := Bx.mk hd1; have D2' := Bx.mk hd2; have AP' := Bx.mk hap; have HB8 := Bx.mk hb8
    clear hd1 hd2 hap hb8 hw8 hs3 D1 D2 AP HB6
    go_wp2_with fail
    refine (twin_any w8 _ lc (SC2.out.below HB8.out) (by omega)).mono ?_
    rintro e w9 ⟨rfl, rfl⟩
    go_wp2_with fail
    refine (write_twin w2.heap.size w8 p2 la lc S2 D2'.out (T2.out.below hg2 HB8.out) hg2 hgc (by omega) HB8.out.size).mono ?_
    rintro e w10 ⟨rfl, hw10⟩
    have hb10 := HB8.out.trans (hw10.below HB8.out.size (fun k hk => D2'.out.ge k hk))
    have hd1 := D1'.out.kept hw10.keep (fun j h1 h2 => AP'.out j h1 h2)
    obtain ⟨S4, hd2, hs4⟩ := hw10.ex
    have hap : ∀ k, S3 k → ¬ S4 k := fun k h1 h2 => by
      rcases hs4 k h2 with h | h
      · exact AP'.out k h1 h
      · have := D1'.out.lt k h1; omega
    have D1 := Bx.mk hd1; have D2 := Bx.mk hd2; have AP := Bx.mk hap; have HB10 := Bx.mk hb10
    clear hd1 hd2 hap hb10 hw10 hs4 D1' D2' AP' HB8
    go_wp2_with fail
    refine (copyP w2.heap.size w10 p1 (la ++ lb) S3 D1.out).mono ?_
    rintro e w11 ⟨p3, S5, rfl, hd3, hb11⟩
    have hb11' := HB10.out.trans (hb11.mono HB10.out.size)
    have hd1 := D1.out.below hb11
    have hd2 := D2.out.below hb11
    have hap1 : ∀ k, S3 k → ¬ S5 k := fun k h1 h2 => by have := D1.out.lt k h1; have := hd3.ge k h2; omega
    have hap2 : ∀ k, S4 k → ¬ S5 k := fun k h1 h2 => by have := D2.out.lt k h1; have := hd3.ge k h2; omega
    have hd3' := hd3.mono HB10.out.size
    have lens : la.length + lb.length + lc.length ≤ 1048576 := by omega
    have hT11 := T2.out.below hg2 hb11'
    have hg11 : 0 < w11.heap.size := Nat.lt_of_lt_of_le hg2 hb11'.size
    have ca := (SA2.out.below hb11').string; have cb := (SB2.out.below hb11').string; have cc := (SC2.out.below hb11').string
    have hq := fun (u : World) (h : Below w11.heap.size w11 u) => dsumC _ w11 p1 (la ++ lb) S3 hd1 hT11 hg11 (by simp only [List.length_append]; omega) u h
    have hq2 := fun (u : World) (h : Below w11.heap.size w11 u) => dsumC _ w11 p2 (la ++ lc) S4 hd2 hT11 hg11 (by simp only [List.length_append]; omega) u h
    have hq3 := fun (u : World) (h : Below w11.heap.size w11 u) => dsumC _ w11 p3 (la ++ lb) S5 hd3' hT11 hg11 (by simp only [List.length_append]; omega) u h
    have hs := sumC2 w11 hT11 hg11; have hsk := sumC2k w11 hT11 hg11
    have HSK := Bx.mk hsk; clear hsk
    have hsd := sumC2d w11 hT11 hg11; have HSD := Bx.mk hsd; clear hsd
    have CA := Bx.mk ca; have CB := Bx.mk cb; have CC := Bx.mk cc; have HQ := Bx.mk hq; have HQ2 := Bx.mk hq2; have HQ3 := Bx.mk hq3; have HS := Bx.mk hs
    have ca' := fun u h => CA.out u h; have cb' := fun u h => CB.out u h; have cc' := fun u h => CC.out u h
    have D1' := Bx.mk hd1; have D2' := Bx.mk hd2; have D3' := Bx.mk hd3'; have HB11 := Bx.mk hb11'; have AP1 := Bx.mk hap1; have AP2 := Bx.mk hap2; have T11 := Bx.mk hT11
    have hne := hne_same
    have lab : la.length + lb.length < 576460752303423488 := by omega
    have lac : la.length + lc.length < 576460752303423488 := by omega
    clear ca cb cc hq hq2 hq3 hs hd1 hd2 hd3 hd3' hb11 hb11' hap1 hap2 hT11
    go_upto_region 11 with (fail)
    go_cut [72] (fun v wc => v = .bool false ∧ Below w11.heap.size w11 wc)
    case first =>
     go_region_held3 (fun u => Below w11.heap.size w11 u) (first | assumption | exact (Below.refl _ _).drew | exact Below.alloc (by assumption) (Below.size (by assumption)) _ | exact Below.trans (by assumption) (Below.mono (by assumption) (Below.size (by assumption)))) ((first
      | (go_at_call_of 16 (Value.pointer (some ⟨p1, 0, none⟩)); refine (HQ.out _ (by assumption)).mono ?_; rintro e w' ⟨rfl, hb⟩)
      | (go_at_call_of 16 (Value.pointer (some ⟨p2, 0, none⟩)); refine (HQ2.out _ (by assumption)).mono ?_; rintro e w' ⟨rfl, hb⟩)
      | (go_at_call_of 16 (Value.pointer (some ⟨p3, 0, none⟩)); refine (HQ3.out _ (by assumption)).mono ?_; rintro e w' ⟨rfl, hb⟩)
      | (go_at_call 13; (first | with_reducible refine Calls.mono (HS.out _ _ _ _ _ _ (heap_alloc_new _ _) ?_ ?_) ?_ | with_reducible refine Calls.mono (HSK.out _ _ _ _ _ (by assumption) ?_ ?_) ?_ | with_reducible refine Calls.mono (HSD.out _ _ _ _ _ (by assumption) ?_ ?_) ?_); assumption; (first | exact lab | exact lac); rintro e w' ⟨rfl, hb⟩)))
     all_goals (go_wp2_with fail; go_meet; case rel => exact ⟨rfl, by assumption⟩)
    case rest =>
    obtain ⟨rfl, hb12⟩ := hcut
    have hd3 := D3'.out.below hb12; have hd1 := D1'.out.below hb12; have hd2 := D2'.out.below hb12
    have hb12' := HB11.out.trans (hb12.mono HB11.out.size)
    have D3 := Bx.mk hd3; have D1 := Bx.mk hd1; have D2 := Bx.mk hd2; have HB12 := Bx.mk hb12'
    clear hd3 hd1 hd2 hb12 hb12' HQ HQ2 HQ3 HS HSK HSD ca' cb' cc' CA CB CC hne
    go_wp2_with fail
    refine (twin_any wc _ lc (SC2.out.below HB12.out) (by omega)).mono ?_
    rintro e w13 ⟨rfl, rfl⟩
    go_wp2_with fail
    refine (write_twin w2.heap.size wc p3 (la ++ lb) lc S5 D3.out (T2.out.below hg2 HB12.out) hg2 hgc (by simp only [List.length_append]; omega) HB12.out.size).mono ?_
    rintro e w14 ⟨rfl, hw14⟩
    have hb14 := HB12.out.trans (hw14.below HB12.out.size (fun k hk => D3.out.ge k hk))
    have hd1 := D1.out.kept hw14.keep (fun j h1 h2 => AP1.out j h1 h2)
    have hd2 := D2.out.kept hw14.keep (fun j h1 h2 => AP2.out j h1 h2)
    obtain ⟨S6, hd3, hs6⟩ := hw14.ex
    have hT14 := T2.out.below hg2 hb14
    have hg14 : 0 < w14.heap.size := Nat.lt_of_lt_of_le hg2 hb14.size
    have ca := (SA2.out.below hb14).string; have cb := (SB2.out.below hb14).string; have cc := (SC2.out.below hb14).string
    have hq := fun (u : World) (h : Below w14.heap.size w14 u) => dsumC _ w14 p1 (la ++ lb) S3 hd1 hT14 hg14 (by simp only [List.length_append]; omega) u h
    have hq3 := fun (u : World) (h : Below w14.heap.size w14 u) => dsumC _ w14 p3 (la ++ lb ++ lc) S6 hd3 hT14 hg14 (by simp only [List.length_append]; omega) u h
    have hl1 := fun (u : World) (h : Below w14.heap.size w14 u) => dlenC _ w14 p1 (la ++ lb) S3 hd1 (la.length + lb.length) (by simp) u h
    have hl2 := fun (u : World) (h : Below w14.heap.size w14 u) => dlenC _ w14 p2 (la ++ lc) S4 hd2 (la.length + lc.length) (by simp) u h
    have hs := sumC2 w14 hT14 hg14; have hsk := sumC2k w14 hT14 hg14; have hsd := sumC2d w14 hT14 hg14
    have hs3 := sumC3 w14 hT14 hg14; have hsk3 := sumC3k w14 hT14 hg14
    have CA := Bx.mk ca; have CB := Bx.mk cb; have CC := Bx.mk cc; have HQ := Bx.mk hq; have HQ3 := Bx.mk hq3; have HL1 := Bx.mk hl1; have HL2 := Bx.mk hl2
    have HS := Bx.mk hs; have HSK := Bx.mk hsk; have HS3 := Bx.mk hs3; have HSK3 := Bx.mk hsk3
    have ca' := fun u h => CA.out u h; have cb' := fun u h => CB.out u h; have cc' := fun u h => CC.out u h
    have HB14 := Bx.mk hb14; have T14 := Bx.mk hT14
    have heq := heq_same
    have q1 : IntKind.i64.wrap ((la.length : Int) + (lb.length : Int)) = (la.length : Int) + (lb.length : Int) := i64_small _ (by omega) (by omega)
    have q2 : IntKind.i64.wrap ((la.length : Int) + (lc.length : Int)) = (la.length : Int) + (lc.length : Int) := i64_small _ (by omega) (by omega)
    have q3 : IntKind.u64.wrap ((la.length : Int) + (lb.length : Int)) = (la.length : Int) + (lb.length : Int) := u64_small _ (by omega) (by omega)
    have q4 : IntKind.u64.wrap ((la.length : Int) + (lc.length : Int)) = (la.length : Int) + (lc.length : Int) := u64_small _ (by omega) (by omega)
    have labc : la.length + lb.length + lc.length < 576460752303423488 := by omega
    clear ca cb cc hq hq3 hl1 hl2 hs hsk hsd hs3 hsk3 hd1 hd2 hd3 hb14 hT14 hw14 hs6
    go_upto_region 14 with (fail)
    refine wp_region_inv (n := 121) (VC a1 a2 a3 c1 c2 c3 la lb lc p1 p2 p3) (by kernel_rfl) (by kernel_rfl) rfl (VC_mono a1 a2 a3 c1 c2 c3 la lb lc p1 p2 p3) ?_ ?_
    · intro i o hi f u hsame hbel hdep
      have hTu := T14.out.below hg14 hbel
      have hgu : 0 < u.heap.size := Nat.lt_of_lt_of_le hg14 hbel.size
      have b0 : f.tmps.getD 0 undef = .slice a1 la.length c1 := hsame.slot 0 (fun i o h => invB_not (n := 121) (by kernel_rfl) 0 (by kernel_rfl) h)
      have b1 : f.tmps.getD 1 undef = .slice a2 lb.length c2 := hsame.slot 1 (fun i o h => invB_not (n := 121) (by kernel_rfl) 1 (by kernel_rfl) h)
      have b2 : f.tmps.getD 2 undef = .slice a3 lc.length c3 := hsame.slot 2 (fun i o h => invB_not (n := 121) (by kernel_rfl) 2 (by kernel_rfl) h)
      have b7 : f.tmps.getD 7 undef = .pointer (some ⟨p1, 0, none⟩) := hsame.slot 7 (fun i o h => invB_not (n := 121) (by kernel_rfl) 7 (by kernel_rfl) h)
      have b8 : f.tmps.getD 8 undef = .pointer (some ⟨p2, 0, none⟩) := hsame.slot 8 (fun i o h => invB_not (n := 121) (by kernel_rfl) 8 (by kernel_rfl) h)
      have b9 : f.tmps.getD 9 undef = .pointer (some ⟨p3, 0, none⟩) := hsame.slot 9 (fun i o h => invB_not (n := 121) (by kernel_rfl) 9 (by kernel_rfl) h)
      match i, hi with
      | 0, hi =>
        cases (show some _ = some o from hi)
        clear hdep hsame hi
        exact ⟨wanted_none rfl, shows_move rfl _ rfl b7⟩
      | 1, hi =>
        cases (show some _ = some o from hi)
        have e77 : f.tmps.getD 77 undef = .pointer (some ⟨p1, 0, none⟩) := dep_of (V := VC a1 a2 a3 c1 c2 c3 la lb lc p1 p2 p3) hdep 0 77 (by kernel_rfl) (by kernel_rfl)
        clear hdep hsame hi
        exact ⟨wanted_none rfl, shows_call rfl 19 #[.pointer (some ⟨p1, 0, none⟩)] (by simp only [execOp, Act.eval]; go_simp) ((HL1.out u hbel).mono (fun e w' h => ⟨h.1, h.2 ▸ Below.refl _ _⟩)) (fun _ => rfl)⟩
      | 2, hi =>
        cases (show some _ = some o from hi)
        clear hdep hsame hi
        exact ⟨wanted_none rfl, shows_move rfl _ rfl b0⟩
      | 3, hi =>
        cases (show some _ = some o from hi)
        have e79 : f.tmps.getD 79 undef = .slice a1 la.length c1 := dep_of (V := VC a1 a2 a3 c1 c2 c3 la lb lc p1 p2 p3) hdep 2 79 (by kernel_rfl) (by kernel_rfl)
        clear hdep hsame hi
        exact ⟨wanted_none rfl, shows_run rfl (.int .i64 (la.length : Int)) (by simp only [execOp, Act.eval]; go_simp) (Below.refl _ _) rfl⟩
      | 4, hi =>
        cases (show some _ = some o from hi)
        clear hdep hsame hi
        exact ⟨wanted_none rfl, shows_move rfl _ rfl b1⟩
      | 5, hi =>
        cases (show some _ = some o from hi)
        have e81 : f.tmps.getD 81 undef = .slice a2 lb.length c2 := dep_of (V := VC a1 a2 a3 c1 c2 c3 la lb lc p1 p2 p3) hdep 4 81 (by kernel_rfl) (by kernel_rfl)
        clear hdep hsame hi
        exact ⟨wanted_none rfl, shows_run rfl (.int .i64 (lb.length : Int)) (by simp only [execOp, Act.eval]; go_simp) (Below.refl _ _) rfl⟩
      | 6, hi =>
        cases (show some _ = some o from hi)
        have e80 : f.tmps.getD 80 undef = .int .i64 (la.length : Int) := dep_of (V := VC a1 a2 a3 c1 c2 c3 la lb lc p1 p2 p3) hdep 3 80 (by kernel_rfl) (by kernel_rfl)
        have e82 : f.tmps.getD 82 undef = .int .i64 (lb.length : Int) := dep_of (V := VC a1 a2 a3 c1 c2 c3 la lb lc p1 p2 p3) hdep 5 82 (by kernel_rfl) (by kernel_rfl)
        clear hdep hsame hi
        exact ⟨wanted_none rfl, shows_run rfl (.int .i64 ((la.length : Int) + (lb.length : Int))) (by simp only [execOp, Act.eval]; go_simp) (Below.refl _ _) rfl⟩
      | 7, hi =>
        cases (show some _ = some o from hi)
        have e83 : f.tmps.getD 83 undef = .int .i64 ((la.length : Int) + (lb.length : Int)) := dep_of (V := VC a1 a2 a3 c1 c2 c3 la lb lc p1 p2 p3) hdep 6 83 (by kernel_rfl) (by kernel_rfl)
        clear hdep hsame hi
        exact ⟨wanted_none rfl, shows_run rfl (.int .u64 ((la.length : Int) + (lb.length : Int))) (by simp only [execOp, Act.eval]; go_simp) (Below.refl _ _) rfl⟩
      | 8, hi =>
        cases (show some _ = some o from hi)
        have e78 : f.tmps.getD 78 undef = .int .u64 ((la.length : Int) + (lb.length : Int)) := dep_of (V := VC a1 a2 a3 c1 c2 c3 la lb lc p1 p2 p3) hdep 1 78 (by kernel_rfl) (by kernel_rfl)
        have e84 : f.tmps.getD 84 undef = .int .u64 ((la.length : Int) + (lb.length : Int)) := dep_of (V := VC a1 a2 a3 c1 c2 c3 la lb lc p1 p2 p3) hdep 7 84 (by kernel_rfl) (by kernel_rfl)
        clear hdep hsame hi
        exact ⟨wanted_none rfl, shows_run rfl (.bool true) (by simp only [execOp, Act.eval]; go_simp) (Below.refl _ _) rfl⟩
      | 9, hi =>
        cases (show some _ = some o from hi)
        have e85 : f.tmps.getD 85 undef = .bool true := dep_of (V := VC a1 a2 a3 c1 c2 c3 la lb lc p1 p2 p3) hdep 8 85 (by kernel_rfl) (by kernel_rfl)
        clear hdep hsame hi
        exact ⟨wanted_none rfl, shows_move rfl _ rfl e85⟩
      | 10, hi =>
        cases (show some _ = some o from hi)
        have eg : f.tmps.getD 86 undef = .bool true := dep_of (V := VC a1 a2 a3 c1 c2 c3 la lb lc p1 p2 p3) hdep 9 86 (by kernel_rfl) (by kernel_rfl)
        clear hdep hsame hi
        exact ⟨wanted_of 9 rfl eg (by kernel_rfl), shows_move rfl _ rfl b8⟩
      | 11, hi =>
        cases (show some _ = some o from hi)
        have e87 : f.tmps.getD 87 undef = .pointer (some ⟨p2, 0, none⟩) := dep_of (V := VC a1 a2 a3 c1 c2 c3 la lb lc p1 p2 p3) hdep 10 87 (by kernel_rfl) (by kernel_rfl)
        have eg : f.tmps.getD 86 undef = .bool true := dep_of (V := VC a1 a2 a3 c1 c2 c3 la lb lc p1 p2 p3) hdep 9 86 (by kernel_rfl) (by kernel_rfl)
        clear hdep hsame hi
        exact ⟨wanted_of 9 rfl eg (by kernel_rfl), shows_call rfl 19 #[.pointer (some ⟨p2, 0, none⟩)] (by simp only [execOp, Act.eval]; go_simp) ((HL2.out u hbel).mono (fun e w' h => ⟨h.1, h.2 ▸ Below.refl _ _⟩)) (fun _ => rfl)⟩
      | 12, hi =>
        cases (show some _ = some o from hi)
        have eg : f.tmps.getD 86 undef = .bool true := dep_of (V := VC a1 a2 a3 c1 c2 c3 la lb lc p1 p2 p3) hdep 9 86 (by kernel_rfl) (by kernel_rfl)
        clear hdep hsame hi
        exact ⟨wanted_of 9 rfl eg (by kernel_rfl), shows_move rfl _ rfl b0⟩
      | 13, hi =>
        cases (show some _ = some o from hi)
        have e89 : f.tmps.getD 89 undef = .slice a1 la.length c1 := dep_of (V := VC a1 a2 a3 c1 c2 c3 la lb lc p1 p2 p3) hdep 12 89 (by kernel_rfl) (by kernel_rfl)
        have eg : f.tmps.getD 86 undef = .bool true := dep_of (V := VC a1 a2 a3 c1 c2 c3 la lb lc p1 p2 p3) hdep 9 86 (by kernel_rfl) (by kernel_rfl)
        clear hdep hsame hi
        exact ⟨wanted_of 9 rfl eg (by kernel_rfl), shows_run rfl (.int .i64 (la.length : Int)) (by simp only [execOp, Act.eval]; go_simp) (Below.refl _ _) rfl⟩
      | 14, hi =>
        cases (show some _ = some o from hi)
        have eg : f.tmps.getD 86 undef = .bool true := dep_of (V := VC a1 a2 a3 c1 c2 c3 la lb lc p1 p2 p3) hdep 9 86 (by kernel_rfl) (by kernel_rfl)
        clear hdep hsame hi
        exact ⟨wanted_of 9 rfl eg (by kernel_rfl), shows_move rfl _ rfl b2⟩
      | 15, hi =>
        cases (show some _ = some o from hi)
        have e91 : f.tmps.getD 91 undef = .slice a3 lc.length c3 := dep_of (V := VC a1 a2 a3 c1 c2 c3 la lb lc p1 p2 p3) hdep 14 91 (by kernel_rfl) (by kernel_rfl)
        have eg : f.tmps.getD 86 undef = .bool true := dep_of (V := VC a1 a2 a3 c1 c2 c3 la lb lc p1 p2 p3) hdep 9 86 (by kernel_rfl) (by kernel_rfl)
        clear hdep hsame hi
        exact ⟨wanted_of 9 rfl eg (by kernel_rfl), shows_run rfl (.int .i64 (lc.length : Int)) (by simp only [execOp, Act.eval]; go_simp) (Below.refl _ _) rfl⟩
      | 16, hi =>
        cases (show some _ = some o from hi)
        have e90 : f.tmps.getD 90 undef = .int .i64 (la.length : Int) := dep_of (V := VC a1 a2 a3 c1 c2 c3 la lb lc p1 p2 p3) hdep 13 90 (by kernel_rfl) (by kernel_rfl)
        have e92 : f.tmps.getD 92 undef = .int .i64 (lc.length : Int) := dep_of (V := VC a1 a2 a3 c1 c2 c3 la lb lc p1 p2 p3) hdep 15 92 (by kernel_rfl) (by kernel_rfl)
        have eg : f.tmps.getD 86 undef = .bool true := dep_of (V := VC a1 a2 a3 c1 c2 c3 la lb lc p1 p2 p3) hdep 9 86 (by kernel_rfl) (by kernel_rfl)
        clear hdep hsame hi
        exact ⟨wanted_of 9 rfl eg (by kernel_rfl), shows_run rfl (.int .i64 ((la.length : Int) + (lc.length : Int))) (by simp only [execOp, Act.eval]; go_simp) (Below.refl _ _) rfl⟩
      | 17, hi =>
        cases (show some _ = some o from hi)
        have e93 : f.tmps.getD 93 undef = .int .i64 ((la.length : Int) + (lc.length : Int)) := dep_of (V := VC a1 a2 a3 c1 c2 c3 la lb lc p1 p2 p3) hdep 16 93 (by kernel_rfl) (by kernel_rfl)
        have eg : f.tmps.getD 86 undef = .bool true := dep_of (V := VC a1 a2 a3 c1 c2 c3 la lb lc p1 p2 p3) hdep 9 86 (by kernel_rfl) (by kernel_rfl)
        clear hdep hsame hi
        exact ⟨wanted_of 9 rfl eg (by kernel_rfl), shows_run rfl (.int .u64 ((la.length : Int) + (lc.length : Int))) (by simp only [execOp, Act.eval]; go_simp) (Below.refl _ _) rfl⟩
      | 18, hi =>
        cases (show some _ = some o from hi)
        have e88 : f.tmps.getD 88 undef = .int .u64 ((la.length : Int) + (lc.length : Int)) := dep_of (V := VC a1 a2 a3 c1 c2 c3 la lb lc p1 p2 p3) hdep 11 88 (by kernel_rfl) (by kernel_rfl)
        have e94 : f.tmps.getD 94 undef = .int .u64 ((la.length : Int) + (lc.length : Int)) := dep_of (V := VC a1 a2 a3 c1 c2 c3 la lb lc p1 p2 p3) hdep 17 94 (by kernel_rfl) (by kernel_rfl)
        have eg : f.tmps.getD 86 undef = .bool true := dep_of (V := VC a1 a2 a3 c1 c2 c3 la lb lc p1 p2 p3) hdep 9 86 (by kernel_rfl) (by kernel_rfl)
        clear hdep hsame hi
        exact ⟨wanted_of 9 rfl eg (by kernel_rfl), shows_run rfl (.bool true) (by simp only [execOp, Act.eval]; go_simp) (Below.refl _ _) rfl⟩
      | 19, hi =>
        cases (show some _ = some o from hi)
        have e86 : f.tmps.getD 86 undef = .bool true := dep_of (V := VC a1 a2 a3 c1 c2 c3 la lb lc p1 p2 p3) hdep 9 86 (by kernel_rfl) (by kernel_rfl)
        have e95 : f.tmps.getD 95 undef = .bool true := dep_of (V := VC a1 a2 a3 c1 c2 c3 la lb lc p1 p2 p3) hdep 18 95 (by kernel_rfl) (by kernel_rfl)
        clear hdep hsame hi
        exact ⟨wanted_none rfl, shows_run rfl (.bool true) (by simp only [execOp, Act.eval]; go_simp) (Below.refl _ _) rfl⟩
      | 20, hi =>
        cases (show some _ = some o from hi)
        have e96 : f.tmps.getD 96 undef = .bool true := dep_of (V := VC a1 a2 a3 c1 c2 c3 la lb lc p1 p2 p3) hdep 19 96 (by kernel_rfl) (by kernel_rfl)
        clear hdep hsame hi
        exact ⟨wanted_none rfl, shows_move rfl _ rfl e96⟩
      | 21, hi =>
        cases (show some _ = some o from hi)
        have eg : f.tmps.getD 97 undef = .bool true := dep_of (V := VC a1 a2 a3 c1 c2 c3 la lb lc p1 p2 p3) hdep 20 97 (by kernel_rfl) (by kernel_rfl)
        clear hdep hsame hi
        exact ⟨wanted_of 20 rfl eg (by kernel_rfl), shows_move rfl _ rfl b9⟩
      | 22, hi =>
        cases (show some _ = some o from hi)
        have e98 : f.tmps.getD 98 undef = .pointer (some ⟨p3, 0, none⟩) := dep_of (V := VC a1 a2 a3 c1 c2 c3 la lb lc p1 p2 p3) hdep 21 98 (by kernel_rfl) (by kernel_rfl)
        have eg : f.tmps.getD 97 undef = .bool true := dep_of (V := VC a1 a2 a3 c1 c2 c3 la lb lc p1 p2 p3) hdep 20 97 (by kernel_rfl) (by kernel_rfl)
        clear hdep hsame hi
        exact ⟨wanted_of 20 rfl eg (by kernel_rfl), shows_call rfl 16 #[.pointer (some ⟨p3, 0, none⟩)] (by simp only [execOp, Act.eval]; go_simp) (HQ3.out u hbel) (fun _ => rfl)⟩
      | 23, hi =>
        cases (show some _ = some o from hi)
        have eg : f.tmps.getD 97 undef = .bool true := dep_of (V := VC a1 a2 a3 c1 c2 c3 la lb lc p1 p2 p3) hdep 20 97 (by kernel_rfl) (by kernel_rfl)
        clear hdep hsame hi
        exact ⟨wanted_of 20 rfl eg (by kernel_rfl), shows_move rfl _ rfl b0⟩
      | 24, hi =>
        cases (show some _ = some o from hi)
        have e100 : f.tmps.getD 100 undef = .slice a1 la.length c1 := dep_of (V := VC a1 a2 a3 c1 c2 c3 la lb lc p1 p2 p3) hdep 23 100 (by kernel_rfl) (by kernel_rfl)
        have eg : f.tmps.getD 97 undef = .bool true := dep_of (V := VC a1 a2 a3 c1 c2 c3 la lb lc p1 p2 p3) hdep 20 97 (by kernel_rfl) (by kernel_rfl)
        clear hdep hsame hi
        have q := CA.out u hbel
        exact ⟨wanted_of 20 rfl eg (by kernel_rfl), shows_run rfl (.string ⟨(la).toArray⟩) (by simp only [execOp, Act.eval]; go_simp) (Below.refl _ _) rfl⟩
      | 25, hi =>
        cases (show some _ = some o from hi)
        have eg : f.tmps.getD 97 undef = .bool true := dep_of (V := VC a1 a2 a3 c1 c2 c3 la lb lc p1 p2 p3) hdep 20 97 (by kernel_rfl) (by kernel_rfl)
        clear hdep hsame hi
        exact ⟨wanted_of 20 rfl eg (by kernel_rfl), shows_move rfl _ rfl b1⟩
      | 26, hi =>
        cases (show some _ = some o from hi)
        have e102 : f.tmps.getD 102 undef = .slice a2 lb.length c2 := dep_of (V := VC a1 a2 a3 c1 c2 c3 la lb lc p1 p2 p3) hdep 25 102 (by kernel_rfl) (by kernel_rfl)
        have eg : f.tmps.getD 97 undef = .bool true := dep_of (V := VC a1 a2 a3 c1 c2 c3 la lb lc p1 p2 p3) hdep 20 97 (by kernel_rfl) (by kernel_rfl)
        clear hdep hsame hi
        have q := CB.out u hbel
        exact ⟨wanted_of 20 rfl eg (by kernel_rfl), shows_run rfl (.string ⟨(lb).toArray⟩) (by simp only [execOp, Act.eval]; go_simp) (Below.refl _ _) rfl⟩
      | 27, hi =>
        cases (show some _ = some o from hi)
        have eg : f.tmps.getD 97 undef = .bool true := dep_of (V := VC a1 a2 a3 c1 c2 c3 la lb lc p1 p2 p3) hdep 20 97 (by kernel_rfl) (by kernel_rfl)
        clear hdep hsame hi
        exact ⟨wanted_of 20 rfl eg (by kernel_rfl), shows_move rfl _ rfl b2⟩
      | 28, hi =>
        cases (show some _ = some o from hi)
        have e104 : f.tmps.getD 104 undef = .slice a3 lc.length c3 := dep_of (V := VC a1 a2 a3 c1 c2 c3 la lb lc p1 p2 p3) hdep 27 104 (by kernel_rfl) (by kernel_rfl)
        have eg : f.tmps.getD 97 undef = .bool true := dep_of (V := VC a1 a2 a3 c1 c2 c3 la lb lc p1 p2 p3) hdep 20 97 (by kernel_rfl) (by kernel_rfl)
        clear hdep hsame hi
        have q := CC.out u hbel
        exact ⟨wanted_of 20 rfl eg (by kernel_rfl), shows_run rfl (.string ⟨(lc).toArray⟩) (by simp only [execOp, Act.eval]; go_simp) (Below.refl _ _) rfl⟩
      | 29, hi =>
        cases (show some _ = some o from hi)
        have e101 : f.tmps.getD 101 undef = .string ⟨(la).toArray⟩ := dep_of (V := VC a1 a2 a3 c1 c2 c3 la lb lc p1 p2 p3) hdep 24 101 (by kernel_rfl) (by kernel_rfl)
        have e103 : f.tmps.getD 103 undef = .string ⟨(lb).toArray⟩ := dep_of (V := VC a1 a2 a3 c1 c2 c3 la lb lc p1 p2 p3) hdep 26 103 (by kernel_rfl) (by kernel_rfl)
        have e105 : f.tmps.getD 105 undef = .string ⟨(lc).toArray⟩ := dep_of (V := VC a1 a2 a3 c1 c2 c3 la lb lc p1 p2 p3) hdep 28 105 (by kernel_rfl) (by kernel_rfl)
        have eg : f.tmps.getD 97 undef = .bool true := dep_of (V := VC a1 a2 a3 c1 c2 c3 la lb lc p1 p2 p3) hdep 20 97 (by kernel_rfl) (by kernel_rfl)
        clear hdep hsame hi
        have q101 : f.tmps[101]?.getD undef = .string ⟨(la).toArray⟩ := by simpa using e101
        have q103 : f.tmps[103]?.getD undef = .string ⟨(lb).toArray⟩ := by simpa using e103
        have q105 : f.tmps[105]?.getD undef = .string ⟨(lc).toArray⟩ := by simpa using e105
        exact ⟨wanted_of 20 rfl eg (by kernel_rfl), shows_run rfl (.slice (some ⟨u.heap.size, 0, none⟩) 3 3) (w' := u.alloc (.cells #[.string ⟨(la).toArray⟩, .string ⟨(lb).toArray⟩, .string ⟨(lc).toArray⟩] 9)) (by simp only [execOp, Act.eval]; go_simp) ((Below.refl _ _).alloc (Nat.le_refl _) _) (strs_block _ _ [⟨(la).toArray⟩, ⟨(lb).toArray⟩, ⟨(lc).toArray⟩] _ _ 3 rfl (by simp [maxLen]) (heap_alloc_new _ _))⟩
      | 30, hi =>
        cases (show some _ = some o from hi)
        have e106 : Strs u (f.tmps.getD 106 undef) [⟨(la).toArray⟩, ⟨(lb).toArray⟩, ⟨(lc).toArray⟩] := dep_of (V := VC a1 a2 a3 c1 c2 c3 la lb lc p1 p2 p3) hdep 29 106 (by kernel_rfl) (by kernel_rfl)
        have eg : f.tmps.getD 97 undef = .bool true := dep_of (V := VC a1 a2 a3 c1 c2 c3 la lb lc p1 p2 p3) hdep 20 97 (by kernel_rfl) (by kernel_rfl)
        clear hdep hsame hi
        obtain ⟨vx, hx⟩ : ∃ vx, f.tmps.getD 106 undef = vx := ⟨_, rfl⟩
        rw [hx] at e106
        have c := sum_any u vx _ e106 hTu hgu (by simp [cat, sb]; omega)
        rw [show cat [⟨(la).toArray⟩, ⟨(lb).toArray⟩, ⟨(lc).toArray⟩] = la ++ lb ++ lc by simp [cat, sb], hv_agg] at c
        exact ⟨wanted_of 20 rfl eg (by kernel_rfl), shows_call rfl 13 #[vx] (by simp only [execOp, Act.eval]; go_simp) c (fun _ => rfl)⟩
      | 31, hi =>
        cases (show some _ = some o from hi)
        have e99 : f.tmps.getD 99 undef = .agg (ocells (sha (la ++ lb ++ lc))) := dep_of (V := VC a1 a2 a3 c1 c2 c3 la lb lc p1 p2 p3) hdep 22 99 (by kernel_rfl) (by kernel_rfl)
        have e107 : f.tmps.getD 107 undef = .agg (ocells (sha (la ++ lb ++ lc))) := dep_of (V := VC a1 a2 a3 c1 c2 c3 la lb lc p1 p2 p3) hdep 30 107 (by kernel_rfl) (by kernel_rfl)
        have eg : f.tmps.getD 97 undef = .bool true := dep_of (V := VC a1 a2 a3 c1 c2 c3 la lb lc p1 p2 p3) hdep 20 97 (by kernel_rfl) (by kernel_rfl)
        clear hdep hsame hi
        have q := heq_same (la ++ lb ++ lc) u
        exact ⟨wanted_of 20 rfl eg (by kernel_rfl), shows_run rfl (.bool true) (by simp only [execOp, Act.eval]; go_simp) (Below.refl _ _) rfl⟩
      | 32, hi =>
        cases (show some _ = some o from hi)
        have e97 : f.tmps.getD 97 undef = .bool true := dep_of (V := VC a1 a2 a3 c1 c2 c3 la lb lc p1 p2 p3) hdep 20 97 (by kernel_rfl) (by kernel_rfl)
        have e108 : f.tmps.getD 108 undef = .bool true := dep_of (V := VC a1 a2 a3 c1 c2 c3 la lb lc p1 p2 p3) hdep 31 108 (by kernel_rfl) (by kernel_rfl)
        clear hdep hsame hi
        exact ⟨wanted_none rfl, shows_run rfl (.bool true) (by simp only [execOp, Act.eval]; go_simp) (Below.refl _ _) rfl⟩
      | 33, hi =>
        cases (show some _ = some o from hi)
        have e109 : f.tmps.getD 109 undef = .bool true := dep_of (V := VC a1 a2 a3 c1 c2 c3 la lb lc p1 p2 p3) hdep 32 109 (by kernel_rfl) (by kernel_rfl)
        clear hdep hsame hi
        exact ⟨wanted_none rfl, shows_move rfl _ rfl e109⟩
      | 34, hi =>
        cases (show some _ = some o from hi)
        have eg : f.tmps.getD 110 undef = .bool true := dep_of (V := VC a1 a2 a3 c1 c2 c3 la lb lc p1 p2 p3) hdep 33 110 (by kernel_rfl) (by kernel_rfl)
        clear hdep hsame hi
        exact ⟨wanted_of 33 rfl eg (by kernel_rfl), shows_move rfl _ rfl b7⟩
      | 35, hi =>
        cases (show some _ = some o from hi)
        have e111 : f.tmps.getD 111 undef = .pointer (some ⟨p1, 0, none⟩) := dep_of (V := VC a1 a2 a3 c1 c2 c3 la lb lc p1 p2 p3) hdep 34 111 (by kernel_rfl) (by kernel_rfl)
        have eg : f.tmps.getD 110 undef = .bool true := dep_of (V := VC a1 a2 a3 c1 c2 c3 la lb lc p1 p2 p3) hdep 33 110 (by kernel_rfl) (by kernel_rfl)
        clear hdep hsame hi
        exact ⟨wanted_of 33 rfl eg (by kernel_rfl), shows_call rfl 16 #[.pointer (some ⟨p1, 0, none⟩)] (by simp only [execOp, Act.eval]; go_simp) (HQ.out u hbel) (fun _ => rfl)⟩
      | 36, hi =>
        cases (show some _ = some o from hi)
        have eg : f.tmps.getD 110 undef = .bool true := dep_of (V := VC a1 a2 a3 c1 c2 c3 la lb lc p1 p2 p3) hdep 33 110 (by kernel_rfl) (by kernel_rfl)
        clear hdep hsame hi
        exact ⟨wanted_of 33 rfl eg (by kernel_rfl), shows_move rfl _ rfl b0⟩
      | 37, hi =>
        cases (show some _ = some o from hi)
        have e113 : f.tmps.getD 113 undef = .slice a1 la.length c1 := dep_of (V := VC a1 a2 a3 c1 c2 c3 la lb lc p1 p2 p3) hdep 36 113 (by kernel_rfl) (by kernel_rfl)
        have eg : f.tmps.getD 110 undef = .bool true := dep_of (V := VC a1 a2 a3 c1 c2 c3 la lb lc p1 p2 p3) hdep 33 110 (by kernel_rfl) (by kernel_rfl)
        clear hdep hsame hi
        have q := CA.out u hbel
        exact ⟨wanted_of 33 rfl eg (by kernel_rfl), shows_run rfl (.string ⟨(la).toArray⟩) (by simp only [execOp, Act.eval]; go_simp) (Below.refl _ _) rfl⟩
      | 38, hi =>
        cases (show some _ = some o from hi)
        have eg : f.tmps.getD 110 undef = .bool true := dep_of (V := VC a1 a2 a3 c1 c2 c3 la lb lc p1 p2 p3) hdep 33 110 (by kernel_rfl) (by kernel_rfl)
        clear hdep hsame hi
        exact ⟨wanted_of 33 rfl eg (by kernel_rfl), shows_move rfl _ rfl b1⟩
      | 39, hi =>
        cases (show some _ = some o from hi)
        have e115 : f.tmps.getD 115 undef = .slice a2 lb.length c2 := dep_of (V := VC a1 a2 a3 c1 c2 c3 la lb lc p1 p2 p3) hdep 38 115 (by kernel_rfl) (by kernel_rfl)
        have eg : f.tmps.getD 110 undef = .bool true := dep_of (V := VC a1 a2 a3 c1 c2 c3 la lb lc p1 p2 p3) hdep 33 110 (by kernel_rfl) (by kernel_rfl)
        clear hdep hsame hi
        have q := CB.out u hbel
        exact ⟨wanted_of 33 rfl eg (by kernel_rfl), shows_run rfl (.string ⟨(lb).toArray⟩) (by simp only [execOp, Act.eval]; go_simp) (Below.refl _ _) rfl⟩
      | 40, hi =>
        cases (show some _ = some o from hi)
        have e114 : f.tmps.getD 114 undef = .string ⟨(la).toArray⟩ := dep_of (V := VC a1 a2 a3 c1 c2 c3 la lb lc p1 p2 p3) hdep 37 114 (by kernel_rfl) (by kernel_rfl)
        have e116 : f.tmps.getD 116 undef = .string ⟨(lb).toArray⟩ := dep_of (V := VC a1 a2 a3 c1 c2 c3 la lb lc p1 p2 p3) hdep 39 116 (by kernel_rfl) (by kernel_rfl)
        have eg : f.tmps.getD 110 undef = .bool true := dep_of (V := VC a1 a2 a3 c1 c2 c3 la lb lc p1 p2 p3) hdep 33 110 (by kernel_rfl) (by kernel_rfl)
        clear hdep hsame hi
        have q114 : f.tmps[114]?.getD undef = .string ⟨(la).toArray⟩ := by simpa using e114
        have q116 : f.tmps[116]?.getD undef = .string ⟨(lb).toArray⟩ := by simpa using e116
        exact ⟨wanted_of 33 rfl eg (by kernel_rfl), shows_run rfl (.slice (some ⟨u.heap.size, 0, none⟩) 2 2) (w' := u.alloc (.cells #[.string ⟨(la).toArray⟩, .string ⟨(lb).toArray⟩] 9)) (by simp only [execOp, Act.eval]; go_simp) ((Below.refl _ _).alloc (Nat.le_refl _) _) (strs_block _ _ [⟨(la).toArray⟩, ⟨(lb).toArray⟩] _ _ 2 rfl (by simp [maxLen]) (heap_alloc_new _ _))⟩
      | 41, hi =>
        cases (show some _ = some o from hi)
        have e117 : Strs u (f.tmps.getD 117 undef) [⟨(la).toArray⟩, ⟨(lb).toArray⟩] := dep_of (V := VC a1 a2 a3 c1 c2 c3 la lb lc p1 p2 p3) hdep 40 117 (by kernel_rfl) (by kernel_rfl)
        have eg : f.tmps.getD 110 undef = .bool true := dep_of (V := VC a1 a2 a3 c1 c2 c3 la lb lc p1 p2 p3) hdep 33 110 (by kernel_rfl) (by kernel_rfl)
        clear hdep hsame hi
        obtain ⟨vx, hx⟩ : ∃ vx, f.tmps.getD 117 undef = vx := ⟨_, rfl⟩
        rw [hx] at e117
        have c := sum_any u vx _ e117 hTu hgu (by simp [cat, sb]; omega)
        rw [show cat [⟨(la).toArray⟩, ⟨(lb).toArray⟩] = la ++ lb by simp [cat, sb], hv_agg] at c
        exact ⟨wanted_of 33 rfl eg (by kernel_rfl), shows_call rfl 13 #[vx] (by simp only [execOp, Act.eval]; go_simp) c (fun _ => rfl)⟩
      | 42, hi =>
        cases (show some _ = some o from hi)
        have e112 : f.tmps.getD 112 undef = .agg (ocells (sha (la ++ lb))) := dep_of (V := VC a1 a2 a3 c1 c2 c3 la lb lc p1 p2 p3) hdep 35 112 (by kernel_rfl) (by kernel_rfl)
        have e118 : f.tmps.getD 118 undef = .agg (ocells (sha (la ++ lb))) := dep_of (V := VC a1 a2 a3 c1 c2 c3 la lb lc p1 p2 p3) hdep 41 118 (by kernel_rfl) (by kernel_rfl)
        have eg : f.tmps.getD 110 undef = .bool true := dep_of (V := VC a1 a2 a3 c1 c2 c3 la lb lc p1 p2 p3) hdep 33 110 (by kernel_rfl) (by kernel_rfl)
        clear hdep hsame hi
        have q := heq_same (la ++ lb) u
        exact ⟨wanted_of 33 rfl eg (by kernel_rfl), shows_run rfl (.bool true) (by simp only [execOp, Act.eval]; go_simp) (Below.refl _ _) rfl⟩
      | 43, hi =>
        cases (show some _ = some o from hi)
        have e110 : f.tmps.getD 110 undef = .bool true := dep_of (V := VC a1 a2 a3 c1 c2 c3 la lb lc p1 p2 p3) hdep 33 110 (by kernel_rfl) (by kernel_rfl)
        have e119 : f.tmps.getD 119 undef = .bool true := dep_of (V := VC a1 a2 a3 c1 c2 c3 la lb lc p1 p2 p3) hdep 42 119 (by kernel_rfl) (by kernel_rfl)
        clear hdep hsame hi
        exact ⟨wanted_none rfl, shows_run rfl (.bool true) (by simp only [execOp, Act.eval]; go_simp) (Below.refl _ _) rfl⟩
      | 44, hi =>
        cases (show some _ = some o from hi)
        have e120 : f.tmps.getD 120 undef = .bool true := dep_of (V := VC a1 a2 a3 c1 c2 c3 la lb lc p1 p2 p3) hdep 43 120 (by kernel_rfl) (by kernel_rfl)
        clear hdep hsame hi
        exact ⟨wanted_none rfl, shows_assign rfl _ rfl e120⟩
      | n + 45, hi => exact absurd hi (by simp)
    · intro f u hsame hbel hall
      have e6 : f.tmps.getD 6 undef = .bool true := hall 44 _ 6 rfl rfl
      have hd : f.defers = [] := hsame.defers
      refine ‹∀ (a : Act) (w : World), Code.wp _ Code.ret _ a w → _› f u ?_
      exact wp_ret (bodyPost_ret (results_tmp rfl _ _ _) hd ⟨by rw [e6], (HB2.out.trans (HB14.out.mono HB2.out.size)).trans (hbel.mono (HB2.out.trans (HB14.out.mono HB2.out.size)).size)⟩)
end Go.Proofs.YtfoknhogclfhhaaDoor
