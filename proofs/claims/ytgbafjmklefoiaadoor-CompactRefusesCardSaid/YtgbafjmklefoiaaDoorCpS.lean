/- cartularylaw09.CompactRefuses walked. -/
import Derived.Test.YtgbafjmklefoiaaDoorCpR
import Derived.Test.YtgbafjmklefoiaaDoorG7

namespace Go.Proofs.YtgbafjmklefoiaaDoor
set_option maxRecDepth 100000
open Go.RowKit
theorem run_bs_zero {o : Oper} {a : Act} (w : World) (ho : o.op = .buildSlice 22 0 #[]) : (execOp a.eval o).run Tryd.prog w = .ok (.value (.slice (some ⟨w.heap.size, 0, none⟩) 0 0)) (w.alloc (.cells #[] 28)) := by
  have hr : (Instr.buildSlice 22 0 #[]).run Tryd.prog w = .ok (.slice (some ⟨w.heap.size, 0, none⟩) 0 0) (w.alloc (.cells #[] 28)) := by kernel_rfl
  unfold execOp
  simp only [ho, List.map_toArray, List.map_nil, Sem.run_bind, hr, Result.andThen_ok, Sem.run_pure]
theorem hcells_one {ls : List (List UInt8)} : ∀ u ∈ hcells ls, u.oneCell' = true := by
  intro u hu
  obtain ⟨x, _, hx⟩ := List.mem_flatMap.1 hu
  unfold bcells at hx
  obtain ⟨c, _, rfl⟩ := List.mem_map.1 hx
  rfl
/-- a row of one's own as what is appended -/
theorem own_news {w : World} {base : Nat} {e : TypeId} {size : Nat} {xa : Option Addr} {n c : Nat} {xs : List Value} (h : w.ownsRow base e size (.slice xa n c) n xs) :
    ∀ ad, xa = some ad → ∀ j u, xs[j]? = some u → w.cell? (ad.add j) = some u := by
  rintro ad rfl
  rcases id h.2 with ⟨h0, _⟩ | ⟨g, cap, cur, e1, _⟩
  · cases h0
  · cases e1
    exact h.cells (g := g) rfl
theorem own_nil {w : World} {base : Nat} {e : TypeId} {size : Nat} {xa : Option Addr} {n c : Nat} {xs : List Value} (h : w.ownsRow base e size (.slice xa n c) n xs) : xa = none → c = 0 ∧ n = 0 := by
  obtain ⟨_, _, e, _, _, h⟩ := own_shape h
  cases e
  exact h
/-- tables and errors -/
structure Cz (A : Nat → Addr) (w : World) : Prop where
  hs : Hs A w
  tz : TabZ w
  lt : 4 < w.heap.size
theorem Cz.below {A : Nat → Addr} {w w' : World} (h : Cz A w) (k : Below w.heap.size w w') : Cz A w' := ⟨h.hs.below k, h.tz.below h.lt k, Nat.lt_of_lt_of_le h.lt k.size⟩
theorem built_fiveC : Tryd.prog.built 28 [(0, .int .u8 5)] = some (ocells (oneB 5)) := by kernel_rfl
theorem built_sixC : Tryd.prog.built 28 [(0, .int .u8 6)] = some (ocells (oneB 6)) := by kernel_rfl
theorem built_sevenC : Tryd.prog.built 28 [(0, .int .u8 7)] = some (ocells (oneB 7)) := by kernel_rfl
theorem cover_oneC {b : Nat} (h : b < 2 ^ 63) : coverN b (b + 1) = [(0, b)] := by
  have h1 := push_leaf (fun _ => []) (Nat.le_refl b) h
  rw [rowC_nil, pushN_nil] at h1
  have h2 := rowC_co (fun _ => []) b (b + 1)
  rw [← h1] at h2
  exact h2.symm
def VS9 (r st e1 : Nat) (oi : Nat) (v : Value) (own : Nat → Option Nat) (w : World) : Prop :=
  match oi with
  | 0 => v = .pointer (some ⟨r, 0, none⟩)
  | 1 => v = .agg #[.int .u64 (st : Int), .int .u64 (e1 : Int)]
  | 2 => AllocV own w v 3 39 2
  | 3 => StoredV own w 3 39 #[.int .u64 (st : Int), .int .u64 (e1 : Int)]
  | _ => True
def VS9mk : Nat → Option Nat := fun j => match j with | 3 => some 2 | _ => none
theorem VS9_mono (r st e1 : Nat) (oi oj : Nat) (v : Value) (own : Nat → Option Nat) (w : World) (own' : Nat → Option Nat) (w' : World) (hij : oi ≠ oj)   (h : VS9 r st e1 oj v own w) (r1 : Rel VS9mk oi own w own' w') : VS9 r st e1 oj v own' w' := by
  unfold VS9 at h ⊢
  split at h
  · exact h
  · exact h
  · exact h.stable r1 rfl hij
  · exact h.stable r1 hij
  · trivial

def VS10z (_A : Nat → Addr) (r q k c10 st e1 off _g11 : Nat) (a10 : Option Addr) (hs : List (List UInt8)) (oi : Nat) (v : Value) (own : Nat → Option Nat) (w : World) : Prop :=
  match oi with
  | 0 => v = .int .u64 (off : Int)
  | 1 => v = .bool false
  | 2 => v = .bool false
  | 3 => v = undef
  | 4 => v = undef
  | 5 => v = undef
  | 6 => v = undef
  | 7 => v = undef
  | 8 => v = .bool false
  | 9 => v = .bool false
  | 10 => v = .int .u64 (off : Int)
  | 11 => v = .bool true
  | 12 => v = .bool true
  | 13 => v = .pointer (some ⟨r, 0, none⟩)
  | 14 => v = .pointer (some ⟨q, 0, none⟩)
  | 15 => v = .nilIface
  | 16 => v = .bool false
  | 17 => v = .bool false
  | 18 => v = .bool false
  | 19 => v = .bool false
  | 20 => v = .pointer (some ⟨r, 0, none⟩)
  | 21 => v = .agg #[.int .u64 (st : Int), .int .u64 (e1 : Int)]
  | 22 => v = .agg #[.int .u64 (st : Int), .int .u64 (e1 : Int)]
  | 23 => v = .bool false
  | 24 => v = .bool false
  | 25 => v = .bool false
  | 26 => v = .pointer (some ⟨r, 0, none⟩)
  | 27 => RowN own w v 0 28 32 k (hcells hs)
  | 28 => v = .slice a10 k c10
  | 29 => v = .bool true
  | 30 => v = .bool false
  | 31 => v = .bool false
  | _ => True
def VS10zmk : Nat → Option Nat := fun _ => none
theorem VS10z_mono (A : Nat → Addr) (r q k c10 st e1 off g11 : Nat) (a10 : Option Addr) (hs : List (List UInt8)) (oi oj : Nat) (v : Value) (own : Nat → Option Nat) (w : World) (own' : Nat → Option Nat) (w' : World) (hij : oi ≠ oj)   (h : VS10z A r q k c10 st e1 off g11 a10 hs oj v own w) (r1 : Rel VS10zmk oi own w own' w') : VS10z A r q k c10 st e1 off g11 a10 hs oj v own' w' := by
  unfold VS10z at h ⊢
  split at h
  · exact h
  · exact h
  · exact h
  · exact h
  · exact h
  · exact h
  · exact h
  · exact h
  · exact h
  · exact h
  · exact h
  · exact h
  · exact h
  · exact h
  · exact h
  · exact h
  · exact h
  · exact h
  · exact h
  · exact h
  · exact h
  · exact h
  · exact h
  · exact h
  · exact h
  · exact h
  · exact h
  · exact h.stable r1
  · exact h
  · exact h
  · exact h
  · exact h
  · trivial

def VS10n (A : Nat → Addr) (r q k c10 st e1 off _g11 : Nat) (a10 : Option Addr) (hs : List (List UInt8)) (oi : Nat) (v : Value) (own : Nat → Option Nat) (w : World) : Prop :=
  match oi with
  | 0 => v = .int .u64 (off : Int)
  | 1 => v = .bool true
  | 2 => v = .bool true
  | 3 => v = .pointer (some ⟨r, 0, none⟩)
  | 4 => v = .pointer (some ⟨q, 0, none⟩)
  | 5 => v = .iface 129 (.pointer (some (A 1)))
  | 6 => v = .bool true
  | 7 => v = .bool false
  | 8 => v = .bool false
  | 9 => v = .bool false
  | 10 => v = .int .u64 (off : Int)
  | 11 => v = .bool false
  | 12 => v = .bool false
  | 13 => v = undef
  | 14 => v = undef
  | 15 => v = undef
  | 16 => v = undef
  | 17 => v = .bool false
  | 18 => v = .bool false
  | 19 => v = .bool false
  | 20 => v = .pointer (some ⟨r, 0, none⟩)
  | 21 => v = .agg #[.int .u64 (st : Int), .int .u64 (e1 : Int)]
  | 22 => v = .agg #[.int .u64 (st : Int), .int .u64 (e1 : Int)]
  | 23 => v = .bool false
  | 24 => v = .bool false
  | 25 => v = .bool false
  | 26 => v = .pointer (some ⟨r, 0, none⟩)
  | 27 => RowN own w v 0 28 32 k (hcells hs)
  | 28 => v = .slice a10 k c10
  | 29 => v = .bool true
  | 30 => v = .bool false
  | 31 => v = .bool false
  | _ => True
def VS10nmk : Nat → Option Nat := fun _ => none
theorem VS10n_mono (A : Nat → Addr) (r q k c10 st e1 off g11 : Nat) (a10 : Option Addr) (hs : List (List UInt8)) (oi oj : Nat) (v : Value) (own : Nat → Option Nat) (w : World) (own' : Nat → Option Nat) (w' : World) (hij : oi ≠ oj)   (h : VS10n A r q k c10 st e1 off g11 a10 hs oj v own w) (r1 : Rel VS10nmk oi own w own' w') : VS10n A r q k c10 st e1 off g11 a10 hs oj v own' w' := by
  unfold VS10n at h ⊢
  split at h
  · exact h
  · exact h
  · exact h
  · exact h
  · exact h
  · exact h
  · exact h
  · exact h
  · exact h
  · exact h
  · exact h
  · exact h
  · exact h
  · exact h
  · exact h
  · exact h
  · exact h
  · exact h
  · exact h
  · exact h
  · exact h
  · exact h
  · exact h
  · exact h
  · exact h
  · exact h
  · exact h
  · exact h.stable r1
  · exact h
  · exact h
  · exact h
  · exact h
  · trivial

def VS12 (A : Nat → Addr) (k c10 st e1 _g11 : Nat) (a10 : Option Addr) (hs : List (List UInt8)) (X : List UInt8) (oi : Nat) (v : Value) (own : Nat → Option Nat) (w : World) : Prop :=
  match oi with
  | 0 => v = .agg #[.int .u64 (st : Int), .int .u64 (e1 : Int)]
  | 1 => BuiltV own w v 0 28 #[]
  | 2 => v = .slice a10 k c10
  | 3 => RowC own w v 6 0 28 32 k (hcells hs)
  | 4 => v = .agg (ocells (X))
  | 5 => BuiltV own w v 1 28 (ocells X)
  | 6 => GrownV own w 6 0 28 32 v (k + 1) (hcells hs ++ (ocells X).toList)
  | 7 => v = .tuple #[.pointer none, .iface 129 (.pointer (some (A 1)))]
  | 8 => v = .tuple #[.pointer none, .iface 129 (.pointer (some (A 1)))]
  | 9 => v = .pointer none
  | 10 => v = .iface 129 (.pointer (some (A 1)))
  | 11 => v = .pointer none
  | 12 => v = .iface 129 (.pointer (some (A 1)))
  | _ => True
def VS12mk : Nat → Option Nat := fun j => match j with | 6 => some 3 | _ => none
def VS12till : Nat → Option Nat := fun j => match j with | 3 => some 6 | _ => none
theorem VS12_mono (A : Nat → Addr) (k c10 st e1 g11 : Nat) (a10 : Option Addr) (hs : List (List UInt8)) (X : List UInt8) (oi oj : Nat) (v : Value) (own : Nat → Option Nat) (w : World) (own' : Nat → Option Nat) (w' : World) (hij : oi ≠ oj)  (ht : VS12till oj ≠ some oi)  (h : VS12 A k c10 st e1 g11 a10 hs X oj v own w) (r : Rel VS12mk oi own w own' w') : VS12 A k c10 st e1 g11 a10 hs X oj v own' w' := by
  unfold VS12 at h ⊢
  split at h
  · exact h
  · exact h.stable r
  · exact h
  · exact h.stable r (fun e => ht (by rw [e]; rfl))
  · exact h
  · exact h.stable r
  · exact h.stable r hij
  · exact h
  · exact h
  · exact h
  · exact h
  · exact h
  · exact h
  · trivial

def VS13 (A : Nat → Addr) (oi : Nat) (v : Value) (_own : Nat → Option Nat) (_w : World) : Prop :=
  match oi with
  | 0 => v = .pointer none
  | 1 => v = .bool false
  | 2 => v = .bool false
  | 3 => v = .iface 129 (.pointer (some (A 1)))
  | 4 => v = .bool true
  | 5 => v = .bool false
  | 6 => v = .bool false
  | _ => True
def VS13mk : Nat → Option Nat := fun _ => none
theorem VS13_mono (A : Nat → Addr) (oi oj : Nat) (v : Value) (own : Nat → Option Nat) (w : World) (own' : Nat → Option Nat) (w' : World) (hij : oi ≠ oj)   (h : VS13 A oj v own w) (_r : Rel VS13mk oi own w own' w') : VS13 A oj v own' w' := by
  unfold VS13 at h ⊢
  split at h
  · exact h
  · exact h
  · exact h
  · exact h
  · exact h
  · exact h
  · exact h
  · trivial

def VS15 (Y : List UInt8) (oi : Nat) (v : Value) (own : Nat → Option Nat) (w : World) : Prop :=
  match oi with
  | 0 => v = .agg #[.int .u64 9223372036854775807, .int .u64 9223372036854775808]
  | 1 => v = .agg (ocells (Y))
  | 2 => BuiltV own w v 1 28 (ocells Y)
  | 3 => MadeT own w v 9223372036854775807 9223372036854775808 0 [(0, 9223372036854775807, Y)]
  | 4 => MadeT own w v 9223372036854775807 9223372036854775808 0 [(0, 9223372036854775807, Y)]
  | 5 => MadeR own w v 9223372036854775807 9223372036854775808 0 [(0, 9223372036854775807, Y)]
  | 6 => v = .nilIface
  | 7 => MadeR own w v 9223372036854775807 9223372036854775808 0 [(0, 9223372036854775807, Y)]
  | 8 => v = .nilIface
  | _ => True
def VS15mk : Nat → Option Nat := fun _ => none
theorem VS15_mono (Y : List UInt8) (oi oj : Nat) (v : Value) (own : Nat → Option Nat) (w : World) (own' : Nat → Option Nat) (w' : World) (hij : oi ≠ oj)   (h : VS15 Y oj v own w) (r : Rel VS15mk oi own w own' w') : VS15 Y oj v own' w' := by
  unfold VS15 at h ⊢
  split at h
  · exact h
  · exact h
  · exact h.stable r
  · exact h.stable r
  · exact h.stable r
  · exact h.stable r
  · exact h
  · exact h.stable r
  · exact h
  · trivial

def VS16 (A : Nat → Addr) (g14 : Nat) (Y Z : List UInt8) (oi : Nat) (v : Value) (own : Nat → Option Nat) (w : World) : Prop :=
  match oi with
  | 0 => v = .pointer (some ⟨g14, 0, none⟩)
  | 1 => v = .bool false
  | 2 => v = .bool false
  | 3 => v = .nilIface
  | 4 => v = .bool false
  | 5 => v = .bool false
  | 6 => v = .bool false
  | 7 => v = .pointer (some ⟨g14, 0, none⟩)
  | 8 => v = .agg (ocells (Z))
  | 9 => v = .iface 129 (.pointer (some (A 3)))
  | 10 => v = .bool true
  | 11 => v = .bool false
  | 12 => v = .bool false
  | 13 => v = .bool false
  | 14 => v = .pointer (some ⟨g14, 0, none⟩)
  | 15 => RowN own w v 0 28 32 1 (hcells [Y])
  | 16 => v = .agg (ocells (Y))
  | 17 => BuiltV own w v 1 28 (ocells Y)
  | 18 => v = .bool true
  | 19 => v = .bool false
  | 20 => v = .bool false
  | _ => True
def VS16mk : Nat → Option Nat := fun _ => none
theorem VS16_mono (A : Nat → Addr) (g14 : Nat) (Y Z : List UInt8) (oi oj : Nat) (v : Value) (own : Nat → Option Nat) (w : World) (own' : Nat → Option Nat) (w' : World) (hij : oi ≠ oj)   (h : VS16 A g14 Y Z oj v own w) (r : Rel VS16mk oi own w own' w') : VS16 A g14 Y Z oj v own' w' := by
  unfold VS16 at h ⊢
  split at h
  · exact h
  · exact h
  · exact h
  · exact h
  · exact h
  · exact h
  · exact h
  · exact h
  · exact h
  · exact h
  · exact h
  · exact h
  · exact h
  · exact h
  · exact h
  · exact h.stable r
  · exact h
  · exact h.stable r
  · exact h
  · exact h
  · exact h
  · trivial

def VS19 (A : Nat → Addr) (z : Nat) (V : List UInt8) (oi : Nat) (v : Value) (own : Nat → Option Nat) (w : World) : Prop :=
  match oi with
  | 0 => v = .pointer (some ⟨z, 0, none⟩)
  | 1 => v = .bool true
  | 2 => v = .bool true
  | 3 => v = .pointer (some ⟨z, 0, none⟩)
  | 4 => v = .agg (ocells (V))
  | 5 => v = .iface 129 (.pointer (some (A 3)))
  | 6 => v = .bool true
  | 7 => v = .bool true
  | 8 => v = .bool true
  | 9 => v = .pointer (some ⟨z, 0, none⟩)
  | 10 => RowN own w v 0 28 32 0 (hcells [])
  | 11 => v = .int .i64 0
  | 12 => v = .bool true
  | 13 => v = .bool true
  | 14 => v = .bool true
  | 15 => v = .bool true
  | 16 => v = .bool true
  | 17 => v = .bool true
  | _ => True
def VS19mk : Nat → Option Nat := fun _ => none
theorem VS19_mono (A : Nat → Addr) (z : Nat) (V : List UInt8) (oi oj : Nat) (v : Value) (own : Nat → Option Nat) (w : World) (own' : Nat → Option Nat) (w' : World) (hij : oi ≠ oj)   (h : VS19 A z V oj v own w) (r : Rel VS19mk oi own w own' w') : VS19 A z V oj v own' w' := by
  unfold VS19 at h ⊢
  split at h
  · exact h
  · exact h
  · exact h
  · exact h
  · exact h
  · exact h
  · exact h
  · exact h
  · exact h
  · exact h
  · exact h.stable r
  · exact h
  · exact h
  · exact h
  · exact h
  · exact h
  · exact h
  · exact h
  · trivial

set_option maxHeartbeats 4000000 in
theorem crefuses_any (A : Nat → Addr) (w : World) (b : Nat) (ad : Option Addr) (n cap : Nat) (l : List (List UInt8)) (hH : Hss w (.slice ad n cap) l) (off : Nat) (hb : b < 18446744073709551616) (ho : off < 18446744073709551616) (h : Cz A w) :
    Calls Tryd.prog 6 #[.int .u64 (b : Int), .slice ad n cap, .int .u64 (off : Int)] w fun e w' => e = .returned (.bool true) ∧ Below w.heap.size w w' := by
  by_cases h300 : 300 < n
  · have f1 : (300 : Int) < (n : Int) := by omega
    have HT := Bx.mk h.hs.tab
    clear hH h hb ho
    go_enter Tryd.func6, Tryd.ntmps6
    go_wp2_with fail
    refine (alive09_any w HT.out).mono ?_
    rintro e u ⟨rfl, hb⟩
    go_wp2_with fail
    go_ret
    exact ⟨rfl, hb⟩
  · have f0 : ¬ (300 : Int) < (n : Int) := by omega
    have hnl : n = l.length := by obtain ⟨_, _, e, _, _⟩ := hH.len; cases e; rfl
    obtain ⟨st, hst⟩ : ∃ st, st = startN b (n + 1) := ⟨_, rfl⟩
    have hsl : st + (n + 1) ≤ 2 ^ 63 := by rw [hst]; exact startN_le (by omega)
    obtain ⟨fL, hf⟩ : ∃ fL : Nat → List UInt8, fL = fun i => fnC l (i - st) := ⟨_, rfl⟩
    have FG : Bx (∀ t (h : t < l.length), l[t] = fL (st + t)) := ⟨fun t h => by rw [hf, fnC_get t h]; show _ = fnC l (st + t - st); rw [Nat.add_sub_cancel_left]⟩
    have cs := start_any w b (n + 1) (by omega) hb
    rw [← hst, show ((n + 1 : Nat) : Int) = (n : Int) + 1 by omega] at cs
    obtain ⟨D, hD⟩ : ∃ D, D = (st + n + off) % 18446744073709551616 := ⟨_, rfl⟩
    have HL := Bx.mk hnl; have HH := Bx.mk hH; have HE := Bx.mk h; have NL := Bx.mk (show n ≤ 300 by omega); have SL := Bx.mk hsl; have HO := Bx.mk ho; have CS := Bx.mk cs; have HD := Bx.mk hD; have H32 := Bx.mk hH.1
    clear hH h hnl hsl hst hf cs hb ho hD h300
    go_enter Tryd.func6, Tryd.ntmps6
    have nl := NL.out
    go_wp2_with fail
    refine CS.out.mono ?_
    rintro e W1 ⟨rfl, hb⟩
    have K0 := Bx.mk hb; have HE0 := Bx.mk (HE.out.below hb)
    clear CS
    have ca := appended_any W1 st ad n cap l (HH.out.below hb) fL FG.out HE0.out.hs.tab (by rw [← HL.out]; have := SL.out; omega) (by rw [← HL.out]; omega)
    have CA := Bx.mk ca; clear ca hb HH HE f0
    go_wp2_with fail
    refine CA.out.mono ?_
    clear CA
    rintro e W2 ⟨r, rfl, ⟨s, hR⟩, hb⟩
    have K1 := Bx.mk (K0.out.trans (hb.mono K0.out.size)); have HE1 := Bx.mk (HE0.out.below hb)
    have R0 := Bx.mk (hR.mono K0.out.size)
    clear hb hR K0 HE0
    have d1 : IntKind.u64.wrap (n : Int) = (n : Int) := by simp [IntKind.wrap, IntKind.bits, IntKind.signed]; omega
    have d2 : IntKind.u64.wrap ((st : Int) + (n : Int)) = (st : Int) + (n : Int) := by have := SL.out; simp [IntKind.wrap, IntKind.bits, IntKind.signed]; omega
    have d3 : IntKind.u64.wrap ((st : Int) + (n : Int) + (off : Int)) = (D : Int) := by have := SL.out; have := HD.out; simp [IntKind.wrap, IntKind.bits, IntKind.signed]; omega
    go_wp2_with fail
    clear d1 d2 d3
    refine (rnew_any W2 D).mono ?_
    rintro e W3 ⟨q, rfl, hQ, hb⟩
    have K2 := Bx.mk (K1.out.trans (hb.mono K1.out.size)); have HE2 := Bx.mk (HE1.out.below hb); have R1 := Bx.mk (R0.out.below hb)
    clear hb K1 HE1 R0
    have Q0 := Bx.mk (hQ.mono (Nat.zero_le _))
    clear hQ
    obtain ⟨k, hk⟩ : ∃ k, k = (rowC fL st (st + n)).length := ⟨_, rfl⟩
    have KL : Bx (k ≤ 128) := ⟨by rw [hk]; exact rowC_len (by have := SL.out; omega)⟩
    obtain ⟨hs, hhs⟩ : ∃ hs, hs = hsC (rowC fL st (st + n)) := ⟨_, rfl⟩
    have HHS := Bx.mk hhs; have HK := Bx.mk hk
    have S32 : Bx (∀ x ∈ hs, x.length = 32) := ⟨by rw [hhs]; exact hsC_mem R1.out.h32⟩
    have KH : Bx (k = hs.length) := ⟨by rw [hhs, hsC_len, hk]⟩
    obtain ⟨e1, he1⟩ : ∃ e1, e1 = st + n := ⟨_, rfl⟩
    have E1 := Bx.mk he1
    clear hhs hk
    have ch := rhss_any w.heap.size W3 r st (st + n) _ s k HK.out hs HHS.out R1.out (by have := KL.out; omega) W3.heap.size (Nat.le_refl _)
    have CH := Bx.mk ch; clear ch
    go_wp2_with fail
    refine CH.out.mono ?_
    clear CH
    rintro e W4 ⟨v10, rfl, ⟨hrow, -⟩, hb⟩
    obtain ⟨a10, c10, rfl, -, -, hn10⟩ := own_shape hrow
    have H0 := Bx.mk (hss_own hrow S32.out KH.out)
    have O0 := Bx.mk hrow; have N10 := Bx.mk hn10
    clear hrow hn10
    have K3 := Bx.mk (K2.out.trans (hb.mono K2.out.size)); have HE3 := Bx.mk (HE2.out.below hb); have R2 := Bx.mk (R1.out.below hb); have Q1 := Bx.mk (Q0.out.below hb)
    clear hb K2 HE2 R1 Q0
    have rx := R2.out
    rw [← E1.out] at rx
    have R3 := Bx.mk rx
    clear rx he1
    go_upto_region 9 with (fail)
    refine wp_region_seq8 (n := 145) VS9mk (fun _ => none) (VS9 r st e1) (by kernel_rfl) rfl (fun _ _ => rfl) (fun _ _ _ _ h => by cases h) ?_ ?_ ?_
    · exact fun oi oj v own w own' w' hij h r1 => VS9_mono r st e1 oi oj v own w own' w' (by omega)  h r1
    · intro oi o hi f u own hsame hsn hfr hlate hkeep8 hdep
      have hkeep := hkeep8 _ (Nat.le_refl _)
      have hb6 := hsn.below (B := W4.heap.size) (fun _ _ => rfl) (Nat.le_refl _)
      match oi, hi with
      | 0, hi =>
        cases (show some _ = some o from hi)
        have e8 : f.tmps.getD 8 undef = .pointer (some ⟨r, 0, none⟩) := hlate 8 (earlyS (by kernel_rfl))
        clear hdep hsame hi hlate hfr hkeep
        exact .inl ⟨wanted_none rfl, showsO_move hsn rfl _ rfl e8⟩
      | 1, hi =>
        cases (show some _ = some o from hi)
        have e44 : (f.tmps.getD 44 undef) = .pointer (some ⟨r, 0, none⟩) := depS (V := (VS9 r st e1)) hdep 0 44 (by decide) (by kernel_rfl)
        clear hdep hsame hi hlate hfr hkeep
        have c := rspan_any (R3.out.below hb6)
        exact .inl ⟨wanted_none rfl, showsO_call1 hsn rfl 20 #[.pointer (some ⟨r, 0, none⟩)] (by simp only [execOp, Act.eval]; go_simp) (c) (fun _ => rfl)⟩
      | 2, hi =>
        cases (show some _ = some o from hi)
        clear hdep hsame hi hlate hkeep
        exact .inl ⟨wanted_none rfl, showsO_alloc hsn hfr rfl #[.int .u64 0, .int .u64 0] 39 3 rfl (by simp only [execOp, Act.eval]; go_simp <;> rfl) (fun h => h)⟩
      | 3, hi =>
        cases (show some _ = some o from hi)
        have e11 : AllocV own u (f.tmps.getD 11 undef) 3 39 2 := depS (V := (VS9 r st e1)) hdep 2 11 (by decide) (by kernel_rfl)
        have e45 : (f.tmps.getD 45 undef) = .agg #[.int .u64 (st : Int), .int .u64 (e1 : Int)] := depS (V := (VS9 r st e1)) hdep 1 45 (by decide) (by kernel_rfl)
        clear hdep hsame hi hlate hfr hkeep
        exact .inl ⟨wanted_none rfl, showsO_store_alloc hsn rfl 39 (.tmp 11) (.tmp 45) rfl e11 #[.int .u64 (st : Int), .int .u64 (e1 : Int)] e45 sizeS rfl (by simp [Value.oneCell']) (fun _ h => h)⟩
      | n + 4, hi => exact absurd hi (by simp)
    intro fr W5 own hsame hsn hall
    have q44 : fr.tmps.getD 44 undef = .pointer (some ⟨r, 0, none⟩) := finO (V := (VS9 r st e1)) hall 0 44 rfl
    have q45 : fr.tmps.getD 45 undef = .agg #[.int .u64 (st : Int), .int .u64 (e1 : Int)] := finO (V := (VS9 r st e1)) hall 1 45 rfl
    obtain ⟨g11, q11, o11, m11⟩ := AllocV.stored (finO (V := (VS9 r st e1)) hall 2 11 rfl) (finN (V := (VS9 r st e1)) hall 3 rfl)
    obtain rfl := frame_eq hsame [(44, .pointer (some ⟨r, 0, none⟩)), (45, .agg #[.int .u64 (st : Int), .int .u64 (e1 : Int)]), (11, .pointer (some ⟨g11, 0, none⟩))] (by kernel_rfl) ⟨q44, q45, q11, trivial⟩
    clear hall hsame q44 q45 q11
    simp only [List.foldl, List.setIfInBounds_toArray, List.set_cons_succ, List.set_cons_zero]
    have hb := hsn.below (B := W4.heap.size) (fun _ _ => rfl) (Nat.le_refl _)
    clear hsn o11
    have K4 := Bx.mk (K3.out.trans (hb.mono K3.out.size)); have HE4 := Bx.mk (HE3.out.below hb); have R4 := Bx.mk (R3.out.below hb); have Q2 := Bx.mk (Q1.out.below hb); have H1 := Bx.mk (H0.out.below hb); have O1 := Bx.mk (own_keep O0.out (Keep.of_below hb (fun _ => False)) (fun _ _ h => h))
    clear hb K3 HE3 R3 Q1 H0 O0
    have M0 := Bx.mk m11; clear m11
    go_upto_region 10 with (fail)
    go_cut [77] (fun v wc => v = .bool false ∧ Below W5.heap.size W5 wc)
    case first =>
      by_cases hoff : off = 0
      · have EO := Bx.mk hoff
        have dq : D = e1 := by have := HD.out; have := E1.out; have := SL.out; omega
        have qx := Q2.out
        rw [dq] at qx
        have QX := Bx.mk qx; clear qx dq
        have CJ : Bx (∀ u, Below W5.heap.size W5 u → Calls Tryd.prog 18 #[.pointer (some ⟨r, 0, none⟩), .pointer (some ⟨q, 0, none⟩)] u fun e w' => e = .returned .nilIface ∧ Below u.heap.size u w') := ⟨fun u hu => rjoin_nil _ u r st e1 _ s (R4.out.below hu) _ q _ (QX.out.below hu)⟩
        refine wp_region_own8 (n := 145) VS10zmk (fun _ => none) (VS10z A r q k c10 st e1 off g11 a10 hs) (by kernel_rfl) (by kernel_rfl) rfl (fun _ _ => rfl) (fun j i hj _ => by cases hj) ?_ ?_ ?_
        · exact fun oi oj v own w own' w' hij _ h r1 => VS10z_mono A r q k c10 st e1 off g11 a10 hs oi oj v own w own' w' hij h r1
        · intro oi o hi f u own hsame hsn hfr hlate hkeep8 hdep
          have hkeep := hkeep8 _ (.inl rfl)
          have hb6 := hsn.below (B := W5.heap.size) (fun _ _ => rfl) (Nat.le_refl _)
          match oi, hi with
          | 0, hi =>
            cases (show some _ = some o from hi)
            have e2 : f.tmps.getD 2 undef = .int .u64 (off : Int) := hsame.slot 2 (fun i o h => invB2_not 2 (by kernel_rfl) h)
            clear hdep hsame hi hlate hfr hkeep
            exact .inl ⟨wanted_none rfl, showsO_move hsn rfl _ rfl e2⟩
          | 1, hi =>
            cases (show some _ = some o from hi)
            have e46 : (f.tmps.getD 46 undef) = .int .u64 (off : Int) := depO (V := (VS10z A r q k c10 st e1 off g11 a10 hs)) hdep 0 46 (by kernel_rfl) (by kernel_rfl)
            clear hdep hsame hi hlate hfr hkeep
            exact .inl ⟨wanted_none rfl, showsO_pure hsn rfl (.bool false) (by simp only [execOp, Act.eval]; first | (go_simp; done) | (go_simp; rfl) | (go_simp; have := EO.out; first | omega | (simp; omega))) rfl⟩
          | 2, hi =>
            cases (show some _ = some o from hi)
            have e47 : (f.tmps.getD 47 undef) = .bool false := depO (V := (VS10z A r q k c10 st e1 off g11 a10 hs)) hdep 1 47 (by kernel_rfl) (by kernel_rfl)
            clear hdep hsame hi hlate hfr hkeep
            exact .inl ⟨wanted_none rfl, showsO_move hsn rfl _ rfl e47⟩
          | 3, hi =>
            cases (show some _ = some o from hi)
            have e8 : f.tmps.getD 8 undef = .pointer (some ⟨r, 0, none⟩) := hsame.slot 8 (fun i o h => invB2_not 8 (by kernel_rfl) h)
            have eg : f.tmps.getD 48 undef = .bool false := depO (V := (VS10z A r q k c10 st e1 off g11 a10 hs)) hdep 2 48 (by kernel_rfl) (by kernel_rfl)
            clear hdep hsame hi hlate hfr hkeep
            exact .inr ⟨unwanted_of 2 rfl eg (by kernel_rfl) (by decide), rfl⟩
          | 4, hi =>
            cases (show some _ = some o from hi)
            have e9 : f.tmps.getD 9 undef = .pointer (some ⟨q, 0, none⟩) := hsame.slot 9 (fun i o h => invB2_not 9 (by kernel_rfl) h)
            have eg : f.tmps.getD 48 undef = .bool false := depO (V := (VS10z A r q k c10 st e1 off g11 a10 hs)) hdep 2 48 (by kernel_rfl) (by kernel_rfl)
            clear hdep hsame hi hlate hfr hkeep
            exact .inr ⟨unwanted_of 2 rfl eg (by kernel_rfl) (by decide), rfl⟩
          | 5, hi =>
            cases (show some _ = some o from hi)
            have e49 : (f.tmps.getD 49 undef) = undef := depO (V := (VS10z A r q k c10 st e1 off g11 a10 hs)) hdep 3 49 (by kernel_rfl) (by kernel_rfl)
            have e50 : (f.tmps.getD 50 undef) = undef := depO (V := (VS10z A r q k c10 st e1 off g11 a10 hs)) hdep 4 50 (by kernel_rfl) (by kernel_rfl)
            have eg : f.tmps.getD 48 undef = .bool false := depO (V := (VS10z A r q k c10 st e1 off g11 a10 hs)) hdep 2 48 (by kernel_rfl) (by kernel_rfl)
            clear hdep hsame hi hlate hfr hkeep
            exact .inr ⟨unwanted_of 2 rfl eg (by kernel_rfl) (by decide), rfl⟩
          | 6, hi =>
            cases (show some _ = some o from hi)
            have e51 : (f.tmps.getD 51 undef) = undef := depO (V := (VS10z A r q k c10 st e1 off g11 a10 hs)) hdep 5 51 (by kernel_rfl) (by kernel_rfl)
            have eg : f.tmps.getD 48 undef = .bool false := depO (V := (VS10z A r q k c10 st e1 off g11 a10 hs)) hdep 2 48 (by kernel_rfl) (by kernel_rfl)
            clear hdep hsame hi hlate hfr hkeep
            exact .inr ⟨unwanted_of 2 rfl eg (by kernel_rfl) (by decide), rfl⟩
          | 7, hi =>
            cases (show some _ = some o from hi)
            have e52 : (f.tmps.getD 52 undef) = undef := depO (V := (VS10z A r q k c10 st e1 off g11 a10 hs)) hdep 6 52 (by kernel_rfl) (by kernel_rfl)
            have eg : f.tmps.getD 48 undef = .bool false := depO (V := (VS10z A r q k c10 st e1 off g11 a10 hs)) hdep 2 48 (by kernel_rfl) (by kernel_rfl)
            clear hdep hsame hi hlate hfr hkeep
            exact .inr ⟨unwanted_of 2 rfl eg (by kernel_rfl) (by decide), rfl⟩
          | 8, hi =>
            cases (show some _ = some o from hi)
            have e48 : (f.tmps.getD 48 undef) = .bool false := depO (V := (VS10z A r q k c10 st e1 off g11 a10 hs)) hdep 2 48 (by kernel_rfl) (by kernel_rfl)
            have e53 : (f.tmps.getD 53 undef) = undef := depO (V := (VS10z A r q k c10 st e1 off g11 a10 hs)) hdep 7 53 (by kernel_rfl) (by kernel_rfl)
            clear hdep hsame hi hlate hfr hkeep
            exact .inl ⟨wanted_none rfl, showsO_pure hsn rfl (.bool false) (by simp only [execOp, Act.eval]; go_simp) rfl⟩
          | 9, hi =>
            cases (show some _ = some o from hi)
            have e54 : (f.tmps.getD 54 undef) = .bool false := depO (V := (VS10z A r q k c10 st e1 off g11 a10 hs)) hdep 8 54 (by kernel_rfl) (by kernel_rfl)
            clear hdep hsame hi hlate hfr hkeep
            exact .inl ⟨wanted_none rfl, showsO_move hsn rfl _ rfl e54⟩
          | 10, hi =>
            cases (show some _ = some o from hi)
            have e2 : f.tmps.getD 2 undef = .int .u64 (off : Int) := hsame.slot 2 (fun i o h => invB2_not 2 (by kernel_rfl) h)
            have eg : f.tmps.getD 55 undef = .bool false := depO (V := (VS10z A r q k c10 st e1 off g11 a10 hs)) hdep 9 55 (by kernel_rfl) (by kernel_rfl)
            clear hdep hsame hi hlate hfr hkeep
            exact .inl ⟨wanted_of 9 rfl eg (by kernel_rfl), showsO_move hsn rfl _ rfl e2⟩
          | 11, hi =>
            cases (show some _ = some o from hi)
            have e56 : (f.tmps.getD 56 undef) = .int .u64 (off : Int) := depO (V := (VS10z A r q k c10 st e1 off g11 a10 hs)) hdep 10 56 (by kernel_rfl) (by kernel_rfl)
            have eg : f.tmps.getD 55 undef = .bool false := depO (V := (VS10z A r q k c10 st e1 off g11 a10 hs)) hdep 9 55 (by kernel_rfl) (by kernel_rfl)
            clear hdep hsame hi hlate hfr hkeep
            exact .inl ⟨wanted_of 9 rfl eg (by kernel_rfl), showsO_pure hsn rfl (.bool true) (by simp only [execOp, Act.eval]; first | (go_simp; done) | (go_simp; rfl) | (go_simp; have := EO.out; first | omega | (simp; omega))) rfl⟩
          | 12, hi =>
            cases (show some _ = some o from hi)
            have e57 : (f.tmps.getD 57 undef) = .bool true := depO (V := (VS10z A r q k c10 st e1 off g11 a10 hs)) hdep 11 57 (by kernel_rfl) (by kernel_rfl)
            have eg : f.tmps.getD 55 undef = .bool false := depO (V := (VS10z A r q k c10 st e1 off g11 a10 hs)) hdep 9 55 (by kernel_rfl) (by kernel_rfl)
            clear hdep hsame hi hlate hfr hkeep
            exact .inl ⟨wanted_of 9 rfl eg (by kernel_rfl), showsO_move hsn rfl _ rfl e57⟩
          | 13, hi =>
            cases (show some _ = some o from hi)
            have e8 : f.tmps.getD 8 undef = .pointer (some ⟨r, 0, none⟩) := hsame.slot 8 (fun i o h => invB2_not 8 (by kernel_rfl) h)
            have eg : f.tmps.getD 58 undef = .bool true := depO (V := (VS10z A r q k c10 st e1 off g11 a10 hs)) hdep 12 58 (by kernel_rfl) (by kernel_rfl)
            clear hdep hsame hi hlate hfr hkeep
            exact .inl ⟨wanted_of 12 rfl eg (by kernel_rfl), showsO_move hsn rfl _ rfl e8⟩
          | 14, hi =>
            cases (show some _ = some o from hi)
            have e9 : f.tmps.getD 9 undef = .pointer (some ⟨q, 0, none⟩) := hsame.slot 9 (fun i o h => invB2_not 9 (by kernel_rfl) h)
            have eg : f.tmps.getD 58 undef = .bool true := depO (V := (VS10z A r q k c10 st e1 off g11 a10 hs)) hdep 12 58 (by kernel_rfl) (by kernel_rfl)
            clear hdep hsame hi hlate hfr hkeep
            exact .inl ⟨wanted_of 12 rfl eg (by kernel_rfl), showsO_move hsn rfl _ rfl e9⟩
          | 15, hi =>
            cases (show some _ = some o from hi)
            have e59 : (f.tmps.getD 59 undef) = .pointer (some ⟨r, 0, none⟩) := depO (V := (VS10z A r q k c10 st e1 off g11 a10 hs)) hdep 13 59 (by kernel_rfl) (by kernel_rfl)
            have e60 : (f.tmps.getD 60 undef) = .pointer (some ⟨q, 0, none⟩) := depO (V := (VS10z A r q k c10 st e1 off g11 a10 hs)) hdep 14 60 (by kernel_rfl) (by kernel_rfl)
            have eg : f.tmps.getD 58 undef = .bool true := depO (V := (VS10z A r q k c10 st e1 off g11 a10 hs)) hdep 12 58 (by kernel_rfl) (by kernel_rfl)
            clear hdep hsame hi hlate hfr hkeep
            have c := CJ.out u hb6
            exact .inl ⟨wanted_of 12 rfl eg (by kernel_rfl), showsO_call1 hsn rfl 18 #[.pointer (some ⟨r, 0, none⟩), .pointer (some ⟨q, 0, none⟩)] (by simp only [execOp, Act.eval]; go_simp) (c) (fun _ => rfl)⟩
          | 16, hi =>
            cases (show some _ = some o from hi)
            have e61 : (f.tmps.getD 61 undef) = .nilIface := depO (V := (VS10z A r q k c10 st e1 off g11 a10 hs)) hdep 15 61 (by kernel_rfl) (by kernel_rfl)
            have eg : f.tmps.getD 58 undef = .bool true := depO (V := (VS10z A r q k c10 st e1 off g11 a10 hs)) hdep 12 58 (by kernel_rfl) (by kernel_rfl)
            clear hdep hsame hi hlate hfr hkeep
            exact .inl ⟨wanted_of 12 rfl eg (by kernel_rfl), showsO_pure hsn rfl (.bool false) (by simp only [execOp, Act.eval]; go_simp) rfl⟩
          | 17, hi =>
            cases (show some _ = some o from hi)
            have e58 : (f.tmps.getD 58 undef) = .bool true := depO (V := (VS10z A r q k c10 st e1 off g11 a10 hs)) hdep 12 58 (by kernel_rfl) (by kernel_rfl)
            have e62 : (f.tmps.getD 62 undef) = .bool false := depO (V := (VS10z A r q k c10 st e1 off g11 a10 hs)) hdep 16 62 (by kernel_rfl) (by kernel_rfl)
            have eg : f.tmps.getD 55 undef = .bool false := depO (V := (VS10z A r q k c10 st e1 off g11 a10 hs)) hdep 9 55 (by kernel_rfl) (by kernel_rfl)
            clear hdep hsame hi hlate hfr hkeep
            exact .inl ⟨wanted_of 9 rfl eg (by kernel_rfl), showsO_pure hsn rfl (.bool false) (by simp only [execOp, Act.eval]; go_simp) rfl⟩
          | 18, hi =>
            cases (show some _ = some o from hi)
            have e55 : (f.tmps.getD 55 undef) = .bool false := depO (V := (VS10z A r q k c10 st e1 off g11 a10 hs)) hdep 9 55 (by kernel_rfl) (by kernel_rfl)
            have e63 : (f.tmps.getD 63 undef) = .bool false := depO (V := (VS10z A r q k c10 st e1 off g11 a10 hs)) hdep 17 63 (by kernel_rfl) (by kernel_rfl)
            clear hdep hsame hi hlate hfr hkeep
            exact .inl ⟨wanted_none rfl, showsO_pure hsn rfl (.bool false) (by simp only [execOp, Act.eval]; go_simp) rfl⟩
          | 19, hi =>
            cases (show some _ = some o from hi)
            have e64 : (f.tmps.getD 64 undef) = .bool false := depO (V := (VS10z A r q k c10 st e1 off g11 a10 hs)) hdep 18 64 (by kernel_rfl) (by kernel_rfl)
            clear hdep hsame hi hlate hfr hkeep
            exact .inl ⟨wanted_none rfl, showsO_move hsn rfl _ rfl e64⟩
          | 20, hi =>
            cases (show some _ = some o from hi)
            have e8 : f.tmps.getD 8 undef = .pointer (some ⟨r, 0, none⟩) := hsame.slot 8 (fun i o h => invB2_not 8 (by kernel_rfl) h)
            have eg : f.tmps.getD 65 undef = .bool false := depO (V := (VS10z A r q k c10 st e1 off g11 a10 hs)) hdep 19 65 (by kernel_rfl) (by kernel_rfl)
            clear hdep hsame hi hlate hfr hkeep
            exact .inl ⟨wanted_of 19 rfl eg (by kernel_rfl), showsO_move hsn rfl _ rfl e8⟩
          | 21, hi =>
            cases (show some _ = some o from hi)
            have e66 : (f.tmps.getD 66 undef) = .pointer (some ⟨r, 0, none⟩) := depO (V := (VS10z A r q k c10 st e1 off g11 a10 hs)) hdep 20 66 (by kernel_rfl) (by kernel_rfl)
            have eg : f.tmps.getD 65 undef = .bool false := depO (V := (VS10z A r q k c10 st e1 off g11 a10 hs)) hdep 19 65 (by kernel_rfl) (by kernel_rfl)
            clear hdep hsame hi hlate hfr hkeep
            have c := rspan_any (R4.out.below hb6)
            exact .inl ⟨wanted_of 19 rfl eg (by kernel_rfl), showsO_call1 hsn rfl 20 #[.pointer (some ⟨r, 0, none⟩)] (by simp only [execOp, Act.eval]; go_simp) (c) (fun _ => rfl)⟩
          | 22, hi =>
            cases (show some _ = some o from hi)
            have e11 : f.tmps.getD 11 undef = .pointer (some ⟨g11, 0, none⟩) := hsame.slot 11 (fun i o h => invB2_not 11 (by kernel_rfl) h)
            have eg : f.tmps.getD 65 undef = .bool false := depO (V := (VS10z A r q k c10 st e1 off g11 a10 hs)) hdep 19 65 (by kernel_rfl) (by kernel_rfl)
            clear hdep hsame hi hlate hfr hkeep
            exact .inl ⟨wanted_of 19 rfl eg (by kernel_rfl), showsO_row hsn rfl 39 (.tmp 11) rfl g11 e11 #[.int .u64 (st : Int), .int .u64 (e1 : Int)] ((hb6.block _ (Array.getElem?_eq_some_iff.1 M0.out).1).trans M0.out) Tryd.underlying39 rfl sizeS rfl⟩
          | 23, hi =>
            cases (show some _ = some o from hi)
            have e67 : (f.tmps.getD 67 undef) = .agg #[.int .u64 (st : Int), .int .u64 (e1 : Int)] := depO (V := (VS10z A r q k c10 st e1 off g11 a10 hs)) hdep 21 67 (by kernel_rfl) (by kernel_rfl)
            have e68 : (f.tmps.getD 68 undef) = .agg #[.int .u64 (st : Int), .int .u64 (e1 : Int)] := depO (V := (VS10z A r q k c10 st e1 off g11 a10 hs)) hdep 22 68 (by kernel_rfl) (by kernel_rfl)
            have eg : f.tmps.getD 65 undef = .bool false := depO (V := (VS10z A r q k c10 st e1 off g11 a10 hs)) hdep 19 65 (by kernel_rfl) (by kernel_rfl)
            clear hdep hsame hi hlate hfr hkeep
            exact .inl ⟨wanted_of 19 rfl eg (by kernel_rfl), showsO_pure hsn rfl (.bool false) (by simp only [execOp, Act.eval]; first | (go_simp; done) | (go_simp <;> rfl)) rfl⟩
          | 24, hi =>
            cases (show some _ = some o from hi)
            have e65 : (f.tmps.getD 65 undef) = .bool false := depO (V := (VS10z A r q k c10 st e1 off g11 a10 hs)) hdep 19 65 (by kernel_rfl) (by kernel_rfl)
            have e69 : (f.tmps.getD 69 undef) = .bool false := depO (V := (VS10z A r q k c10 st e1 off g11 a10 hs)) hdep 23 69 (by kernel_rfl) (by kernel_rfl)
            clear hdep hsame hi hlate hfr hkeep
            exact .inl ⟨wanted_none rfl, showsO_pure hsn rfl (.bool false) (by simp only [execOp, Act.eval]; go_simp) rfl⟩
          | 25, hi =>
            cases (show some _ = some o from hi)
            have e70 : (f.tmps.getD 70 undef) = .bool false := depO (V := (VS10z A r q k c10 st e1 off g11 a10 hs)) hdep 24 70 (by kernel_rfl) (by kernel_rfl)
            clear hdep hsame hi hlate hfr hkeep
            exact .inl ⟨wanted_none rfl, showsO_move hsn rfl _ rfl e70⟩
          | 26, hi =>
            cases (show some _ = some o from hi)
            have e8 : f.tmps.getD 8 undef = .pointer (some ⟨r, 0, none⟩) := hsame.slot 8 (fun i o h => invB2_not 8 (by kernel_rfl) h)
            have eg : f.tmps.getD 71 undef = .bool false := depO (V := (VS10z A r q k c10 st e1 off g11 a10 hs)) hdep 25 71 (by kernel_rfl) (by kernel_rfl)
            clear hdep hsame hi hlate hfr hkeep
            exact .inl ⟨wanted_of 25 rfl eg (by kernel_rfl), showsO_move hsn rfl _ rfl e8⟩
          | 27, hi =>
            cases (show some _ = some o from hi)
            have e72 : (f.tmps.getD 72 undef) = .pointer (some ⟨r, 0, none⟩) := depO (V := (VS10z A r q k c10 st e1 off g11 a10 hs)) hdep 26 72 (by kernel_rfl) (by kernel_rfl)
            have eg : f.tmps.getD 71 undef = .bool false := depO (V := (VS10z A r q k c10 st e1 off g11 a10 hs)) hdep 25 71 (by kernel_rfl) (by kernel_rfl)
            clear hdep hsame hi hlate hfr hkeep
            have c := rhss_any _ u _ _ _ _ _ k (by rw [E1.out]; exact HK.out) hs (by rw [E1.out]; exact HHS.out) (R4.out.below hb6) (by have := KL.out; omega) 0 (Nat.zero_le _)
            exact .inl ⟨wanted_of 25 rfl eg (by kernel_rfl), showsO_call (R := fun v w' => w'.ownsRow 0 28 32 v k (hcells hs) ∧ ∀ k, v.ownBlock = some k → u.heap.size ≤ k) hsn rfl 13 #[.pointer (some ⟨r, 0, none⟩)] (by simp only [execOp, Act.eval]; go_simp) c (fun v w' h _ => ⟨h.1, fun k hk => hsn.top k (h.2 k hk)⟩)⟩
          | 28, hi =>
            cases (show some _ = some o from hi)
            have e10 : f.tmps.getD 10 undef = .slice a10 k c10 := hsame.slot 10 (fun i o h => invB2_not 10 (by kernel_rfl) h)
            have eg : f.tmps.getD 71 undef = .bool false := depO (V := (VS10z A r q k c10 st e1 off g11 a10 hs)) hdep 25 71 (by kernel_rfl) (by kernel_rfl)
            clear hdep hsame hi hlate hfr hkeep
            exact .inl ⟨wanted_of 25 rfl eg (by kernel_rfl), showsO_move hsn rfl _ rfl e10⟩
          | 29, hi =>
            cases (show some _ = some o from hi)
            have e73 : RowN own u (f.tmps.getD 73 undef) 0 28 32 k (hcells hs) := depO (V := (VS10z A r q k c10 st e1 off g11 a10 hs)) hdep 27 73 (by kernel_rfl) (by kernel_rfl)
            have e74 : (f.tmps.getD 74 undef) = .slice a10 k c10 := depO (V := (VS10z A r q k c10 st e1 off g11 a10 hs)) hdep 28 74 (by kernel_rfl) (by kernel_rfl)
            have eg : f.tmps.getD 71 undef = .bool false := depO (V := (VS10z A r q k c10 st e1 off g11 a10 hs)) hdep 25 71 (by kernel_rfl) (by kernel_rfl)
            clear hdep hsame hi hlate hfr hkeep
            obtain ⟨hr1, _⟩ := e73
            obtain ⟨ax, cx, e73, _, _, _⟩ := own_shape hr1
            rw [e73] at hr1
            have c := same_any u _ _ _ hs _ _ _ hs (hss_own hr1 S32.out KH.out) (H1.out.below hb6)
            rw [beq_self_eq_true] at c
            exact .inl ⟨wanted_of 25 rfl eg (by kernel_rfl), showsO_call1 hsn rfl 21 #[.slice ax k cx, .slice a10 k c10] (by simp only [execOp, Act.eval]; go_simp) (c) (fun _ => rfl)⟩
          | 30, hi =>
            cases (show some _ = some o from hi)
            have e75 : (f.tmps.getD 75 undef) = .bool true := depO (V := (VS10z A r q k c10 st e1 off g11 a10 hs)) hdep 29 75 (by kernel_rfl) (by kernel_rfl)
            have eg : f.tmps.getD 71 undef = .bool false := depO (V := (VS10z A r q k c10 st e1 off g11 a10 hs)) hdep 25 71 (by kernel_rfl) (by kernel_rfl)
            clear hdep hsame hi hlate hfr hkeep
            exact .inl ⟨wanted_of 25 rfl eg (by kernel_rfl), showsO_pure hsn rfl (.bool false) (by simp only [execOp, Act.eval]; go_simp) rfl⟩
          | 31, hi =>
            cases (show some _ = some o from hi)
            have e71 : (f.tmps.getD 71 undef) = .bool false := depO (V := (VS10z A r q k c10 st e1 off g11 a10 hs)) hdep 25 71 (by kernel_rfl) (by kernel_rfl)
            have e76 : (f.tmps.getD 76 undef) = .bool false := depO (V := (VS10z A r q k c10 st e1 off g11 a10 hs)) hdep 30 76 (by kernel_rfl) (by kernel_rfl)
            clear hdep hsame hi hlate hfr hkeep
            exact .inl ⟨wanted_none rfl, showsO_pure hsn rfl (.bool false) (by simp only [execOp, Act.eval]; go_simp) rfl⟩
          | n + 32, hi => exact absurd hi (by simp)
        intro fr W6 own hsame hsn hall
        have q46 : fr.tmps.getD 46 undef = .int .u64 (off : Int) := finO (V := (VS10z A r q k c10 st e1 off g11 a10 hs)) hall 0 46 rfl
        have q47 : fr.tmps.getD 47 undef = .bool false := finO (V := (VS10z A r q k c10 st e1 off g11 a10 hs)) hall 1 47 rfl
        have q48 : fr.tmps.getD 48 undef = .bool false := finO (V := (VS10z A r q k c10 st e1 off g11 a10 hs)) hall 2 48 rfl
        have q49 : fr.tmps.getD 49 undef = undef := finO (V := (VS10z A r q k c10 st e1 off g11 a10 hs)) hall 3 49 rfl
        have q50 : fr.tmps.getD 50 undef = undef := finO (V := (VS10z A r q k c10 st e1 off g11 a10 hs)) hall 4 50 rfl
        have q51 : fr.tmps.getD 51 undef = undef := finO (V := (VS10z A r q k c10 st e1 off g11 a10 hs)) hall 5 51 rfl
        have q52 : fr.tmps.getD 52 undef = undef := finO (V := (VS10z A r q k c10 st e1 off g11 a10 hs)) hall 6 52 rfl
        have q53 : fr.tmps.getD 53 undef = undef := finO (V := (VS10z A r q k c10 st e1 off g11 a10 hs)) hall 7 53 rfl
        have q54 : fr.tmps.getD 54 undef = .bool false := finO (V := (VS10z A r q k c10 st e1 off g11 a10 hs)) hall 8 54 rfl
        have q55 : fr.tmps.getD 55 undef = .bool false := finO (V := (VS10z A r q k c10 st e1 off g11 a10 hs)) hall 9 55 rfl
        have q56 : fr.tmps.getD 56 undef = .int .u64 (off : Int) := finO (V := (VS10z A r q k c10 st e1 off g11 a10 hs)) hall 10 56 rfl
        have q57 : fr.tmps.getD 57 undef = .bool true := finO (V := (VS10z A r q k c10 st e1 off g11 a10 hs)) hall 11 57 rfl
        have q58 : fr.tmps.getD 58 undef = .bool true := finO (V := (VS10z A r q k c10 st e1 off g11 a10 hs)) hall 12 58 rfl
        have q59 : fr.tmps.getD 59 undef = .pointer (some ⟨r, 0, none⟩) := finO (V := (VS10z A r q k c10 st e1 off g11 a10 hs)) hall 13 59 rfl
        have q60 : fr.tmps.getD 60 undef = .pointer (some ⟨q, 0, none⟩) := finO (V := (VS10z A r q k c10 st e1 off g11 a10 hs)) hall 14 60 rfl
        have q61 : fr.tmps.getD 61 undef = .nilIface := finO (V := (VS10z A r q k c10 st e1 off g11 a10 hs)) hall 15 61 rfl
        have q62 : fr.tmps.getD 62 undef = .bool false := finO (V := (VS10z A r q k c10 st e1 off g11 a10 hs)) hall 16 62 rfl
        have q63 : fr.tmps.getD 63 undef = .bool false := finO (V := (VS10z A r q k c10 st e1 off g11 a10 hs)) hall 17 63 rfl
        have q64 : fr.tmps.getD 64 undef = .bool false := finO (V := (VS10z A r q k c10 st e1 off g11 a10 hs)) hall 18 64 rfl
        have q65 : fr.tmps.getD 65 undef = .bool false := finO (V := (VS10z A r q k c10 st e1 off g11 a10 hs)) hall 19 65 rfl
        have q66 : fr.tmps.getD 66 undef = .pointer (some ⟨r, 0, none⟩) := finO (V := (VS10z A r q k c10 st e1 off g11 a10 hs)) hall 20 66 rfl
        have q67 : fr.tmps.getD 67 undef = .agg #[.int .u64 (st : Int), .int .u64 (e1 : Int)] := finO (V := (VS10z A r q k c10 st e1 off g11 a10 hs)) hall 21 67 rfl
        have q68 : fr.tmps.getD 68 undef = .agg #[.int .u64 (st : Int), .int .u64 (e1 : Int)] := finO (V := (VS10z A r q k c10 st e1 off g11 a10 hs)) hall 22 68 rfl
        have q69 : fr.tmps.getD 69 undef = .bool false := finO (V := (VS10z A r q k c10 st e1 off g11 a10 hs)) hall 23 69 rfl
        have q70 : fr.tmps.getD 70 undef = .bool false := finO (V := (VS10z A r q k c10 st e1 off g11 a10 hs)) hall 24 70 rfl
        have q71 : fr.tmps.getD 71 undef = .bool false := finO (V := (VS10z A r q k c10 st e1 off g11 a10 hs)) hall 25 71 rfl
        have q72 : fr.tmps.getD 72 undef = .pointer (some ⟨r, 0, none⟩) := finO (V := (VS10z A r q k c10 st e1 off g11 a10 hs)) hall 26 72 rfl
        have m73 := finO (V := (VS10z A r q k c10 st e1 off g11 a10 hs)) hall 27 73 rfl
        obtain ⟨r73, q73⟩ : ∃ r, fr.tmps.getD 73 undef = r := ⟨_, rfl⟩
        rw [q73] at m73
        have q74 : fr.tmps.getD 74 undef = .slice a10 k c10 := finO (V := (VS10z A r q k c10 st e1 off g11 a10 hs)) hall 28 74 rfl
        have q75 : fr.tmps.getD 75 undef = .bool true := finO (V := (VS10z A r q k c10 st e1 off g11 a10 hs)) hall 29 75 rfl
        have q76 : fr.tmps.getD 76 undef = .bool false := finO (V := (VS10z A r q k c10 st e1 off g11 a10 hs)) hall 30 76 rfl
        have q77 : fr.tmps.getD 77 undef = .bool false := finO (V := (VS10z A r q k c10 st e1 off g11 a10 hs)) hall 31 77 rfl
        obtain rfl := frame_eq hsame [(46, .int .u64 (off : Int)), (47, .bool false), (48, .bool false), (49, undef), (50, undef), (51, undef), (52, undef), (53, undef), (54, .bool false), (55, .bool false), (56, .int .u64 (off : Int)), (57, .bool true), (58, .bool true), (59, .pointer (some ⟨r, 0, none⟩)), (60, .pointer (some ⟨q, 0, none⟩)), (61, .nilIface), (62, .bool false), (63, .bool false), (64, .bool false), (65, .bool false), (66, .pointer (some ⟨r, 0, none⟩)), (67, .agg #[.int .u64 (st : Int), .int .u64 (e1 : Int)]), (68, .agg #[.int .u64 (st : Int), .int .u64 (e1 : Int)]), (69, .bool false), (70, .bool false), (71, .bool false), (72, .pointer (some ⟨r, 0, none⟩)), (73, r73), (74, .slice a10 k c10), (75, .bool true), (76, .bool false), (77, .bool false)] (by kernel_rfl) ⟨q46, q47, q48, q49, q50, q51, q52, q53, q54, q55, q56, q57, q58, q59, q60, q61, q62, q63, q64, q65, q66, q67, q68, q69, q70, q71, q72, q73, q74, q75, q76, q77, trivial⟩
        clear hall hsame q46 q47 q48 q49 q50 q51 q52 q53 q54 q55 q56 q57 q58 q59 q60 q61 q62 q63 q64 q65 q66 q67 q68 q69 q70 q71 q72 q73 q74 q75 q76 q77
        simp only [List.foldl, List.setIfInBounds_toArray, List.set_cons_succ, List.set_cons_zero]
        have hb := hsn.below (B := W5.heap.size) (fun _ _ => rfl) (Nat.le_refl _)
        have HB := Bx.mk hb
        clear hb hsn m73
        go_wp2_with fail
        go_meet
        case rel => exact ⟨rfl, HB.out⟩
      · have EO := Bx.mk hoff
        have CJ : Bx (∀ u, Below W5.heap.size W5 u → Calls Tryd.prog 18 #[.pointer (some ⟨r, 0, none⟩), .pointer (some ⟨q, 0, none⟩)] u fun e w' => e = .returned (.iface 129 (.pointer (some (A 1)))) ∧ Below u.heap.size u w') := ⟨fun u hu => rjoin_arg A _ u r st e1 _ s (R4.out.below hu) _ q D D _ _ (Q2.out.below hu) (HE4.out.below hu).hs.err (by have := HD.out; have := E1.out; have := SL.out; have := HO.out; have := EO.out; omega)⟩
        refine wp_region_own8 (n := 145) VS10nmk (fun _ => none) (VS10n A r q k c10 st e1 off g11 a10 hs) (by kernel_rfl) (by kernel_rfl) rfl (fun _ _ => rfl) (fun j i hj _ => by cases hj) ?_ ?_ ?_
        · exact fun oi oj v own w own' w' hij _ h r1 => VS10n_mono A r q k c10 st e1 off g11 a10 hs oi oj v own w own' w' hij h r1
        · intro oi o hi f u own hsame hsn hfr hlate hkeep8 hdep
          have hkeep := hkeep8 _ (.inl rfl)
          have hb6 := hsn.below (B := W5.heap.size) (fun _ _ => rfl) (Nat.le_refl _)
          match oi, hi with
          | 0, hi =>
            cases (show some _ = some o from hi)
            have e2 : f.tmps.getD 2 undef = .int .u64 (off : Int) := hsame.slot 2 (fun i o h => invB2_not 2 (by kernel_rfl) h)
            clear hdep hsame hi hlate hfr hkeep
            exact .inl ⟨wanted_none rfl, showsO_move hsn rfl _ rfl e2⟩
          | 1, hi =>
            cases (show some _ = some o from hi)
            have e46 : (f.tmps.getD 46 undef) = .int .u64 (off : Int) := depO (V := (VS10n A r q k c10 st e1 off g11 a10 hs)) hdep 0 46 (by kernel_rfl) (by kernel_rfl)
            clear hdep hsame hi hlate hfr hkeep
            exact .inl ⟨wanted_none rfl, showsO_pure hsn rfl (.bool true) (by simp only [execOp, Act.eval]; first | (go_simp; done) | (go_simp; rfl) | (go_simp; have := EO.out; first | omega | (simp; omega))) rfl⟩
          | 2, hi =>
            cases (show some _ = some o from hi)
            have e47 : (f.tmps.getD 47 undef) = .bool true := depO (V := (VS10n A r q k c10 st e1 off g11 a10 hs)) hdep 1 47 (by kernel_rfl) (by kernel_rfl)
            clear hdep hsame hi hlate hfr hkeep
            exact .inl ⟨wanted_none rfl, showsO_move hsn rfl _ rfl e47⟩
          | 3, hi =>
            cases (show some _ = some o from hi)
            have e8 : f.tmps.getD 8 undef = .pointer (some ⟨r, 0, none⟩) := hsame.slot 8 (fun i o h => invB2_not 8 (by kernel_rfl) h)
            have eg : f.tmps.getD 48 undef = .bool true := depO (V := (VS10n A r q k c10 st e1 off g11 a10 hs)) hdep 2 48 (by kernel_rfl) (by kernel_rfl)
            clear hdep hsame hi hlate hfr hkeep
            exact .inl ⟨wanted_of 2 rfl eg (by kernel_rfl), showsO_move hsn rfl _ rfl e8⟩
          | 4, hi =>
            cases (show some _ = some o from hi)
            have e9 : f.tmps.getD 9 undef = .pointer (some ⟨q, 0, none⟩) := hsame.slot 9 (fun i o h => invB2_not 9 (by kernel_rfl) h)
            have eg : f.tmps.getD 48 undef = .bool true := depO (V := (VS10n A r q k c10 st e1 off g11 a10 hs)) hdep 2 48 (by kernel_rfl) (by kernel_rfl)
            clear hdep hsame hi hlate hfr hkeep
            exact .inl ⟨wanted_of 2 rfl eg (by kernel_rfl), showsO_move hsn rfl _ rfl e9⟩
          | 5, hi =>
            cases (show some _ = some o from hi)
            have e49 : (f.tmps.getD 49 undef) = .pointer (some ⟨r, 0, none⟩) := depO (V := (VS10n A r q k c10 st e1 off g11 a10 hs)) hdep 3 49 (by kernel_rfl) (by kernel_rfl)
            have e50 : (f.tmps.getD 50 undef) = .pointer (some ⟨q, 0, none⟩) := depO (V := (VS10n A r q k c10 st e1 off g11 a10 hs)) hdep 4 50 (by kernel_rfl) (by kernel_rfl)
            have eg : f.tmps.getD 48 undef = .bool true := depO (V := (VS10n A r q k c10 st e1 off g11 a10 hs)) hdep 2 48 (by kernel_rfl) (by kernel_rfl)
            clear hdep hsame hi hlate hfr hkeep
            have c := CJ.out u hb6
            exact .inl ⟨wanted_of 2 rfl eg (by kernel_rfl), showsO_call1 hsn rfl 18 #[.pointer (some ⟨r, 0, none⟩), .pointer (some ⟨q, 0, none⟩)] (by simp only [execOp, Act.eval]; go_simp) (c) (fun _ => rfl)⟩
          | 6, hi =>
            cases (show some _ = some o from hi)
            have e51 : (f.tmps.getD 51 undef) = .iface 129 (.pointer (some (A 1))) := depO (V := (VS10n A r q k c10 st e1 off g11 a10 hs)) hdep 5 51 (by kernel_rfl) (by kernel_rfl)
            have eg : f.tmps.getD 48 undef = .bool true := depO (V := (VS10n A r q k c10 st e1 off g11 a10 hs)) hdep 2 48 (by kernel_rfl) (by kernel_rfl)
            clear hdep hsame hi hlate hfr hkeep
            have c := isE_any ((HE4.out.below hb6).hs.err) (ErrV.plain 1 (by decide)) 2
            exact .inl ⟨wanted_of 2 rfl eg (by kernel_rfl), showsO_call1 hsn rfl 22 #[.iface 129 (.pointer (some (A 1))), .int .i64 2] (by simp only [execOp, Act.eval]; go_simp) (c) (fun _ => rfl)⟩
          | 7, hi =>
            cases (show some _ = some o from hi)
            have e52 : (f.tmps.getD 52 undef) = .bool true := depO (V := (VS10n A r q k c10 st e1 off g11 a10 hs)) hdep 6 52 (by kernel_rfl) (by kernel_rfl)
            have eg : f.tmps.getD 48 undef = .bool true := depO (V := (VS10n A r q k c10 st e1 off g11 a10 hs)) hdep 2 48 (by kernel_rfl) (by kernel_rfl)
            clear hdep hsame hi hlate hfr hkeep
            exact .inl ⟨wanted_of 2 rfl eg (by kernel_rfl), showsO_pure hsn rfl (.bool false) (by simp only [execOp, Act.eval]; go_simp) rfl⟩
          | 8, hi =>
            cases (show some _ = some o from hi)
            have e48 : (f.tmps.getD 48 undef) = .bool true := depO (V := (VS10n A r q k c10 st e1 off g11 a10 hs)) hdep 2 48 (by kernel_rfl) (by kernel_rfl)
            have e53 : (f.tmps.getD 53 undef) = .bool false := depO (V := (VS10n A r q k c10 st e1 off g11 a10 hs)) hdep 7 53 (by kernel_rfl) (by kernel_rfl)
            clear hdep hsame hi hlate hfr hkeep
            exact .inl ⟨wanted_none rfl, showsO_pure hsn rfl (.bool false) (by simp only [execOp, Act.eval]; go_simp) rfl⟩
          | 9, hi =>
            cases (show some _ = some o from hi)
            have e54 : (f.tmps.getD 54 undef) = .bool false := depO (V := (VS10n A r q k c10 st e1 off g11 a10 hs)) hdep 8 54 (by kernel_rfl) (by kernel_rfl)
            clear hdep hsame hi hlate hfr hkeep
            exact .inl ⟨wanted_none rfl, showsO_move hsn rfl _ rfl e54⟩
          | 10, hi =>
            cases (show some _ = some o from hi)
            have e2 : f.tmps.getD 2 undef = .int .u64 (off : Int) := hsame.slot 2 (fun i o h => invB2_not 2 (by kernel_rfl) h)
            have eg : f.tmps.getD 55 undef = .bool false := depO (V := (VS10n A r q k c10 st e1 off g11 a10 hs)) hdep 9 55 (by kernel_rfl) (by kernel_rfl)
            clear hdep hsame hi hlate hfr hkeep
            exact .inl ⟨wanted_of 9 rfl eg (by kernel_rfl), showsO_move hsn rfl _ rfl e2⟩
          | 11, hi =>
            cases (show some _ = some o from hi)
            have e56 : (f.tmps.getD 56 undef) = .int .u64 (off : Int) := depO (V := (VS10n A r q k c10 st e1 off g11 a10 hs)) hdep 10 56 (by kernel_rfl) (by kernel_rfl)
            have eg : f.tmps.getD 55 undef = .bool false := depO (V := (VS10n A r q k c10 st e1 off g11 a10 hs)) hdep 9 55 (by kernel_rfl) (by kernel_rfl)
            clear hdep hsame hi hlate hfr hkeep
            exact .inl ⟨wanted_of 9 rfl eg (by kernel_rfl), showsO_pure hsn rfl (.bool false) (by simp only [execOp, Act.eval]; first | (go_simp; done) | (go_simp; rfl) | (go_simp; have := EO.out; first | omega | (simp; omega))) rfl⟩
          | 12, hi =>
            cases (show some _ = some o from hi)
            have e57 : (f.tmps.getD 57 undef) = .bool false := depO (V := (VS10n A r q k c10 st e1 off g11 a10 hs)) hdep 11 57 (by kernel_rfl) (by kernel_rfl)
            have eg : f.tmps.getD 55 undef = .bool false := depO (V := (VS10n A r q k c10 st e1 off g11 a10 hs)) hdep 9 55 (by kernel_rfl) (by kernel_rfl)
            clear hdep hsame hi hlate hfr hkeep
            exact .inl ⟨wanted_of 9 rfl eg (by kernel_rfl), showsO_move hsn rfl _ rfl e57⟩
          | 13, hi =>
            cases (show some _ = some o from hi)
            have e8 : f.tmps.getD 8 undef = .pointer (some ⟨r, 0, none⟩) := hsame.slot 8 (fun i o h => invB2_not 8 (by kernel_rfl) h)
            have eg : f.tmps.getD 58 undef = .bool false := depO (V := (VS10n A r q k c10 st e1 off g11 a10 hs)) hdep 12 58 (by kernel_rfl) (by kernel_rfl)
            clear hdep hsame hi hlate hfr hkeep
            exact .inr ⟨unwanted_of 12 rfl eg (by kernel_rfl) (by decide), rfl⟩
          | 14, hi =>
            cases (show some _ = some o from hi)
            have e9 : f.tmps.getD 9 undef = .pointer (some ⟨q, 0, none⟩) := hsame.slot 9 (fun i o h => invB2_not 9 (by kernel_rfl) h)
            have eg : f.tmps.getD 58 undef = .bool false := depO (V := (VS10n A r q k c10 st e1 off g11 a10 hs)) hdep 12 58 (by kernel_rfl) (by kernel_rfl)
            clear hdep hsame hi hlate hfr hkeep
            exact .inr ⟨unwanted_of 12 rfl eg (by kernel_rfl) (by decide), rfl⟩
          | 15, hi =>
            cases (show some _ = some o from hi)
            have e59 : (f.tmps.getD 59 undef) = undef := depO (V := (VS10n A r q k c10 st e1 off g11 a10 hs)) hdep 13 59 (by kernel_rfl) (by kernel_rfl)
            have e60 : (f.tmps.getD 60 undef) = undef := depO (V := (VS10n A r q k c10 st e1 off g11 a10 hs)) hdep 14 60 (by kernel_rfl) (by kernel_rfl)
            have eg : f.tmps.getD 58 undef = .bool false := depO (V := (VS10n A r q k c10 st e1 off g11 a10 hs)) hdep 12 58 (by kernel_rfl) (by kernel_rfl)
            clear hdep hsame hi hlate hfr hkeep
            exact .inr ⟨unwanted_of 12 rfl eg (by kernel_rfl) (by decide), rfl⟩
          | 16, hi =>
            cases (show some _ = some o from hi)
            have e61 : (f.tmps.getD 61 undef) = undef := depO (V := (VS10n A r q k c10 st e1 off g11 a10 hs)) hdep 15 61 (by kernel_rfl) (by kernel_rfl)
            have eg : f.tmps.getD 58 undef = .bool false := depO (V := (VS10n A r q k c10 st e1 off g11 a10 hs)) hdep 12 58 (by kernel_rfl) (by kernel_rfl)
            clear hdep hsame hi hlate hfr hkeep
            exact .inr ⟨unwanted_of 12 rfl eg (by kernel_rfl) (by decide), rfl⟩
          | 17, hi =>
            cases (show some _ = some o from hi)
            have e58 : (f.tmps.getD 58 undef) = .bool false := depO (V := (VS10n A r q k c10 st e1 off g11 a10 hs)) hdep 12 58 (by kernel_rfl) (by kernel_rfl)
            have e62 : (f.tmps.getD 62 undef) = undef := depO (V := (VS10n A r q k c10 st e1 off g11 a10 hs)) hdep 16 62 (by kernel_rfl) (by kernel_rfl)
            have eg : f.tmps.getD 55 undef = .bool false := depO (V := (VS10n A r q k c10 st e1 off g11 a10 hs)) hdep 9 55 (by kernel_rfl) (by kernel_rfl)
            clear hdep hsame hi hlate hfr hkeep
            exact .inl ⟨wanted_of 9 rfl eg (by kernel_rfl), showsO_pure hsn rfl (.bool false) (by simp only [execOp, Act.eval]; go_simp) rfl⟩
          | 18, hi =>
            cases (show some _ = some o from hi)
            have e55 : (f.tmps.getD 55 undef) = .bool false := depO (V := (VS10n A r q k c10 st e1 off g11 a10 hs)) hdep 9 55 (by kernel_rfl) (by kernel_rfl)
            have e63 : (f.tmps.getD 63 undef) = .bool false := depO (V := (VS10n A r q k c10 st e1 off g11 a10 hs)) hdep 17 63 (by kernel_rfl) (by kernel_rfl)
            clear hdep hsame hi hlate hfr hkeep
            exact .inl ⟨wanted_none rfl, showsO_pure hsn rfl (.bool false) (by simp only [execOp, Act.eval]; go_simp) rfl⟩
          | 19, hi =>
            cases (show some _ = some o from hi)
            have e64 : (f.tmps.getD 64 undef) = .bool false := depO (V := (VS10n A r q k c10 st e1 off g11 a10 hs)) hdep 18 64 (by kernel_rfl) (by kernel_rfl)
            clear hdep hsame hi hlate hfr hkeep
            exact .inl ⟨wanted_none rfl, showsO_move hsn rfl _ rfl e64⟩
          | 20, hi =>
            cases (show some _ = some o from hi)
            have e8 : f.tmps.getD 8 undef = .pointer (some ⟨r, 0, none⟩) := hsame.slot 8 (fun i o h => invB2_not 8 (by kernel_rfl) h)
            have eg : f.tmps.getD 65 undef = .bool false := depO (V := (VS10n A r q k c10 st e1 off g11 a10 hs)) hdep 19 65 (by kernel_rfl) (by kernel_rfl)
            clear hdep hsame hi hlate hfr hkeep
            exact .inl ⟨wanted_of 19 rfl eg (by kernel_rfl), showsO_move hsn rfl _ rfl e8⟩
          | 21, hi =>
            cases (show some _ = some o from hi)
            have e66 : (f.tmps.getD 66 undef) = .pointer (some ⟨r, 0, none⟩) := depO (V := (VS10n A r q k c10 st e1 off g11 a10 hs)) hdep 20 66 (by kernel_rfl) (by kernel_rfl)
            have eg : f.tmps.getD 65 undef = .bool false := depO (V := (VS10n A r q k c10 st e1 off g11 a10 hs)) hdep 19 65 (by kernel_rfl) (by kernel_rfl)
            clear hdep hsame hi hlate hfr hkeep
            have c := rspan_any (R4.out.below hb6)
            exact .inl ⟨wanted_of 19 rfl eg (by kernel_rfl), showsO_call1 hsn rfl 20 #[.pointer (some ⟨r, 0, none⟩)] (by simp only [execOp, Act.eval]; go_simp) (c) (fun _ => rfl)⟩
          | 22, hi =>
            cases (show some _ = some o from hi)
            have e11 : f.tmps.getD 11 undef = .pointer (some ⟨g11, 0, none⟩) := hsame.slot 11 (fun i o h => invB2_not 11 (by kernel_rfl) h)
            have eg : f.tmps.getD 65 undef = .bool false := depO (V := (VS10n A r q k c10 st e1 off g11 a10 hs)) hdep 19 65 (by kernel_rfl) (by kernel_rfl)
            clear hdep hsame hi hlate hfr hkeep
            exact .inl ⟨wanted_of 19 rfl eg (by kernel_rfl), showsO_row hsn rfl 39 (.tmp 11) rfl g11 e11 #[.int .u64 (st : Int), .int .u64 (e1 : Int)] ((hb6.block _ (Array.getElem?_eq_some_iff.1 M0.out).1).trans M0.out) Tryd.underlying39 rfl sizeS rfl⟩
          | 23, hi =>
            cases (show some _ = some o from hi)
            have e67 : (f.tmps.getD 67 undef) = .agg #[.int .u64 (st : Int), .int .u64 (e1 : Int)] := depO (V := (VS10n A r q k c10 st e1 off g11 a10 hs)) hdep 21 67 (by kernel_rfl) (by kernel_rfl)
            have e68 : (f.tmps.getD 68 undef) = .agg #[.int .u64 (st : Int), .int .u64 (e1 : Int)] := depO (V := (VS10n A r q k c10 st e1 off g11 a10 hs)) hdep 22 68 (by kernel_rfl) (by kernel_rfl)
            have eg : f.tmps.getD 65 undef = .bool false := depO (V := (VS10n A r q k c10 st e1 off g11 a10 hs)) hdep 19 65 (by kernel_rfl) (by kernel_rfl)
            clear hdep hsame hi hlate hfr hkeep
            exact .inl ⟨wanted_of 19 rfl eg (by kernel_rfl), showsO_pure hsn rfl (.bool false) (by simp only [execOp, Act.eval]; first | (go_simp; done) | (go_simp <;> rfl)) rfl⟩
          | 24, hi =>
            cases (show some _ = some o from hi)
            have e65 : (f.tmps.getD 65 undef) = .bool false := depO (V := (VS10n A r q k c10 st e1 off g11 a10 hs)) hdep 19 65 (by kernel_rfl) (by kernel_rfl)
            have e69 : (f.tmps.getD 69 undef) = .bool false := depO (V := (VS10n A r q k c10 st e1 off g11 a10 hs)) hdep 23 69 (by kernel_rfl) (by kernel_rfl)
            clear hdep hsame hi hlate hfr hkeep
            exact .inl ⟨wanted_none rfl, showsO_pure hsn rfl (.bool false) (by simp only [execOp, Act.eval]; go_simp) rfl⟩
          | 25, hi =>
            cases (show some _ = some o from hi)
            have e70 : (f.tmps.getD 70 undef) = .bool false := depO (V := (VS10n A r q k c10 st e1 off g11 a10 hs)) hdep 24 70 (by kernel_rfl) (by kernel_rfl)
            clear hdep hsame hi hlate hfr hkeep
            exact .inl ⟨wanted_none rfl, showsO_move hsn rfl _ rfl e70⟩
          | 26, hi =>
            cases (show some _ = some o from hi)
            have e8 : f.tmps.getD 8 undef = .pointer (some ⟨r, 0, none⟩) := hsame.slot 8 (fun i o h => invB2_not 8 (by kernel_rfl) h)
            have eg : f.tmps.getD 71 undef = .bool false := depO (V := (VS10n A r q k c10 st e1 off g11 a10 hs)) hdep 25 71 (by kernel_rfl) (by kernel_rfl)
            clear hdep hsame hi hlate hfr hkeep
            exact .inl ⟨wanted_of 25 rfl eg (by kernel_rfl), showsO_move hsn rfl _ rfl e8⟩
          | 27, hi =>
            cases (show some _ = some o from hi)
            have e72 : (f.tmps.getD 72 undef) = .pointer (some ⟨r, 0, none⟩) := depO (V := (VS10n A r q k c10 st e1 off g11 a10 hs)) hdep 26 72 (by kernel_rfl) (by kernel_rfl)
            have eg : f.tmps.getD 71 undef = .bool false := depO (V := (VS10n A r q k c10 st e1 off g11 a10 hs)) hdep 25 71 (by kernel_rfl) (by kernel_rfl)
            clear hdep hsame hi hlate hfr hkeep
            have c := rhss_any _ u _ _ _ _ _ k (by rw [E1.out]; exact HK.out) hs (by rw [E1.out]; exact HHS.out) (R4.out.below hb6) (by have := KL.out; omega) 0 (Nat.zero_le _)
            exact .inl ⟨wanted_of 25 rfl eg (by kernel_rfl), showsO_call (R := fun v w' => w'.ownsRow 0 28 32 v k (hcells hs) ∧ ∀ k, v.ownBlock = some k → u.heap.size ≤ k) hsn rfl 13 #[.pointer (some ⟨r, 0, none⟩)] (by simp only [execOp, Act.eval]; go_simp) c (fun v w' h _ => ⟨h.1, fun k hk => hsn.top k (h.2 k hk)⟩)⟩
          | 28, hi =>
            cases (show some _ = some o from hi)
            have e10 : f.tmps.getD 10 undef = .slice a10 k c10 := hsame.slot 10 (fun i o h => invB2_not 10 (by kernel_rfl) h)
            have eg : f.tmps.getD 71 undef = .bool false := depO (V := (VS10n A r q k c10 st e1 off g11 a10 hs)) hdep 25 71 (by kernel_rfl) (by kernel_rfl)
            clear hdep hsame hi hlate hfr hkeep
            exact .inl ⟨wanted_of 25 rfl eg (by kernel_rfl), showsO_move hsn rfl _ rfl e10⟩
          | 29, hi =>
            cases (show some _ = some o from hi)
            have e73 : RowN own u (f.tmps.getD 73 undef) 0 28 32 k (hcells hs) := depO (V := (VS10n A r q k c10 st e1 off g11 a10 hs)) hdep 27 73 (by kernel_rfl) (by kernel_rfl)
            have e74 : (f.tmps.getD 74 undef) = .slice a10 k c10 := depO (V := (VS10n A r q k c10 st e1 off g11 a10 hs)) hdep 28 74 (by kernel_rfl) (by kernel_rfl)
            have eg : f.tmps.getD 71 undef = .bool false := depO (V := (VS10n A r q k c10 st e1 off g11 a10 hs)) hdep 25 71 (by kernel_rfl) (by kernel_rfl)
            clear hdep hsame hi hlate hfr hkeep
            obtain ⟨hr1, _⟩ := e73
            obtain ⟨ax, cx, e73, _, _, _⟩ := own_shape hr1
            rw [e73] at hr1
            have c := same_any u _ _ _ hs _ _ _ hs (hss_own hr1 S32.out KH.out) (H1.out.below hb6)
            rw [beq_self_eq_true] at c
            exact .inl ⟨wanted_of 25 rfl eg (by kernel_rfl), showsO_call1 hsn rfl 21 #[.slice ax k cx, .slice a10 k c10] (by simp only [execOp, Act.eval]; go_simp) (c) (fun _ => rfl)⟩
          | 30, hi =>
            cases (show some _ = some o from hi)
            have e75 : (f.tmps.getD 75 undef) = .bool true := depO (V := (VS10n A r q k c10 st e1 off g11 a10 hs)) hdep 29 75 (by kernel_rfl) (by kernel_rfl)
            have eg : f.tmps.getD 71 undef = .bool false := depO (V := (VS10n A r q k c10 st e1 off g11 a10 hs)) hdep 25 71 (by kernel_rfl) (by kernel_rfl)
            clear hdep hsame hi hlate hfr hkeep
            exact .inl ⟨wanted_of 25 rfl eg (by kernel_rfl), showsO_pure hsn rfl (.bool false) (by simp only [execOp, Act.eval]; go_simp) rfl⟩
          | 31, hi =>
            cases (show some _ = some o from hi)
            have e71 : (f.tmps.getD 71 undef) = .bool false := depO (V := (VS10n A r q k c10 st e1 off g11 a10 hs)) hdep 25 71 (by kernel_rfl) (by kernel_rfl)
            have e76 : (f.tmps.getD 76 undef) = .bool false := depO (V := (VS10n A r q k c10 st e1 off g11 a10 hs)) hdep 30 76 (by kernel_rfl) (by kernel_rfl)
            clear hdep hsame hi hlate hfr hkeep
            exact .inl ⟨wanted_none rfl, showsO_pure hsn rfl (.bool false) (by simp only [execOp, Act.eval]; go_simp) rfl⟩
          | n + 32, hi => exact absurd hi (by simp)
        intro fr W6 own hsame hsn hall
        have q46 : fr.tmps.getD 46 undef = .int .u64 (off : Int) := finO (V := (VS10n A r q k c10 st e1 off g11 a10 hs)) hall 0 46 rfl
        have q47 : fr.tmps.getD 47 undef = .bool true := finO (V := (VS10n A r q k c10 st e1 off g11 a10 hs)) hall 1 47 rfl
        have q48 : fr.tmps.getD 48 undef = .bool true := finO (V := (VS10n A r q k c10 st e1 off g11 a10 hs)) hall 2 48 rfl
        have q49 : fr.tmps.getD 49 undef = .pointer (some ⟨r, 0, none⟩) := finO (V := (VS10n A r q k c10 st e1 off g11 a10 hs)) hall 3 49 rfl
        have q50 : fr.tmps.getD 50 undef = .pointer (some ⟨q, 0, none⟩) := finO (V := (VS10n A r q k c10 st e1 off g11 a10 hs)) hall 4 50 rfl
        have q51 : fr.tmps.getD 51 undef = .iface 129 (.pointer (some (A 1))) := finO (V := (VS10n A r q k c10 st e1 off g11 a10 hs)) hall 5 51 rfl
        have q52 : fr.tmps.getD 52 undef = .bool true := finO (V := (VS10n A r q k c10 st e1 off g11 a10 hs)) hall 6 52 rfl
        have q53 : fr.tmps.getD 53 undef = .bool false := finO (V := (VS10n A r q k c10 st e1 off g11 a10 hs)) hall 7 53 rfl
        have q54 : fr.tmps.getD 54 undef = .bool false := finO (V := (VS10n A r q k c10 st e1 off g11 a10 hs)) hall 8 54 rfl
        have q55 : fr.tmps.getD 55 undef = .bool false := finO (V := (VS10n A r q k c10 st e1 off g11 a10 hs)) hall 9 55 rfl
        have q56 : fr.tmps.getD 56 undef = .int .u64 (off : Int) := finO (V := (VS10n A r q k c10 st e1 off g11 a10 hs)) hall 10 56 rfl
        have q57 : fr.tmps.getD 57 undef = .bool false := finO (V := (VS10n A r q k c10 st e1 off g11 a10 hs)) hall 11 57 rfl
        have q58 : fr.tmps.getD 58 undef = .bool false := finO (V := (VS10n A r q k c10 st e1 off g11 a10 hs)) hall 12 58 rfl
        have q59 : fr.tmps.getD 59 undef = undef := finO (V := (VS10n A r q k c10 st e1 off g11 a10 hs)) hall 13 59 rfl
        have q60 : fr.tmps.getD 60 undef = undef := finO (V := (VS10n A r q k c10 st e1 off g11 a10 hs)) hall 14 60 rfl
        have q61 : fr.tmps.getD 61 undef = undef := finO (V := (VS10n A r q k c10 st e1 off g11 a10 hs)) hall 15 61 rfl
        have q62 : fr.tmps.getD 62 undef = undef := finO (V := (VS10n A r q k c10 st e1 off g11 a10 hs)) hall 16 62 rfl
        have q63 : fr.tmps.getD 63 undef = .bool false := finO (V := (VS10n A r q k c10 st e1 off g11 a10 hs)) hall 17 63 rfl
        have q64 : fr.tmps.getD 64 undef = .bool false := finO (V := (VS10n A r q k c10 st e1 off g11 a10 hs)) hall 18 64 rfl
        have q65 : fr.tmps.getD 65 undef = .bool false := finO (V := (VS10n A r q k c10 st e1 off g11 a10 hs)) hall 19 65 rfl
        have q66 : fr.tmps.getD 66 undef = .pointer (some ⟨r, 0, none⟩) := finO (V := (VS10n A r q k c10 st e1 off g11 a10 hs)) hall 20 66 rfl
        have q67 : fr.tmps.getD 67 undef = .agg #[.int .u64 (st : Int), .int .u64 (e1 : Int)] := finO (V := (VS10n A r q k c10 st e1 off g11 a10 hs)) hall 21 67 rfl
        have q68 : fr.tmps.getD 68 undef = .agg #[.int .u64 (st : Int), .int .u64 (e1 : Int)] := finO (V := (VS10n A r q k c10 st e1 off g11 a10 hs)) hall 22 68 rfl
        have q69 : fr.tmps.getD 69 undef = .bool false := finO (V := (VS10n A r q k c10 st e1 off g11 a10 hs)) hall 23 69 rfl
        have q70 : fr.tmps.getD 70 undef = .bool false := finO (V := (VS10n A r q k c10 st e1 off g11 a10 hs)) hall 24 70 rfl
        have q71 : fr.tmps.getD 71 undef = .bool false := finO (V := (VS10n A r q k c10 st e1 off g11 a10 hs)) hall 25 71 rfl
        have q72 : fr.tmps.getD 72 undef = .pointer (some ⟨r, 0, none⟩) := finO (V := (VS10n A r q k c10 st e1 off g11 a10 hs)) hall 26 72 rfl
        have m73 := finO (V := (VS10n A r q k c10 st e1 off g11 a10 hs)) hall 27 73 rfl
        obtain ⟨r73, q73⟩ : ∃ r, fr.tmps.getD 73 undef = r := ⟨_, rfl⟩
        rw [q73] at m73
        have q74 : fr.tmps.getD 74 undef = .slice a10 k c10 := finO (V := (VS10n A r q k c10 st e1 off g11 a10 hs)) hall 28 74 rfl
        have q75 : fr.tmps.getD 75 undef = .bool true := finO (V := (VS10n A r q k c10 st e1 off g11 a10 hs)) hall 29 75 rfl
        have q76 : fr.tmps.getD 76 undef = .bool false := finO (V := (VS10n A r q k c10 st e1 off g11 a10 hs)) hall 30 76 rfl
        have q77 : fr.tmps.getD 77 undef = .bool false := finO (V := (VS10n A r q k c10 st e1 off g11 a10 hs)) hall 31 77 rfl
        obtain rfl := frame_eq hsame [(46, .int .u64 (off : Int)), (47, .bool true), (48, .bool true), (49, .pointer (some ⟨r, 0, none⟩)), (50, .pointer (some ⟨q, 0, none⟩)), (51, .iface 129 (.pointer (some (A 1)))), (52, .bool true), (53, .bool false), (54, .bool false), (55, .bool false), (56, .int .u64 (off : Int)), (57, .bool false), (58, .bool false), (59, undef), (60, undef), (61, undef), (62, undef), (63, .bool false), (64, .bool false), (65, .bool false), (66, .pointer (some ⟨r, 0, none⟩)), (67, .agg #[.int .u64 (st : Int), .int .u64 (e1 : Int)]), (68, .agg #[.int .u64 (st : Int), .int .u64 (e1 : Int)]), (69, .bool false), (70, .bool false), (71, .bool false), (72, .pointer (some ⟨r, 0, none⟩)), (73, r73), (74, .slice a10 k c10), (75, .bool true), (76, .bool false), (77, .bool false)] (by kernel_rfl) ⟨q46, q47, q48, q49, q50, q51, q52, q53, q54, q55, q56, q57, q58, q59, q60, q61, q62, q63, q64, q65, q66, q67, q68, q69, q70, q71, q72, q73, q74, q75, q76, q77, trivial⟩
        clear hall hsame q46 q47 q48 q49 q50 q51 q52 q53 q54 q55 q56 q57 q58 q59 q60 q61 q62 q63 q64 q65 q66 q67 q68 q69 q70 q71 q72 q73 q74 q75 q76 q77
        simp only [List.foldl, List.setIfInBounds_toArray, List.set_cons_succ, List.set_cons_zero]
        have hb := hsn.below (B := W5.heap.size) (fun _ _ => rfl) (Nat.le_refl _)
        have HB := Bx.mk hb
        clear hb hsn m73
        go_wp2_with fail
        go_meet
        case rel => exact ⟨rfl, HB.out⟩
    case rest =>
    obtain ⟨rfl, hb⟩ := hcut
    have K5 := Bx.mk (K4.out.trans (hb.mono K4.out.size)); have HE5 := Bx.mk (HE4.out.below hb); have R5 := Bx.mk (R4.out.below hb); have Q3 := Bx.mk (Q2.out.below hb); have H2 := Bx.mk (H1.out.below hb); have O2 := Bx.mk (own_keep O1.out (Keep.of_below hb (fun _ => False)) (fun _ _ h => h)); have M1 := Bx.mk ((hb.block _ (Array.getElem?_eq_some_iff.1 M0.out).1).trans M0.out)
    clear hb K4 HE4 R4 Q2 H1 O1 M0
    go_upto_region 12 with (fail)
    obtain ⟨i0, hi0, hz0, hz1, hz2⟩ := info_parts infoHC
    have RI := Bx.mk (And.intro hi0 (And.intro hz0 (And.intro hz1 hz2)))
    obtain ⟨X, hX⟩ : ∃ x, x = oneB 1 := ⟨_, rfl⟩
    have HX := Bx.mk hX; have X32 := Bx.mk (show X.length = 32 by rw [hX]; exact oneB_length _)
    clear hX hi0 hz0 hz1 hz2
    refine wp_region_own6 VS12till (n := 145) VS12mk (fun _ => none) (VS12 A k c10 st e1 g11 a10 hs X) (by kernel_rfl) (by kernel_rfl) rfl (fun _ _ => rfl) (fun _ _ _ _ h => by cases h) ?_ ?_ ?_
    · exact fun oi oj v own w own' w' hij _ ht h r => VS12_mono A k c10 st e1 g11 a10 hs X oi oj v own w own' w' hij ht h r
    · intro oi o hi f u own hsame hsn hfr hlate hkeep hdep
      have hb6 := hsn.below (B := wc.heap.size) (fun _ _ => rfl) (Nat.le_refl _)
      match oi, hi with
      | 0, hi =>
        cases (show some _ = some o from hi)
        have e11 : f.tmps.getD 11 undef = .pointer (some ⟨g11, 0, none⟩) := hsame.slot 11 (fun i o h => invB2_not 11 (by kernel_rfl) h)
        clear hdep hsame hi hlate hfr hkeep
        exact .inl ⟨wanted_none rfl, showsO_row hsn rfl 39 (.tmp 11) rfl g11 e11 #[.int .u64 (st : Int), .int .u64 (e1 : Int)] ((hb6.block _ (Array.getElem?_eq_some_iff.1 M1.out).1).trans M1.out) Tryd.underlying39 rfl sizeS rfl⟩
      | 1, hi =>
        cases (show some _ = some o from hi)
        clear hdep hsame hi hlate hfr hkeep
        exact .inl ⟨wanted_none rfl, showsO_built hsn rfl 0 28 #[] (run_bs_zero u rfl) (fun h => h)⟩
      | 2, hi =>
        cases (show some _ = some o from hi)
        have e10 : f.tmps.getD 10 undef = .slice a10 k c10 := hsame.slot 10 (fun i o h => invB2_not 10 (by kernel_rfl) h)
        clear hdep hsame hi hlate hfr hkeep
        exact .inl ⟨wanted_none rfl, showsO_move hsn rfl _ rfl e10⟩
      | 3, hi =>
        cases (show some _ = some o from hi)
        have e80 : BuiltV own u (f.tmps.getD 80 undef) 0 28 #[] := depT (V := (VS12 A k c10 st e1 g11 a10 hs X)) hdep 1 80 (by kernel_rfl) (by kernel_rfl) (.inl rfl)
        have e81 : (f.tmps.getD 81 undef) = .slice a10 k c10 := depT (V := (VS12 A k c10 st e1 g11 a10 hs X)) hdep 2 81 (by kernel_rfl) (by kernel_rfl) (.inl rfl)
        clear hdep hsame hi hlate hfr
        exact .inl ⟨wanted_none rfl, showsO_appendFirst hsn rfl (.tmp 80) (.tmp 81) 22 rfl 6 rfl 28 i0 (.agg zeros32) 32 32 underHs RI.out.1 RI.out.2.1 RI.out.2.2.1 RI.out.2.2.2 rfl (by decide) e80 a10 k c10 (hcells hs) e81 (own_nil (own_keep O2.out (Keep.of_below hb6 (fun _ => False)) (fun _ _ h => h))) (own_keep O2.out (Keep.of_below hb6 (fun _ => False)) (fun _ _ h => h)).1 (own_news (own_keep O2.out (Keep.of_below hb6 (fun _ => False)) (fun _ _ h => h))) hcells_one (by have := KL.out; unfold maxLen; omega) (by have := KL.out; omega) (fun _ _ _ h => h)⟩
      | 4, hi =>
        cases (show some _ = some o from hi)
        clear hdep hsame hi hlate hfr hkeep
        exact .inl ⟨wanted_none rfl, showsO_build hsn rfl 28 #[(0, .const (.int .u8 1))] rfl (ocells X) (by simp only [List.map_toArray, List.map_cons, List.map_nil, Act.eval]; rw [HX.out]; exact built_oneC1) rfl⟩
      | 5, hi =>
        cases (show some _ = some o from hi)
        have e83 : (f.tmps.getD 83 undef) = .agg (ocells (X)) := depT (V := (VS12 A k c10 st e1 g11 a10 hs X)) hdep 4 83 (by kernel_rfl) (by kernel_rfl) (.inl rfl)
        clear hdep hsame hi hlate hfr hkeep
        exact .inl ⟨wanted_none rfl, showsO_built hsn rfl 1 28 (ocells X) (run_bs_one u (.tmp 83) rfl X X32.out e83) (fun h => h)⟩
      | 6, hi =>
        cases (show some _ = some o from hi)
        have e82 : RowC own u (f.tmps.getD 82 undef) 6 0 28 32 k (hcells hs) := depT (V := (VS12 A k c10 st e1 g11 a10 hs X)) hdep 3 82 (by kernel_rfl) (by kernel_rfl) (.inr rfl)
        have e84 : BuiltV own u (f.tmps.getD 84 undef) 1 28 (ocells X) := depT (V := (VS12 A k c10 st e1 g11 a10 hs X)) hdep 5 84 (by kernel_rfl) (by kernel_rfl) (.inl rfl)
        clear hdep hsame hi hlate hfr
        exact .inl ⟨wanted_none rfl, showsO_appendLast hsn rfl (.tmp 82) (.tmp 84) 22 rfl 28 i0 (.agg zeros32) 32 32 underHs RI.out.1 RI.out.2.1 RI.out.2.2.1 RI.out.2.2.2 rfl (by decide) k (hcells hs) e82 e84 (by decide) (by rw [ocells_size, X32.out]) (ocells_one _) (by have := KL.out; unfold maxLen; omega) (by have := KL.out; omega) (fun _ _ _ h => h)⟩
      | 7, hi =>
        cases (show some _ = some o from hi)
        have e79 : (f.tmps.getD 79 undef) = .agg #[.int .u64 (st : Int), .int .u64 (e1 : Int)] := depT (V := (VS12 A k c10 st e1 g11 a10 hs X)) hdep 0 79 (by kernel_rfl) (by kernel_rfl) (.inl rfl)
        have e85 : GrownV own u 6 0 28 32 (f.tmps.getD 85 undef) (k + 1) (hcells hs ++ (ocells X).toList) := depT (V := (VS12 A k c10 st e1 g11 a10 hs X)) hdep 6 85 (by kernel_rfl) (by kernel_rfl) (.inl rfl)
        clear hdep hsame hi hlate hfr hkeep
        obtain ⟨hr1, _⟩ := e85
        obtain ⟨ax, cx, e85, _, _, _⟩ := own_shape hr1
        rw [e85, hcells_push] at hr1
        have c := rload_arg A u st e1 (by have := E1.out; omega) (by have := E1.out; have := SL.out; omega) ax (k + 1) cx (hs ++ [X]) (hss_own hr1 (fun x hx => by rcases List.mem_append.1 hx with h | h; exact S32.out x h; rw [List.mem_singleton.1 h]; exact X32.out) (by rw [List.length_append, ← KH.out]; rfl)) (HE5.out.below hb6).hs.err (HE5.out.below hb6).tz (HE5.out.below hb6).lt (by rw [← rowC_co fL st e1, List.length_map, E1.out, ← HK.out]; omega)
        exact .inl ⟨wanted_none rfl, showsO_call1 hsn rfl 19 #[.agg #[.int .u64 (st : Int), .int .u64 (e1 : Int)], .slice ax (k + 1) cx] (by simp only [execOp, Act.eval]; go_simp) (c) (fun _ => rfl)⟩
      | 8, hi =>
        cases (show some _ = some o from hi)
        have e86 : (f.tmps.getD 86 undef) = .tuple #[.pointer none, .iface 129 (.pointer (some (A 1)))] := depT (V := (VS12 A k c10 st e1 g11 a10 hs X)) hdep 7 86 (by kernel_rfl) (by kernel_rfl) (.inl rfl)
        clear hdep hsame hi hlate hfr hkeep
        exact .inl ⟨wanted_none rfl, showsO_move hsn rfl _ rfl e86⟩
      | 9, hi =>
        cases (show some _ = some o from hi)
        have e78 : (f.tmps.getD 78 undef) = .tuple #[.pointer none, .iface 129 (.pointer (some (A 1)))] := depT (V := (VS12 A k c10 st e1 g11 a10 hs X)) hdep 8 78 (by kernel_rfl) (by kernel_rfl) (.inl rfl)
        clear hdep hsame hi hlate hfr hkeep
        exact .inl ⟨wanted_none rfl, showsO_pure hsn rfl (.pointer none) (by simp only [execOp, Act.eval]; go_simp) rfl⟩
      | 10, hi =>
        cases (show some _ = some o from hi)
        have e78 : (f.tmps.getD 78 undef) = .tuple #[.pointer none, .iface 129 (.pointer (some (A 1)))] := depT (V := (VS12 A k c10 st e1 g11 a10 hs X)) hdep 8 78 (by kernel_rfl) (by kernel_rfl) (.inl rfl)
        clear hdep hsame hi hlate hfr hkeep
        exact .inl ⟨wanted_none rfl, showsO_pure hsn rfl (.iface 129 (.pointer (some (A 1)))) (by simp only [execOp, Act.eval]; go_simp) rfl⟩
      | 11, hi =>
        cases (show some _ = some o from hi)
        have e87 : (f.tmps.getD 87 undef) = .pointer none := depT (V := (VS12 A k c10 st e1 g11 a10 hs X)) hdep 9 87 (by kernel_rfl) (by kernel_rfl) (.inl rfl)
        clear hdep hsame hi hlate hfr hkeep
        exact .inl ⟨wanted_none rfl, showsO_assign hsn rfl _ rfl e87⟩
      | 12, hi =>
        cases (show some _ = some o from hi)
        have e88 : (f.tmps.getD 88 undef) = .iface 129 (.pointer (some (A 1))) := depT (V := (VS12 A k c10 st e1 g11 a10 hs X)) hdep 10 88 (by kernel_rfl) (by kernel_rfl) (.inl rfl)
        clear hdep hsame hi hlate hfr hkeep
        exact .inl ⟨wanted_none rfl, showsO_assign hsn rfl _ rfl e88⟩
      | n + 13, hi => exact absurd hi (by simp)
    intro fr W7 own hsame hsn hall
    have q79 : fr.tmps.getD 79 undef = .agg #[.int .u64 (st : Int), .int .u64 (e1 : Int)] := (finT (V := (VS12 A k c10 st e1 g11 a10 hs X)) hall 0 79 rfl rfl)
    obtain ⟨g80, q80, o80, m80⟩ : BuiltV own W7 (fr.tmps.getD 80 undef) 0 28 #[] := (finT (V := (VS12 A k c10 st e1 g11 a10 hs X)) hall 1 80 rfl rfl)
    have q81 : fr.tmps.getD 81 undef = .slice a10 k c10 := (finT (V := (VS12 A k c10 st e1 g11 a10 hs X)) hall 2 81 rfl rfl)
    obtain ⟨r82, q82⟩ : ∃ r, fr.tmps.getD 82 undef = r := ⟨_, rfl⟩
    have q83 : fr.tmps.getD 83 undef = .agg (ocells (X)) := (finT (V := (VS12 A k c10 st e1 g11 a10 hs X)) hall 4 83 rfl rfl)
    obtain ⟨g84, q84, o84, m84⟩ : BuiltV own W7 (fr.tmps.getD 84 undef) 1 28 (ocells X) := (finT (V := (VS12 A k c10 st e1 g11 a10 hs X)) hall 5 84 rfl rfl)
    have m85 := (finT (V := (VS12 A k c10 st e1 g11 a10 hs X)) hall 6 85 rfl rfl)
    obtain ⟨r85, q85⟩ : ∃ r, fr.tmps.getD 85 undef = r := ⟨_, rfl⟩
    rw [q85] at m85
    have q86 : fr.tmps.getD 86 undef = .tuple #[.pointer none, .iface 129 (.pointer (some (A 1)))] := (finT (V := (VS12 A k c10 st e1 g11 a10 hs X)) hall 7 86 rfl rfl)
    have q78 : fr.tmps.getD 78 undef = .tuple #[.pointer none, .iface 129 (.pointer (some (A 1)))] := (finT (V := (VS12 A k c10 st e1 g11 a10 hs X)) hall 8 78 rfl rfl)
    have q87 : fr.tmps.getD 87 undef = .pointer none := (finT (V := (VS12 A k c10 st e1 g11 a10 hs X)) hall 9 87 rfl rfl)
    have q88 : fr.tmps.getD 88 undef = .iface 129 (.pointer (some (A 1))) := (finT (V := (VS12 A k c10 st e1 g11 a10 hs X)) hall 10 88 rfl rfl)
    have q12 : fr.tmps.getD 12 undef = .pointer none := (finT (V := (VS12 A k c10 st e1 g11 a10 hs X)) hall 11 12 rfl rfl)
    have q13 : fr.tmps.getD 13 undef = .iface 129 (.pointer (some (A 1))) := (finT (V := (VS12 A k c10 st e1 g11 a10 hs X)) hall 12 13 rfl rfl)
    obtain rfl := frame_eq hsame [(79, .agg #[.int .u64 (st : Int), .int .u64 (e1 : Int)]), (80, .slice (some ⟨g80, 0, none⟩) 0 0), (81, .slice a10 k c10), (82, r82), (83, .agg (ocells (X))), (84, .slice (some ⟨g84, 0, none⟩) 1 1), (85, r85), (86, .tuple #[.pointer none, .iface 129 (.pointer (some (A 1)))]), (78, .tuple #[.pointer none, .iface 129 (.pointer (some (A 1)))]), (87, .pointer none), (88, .iface 129 (.pointer (some (A 1)))), (12, .pointer none), (13, .iface 129 (.pointer (some (A 1))))] (by kernel_rfl) ⟨q79, q80, q81, q82, q83, q84, q85, q86, q78, q87, q88, q12, q13, trivial⟩
    clear hall hsame q79 q80 q81 q82 q83 q84 q85 q86 q78 q87 q88 q12 q13
    simp only [List.foldl, List.setIfInBounds_toArray, List.set_cons_succ, List.set_cons_zero]
    have hb := hsn.below (B := wc.heap.size) (fun _ _ => rfl) (Nat.le_refl _)
    clear hsn m85
    have K6 := Bx.mk (K5.out.trans (hb.mono K5.out.size)); have HE6 := Bx.mk (HE5.out.below hb); have R6 := Bx.mk (R5.out.below hb); have Q4 := Bx.mk (Q3.out.below hb); have H3 := Bx.mk (H2.out.below hb); have O3 := Bx.mk (own_keep O2.out (Keep.of_below hb (fun _ => False)) (fun _ _ h => h)); have M2 := Bx.mk ((hb.block _ (Array.getElem?_eq_some_iff.1 M1.out).1).trans M1.out)
    clear hb K5 HE5 R5 Q3 H2 O2 M1
    go_upto_region 13 with (fail)
    refine wp_region_seq8 (n := 145) VS13mk (fun _ => none) (VS13 A) (by kernel_rfl) rfl (fun _ _ => rfl) (fun j i hj _ => by cases hj) ?_ ?_ ?_
    · exact fun oi oj v own w own' w' hij h r => VS13_mono A oi oj v own w own' w' (by omega)  h r
    · intro oi o hi f u own hsame hsn hfr hlate hkeep8 hdep
      have hkeep := hkeep8 _ (Nat.le_refl _)
      have hb6 := hsn.below (B := W7.heap.size) (fun _ _ => rfl) (Nat.le_refl _)
      match oi, hi with
      | 0, hi =>
        cases (show some _ = some o from hi)
        have e12 : f.tmps.getD 12 undef = .pointer none := hlate 12 (earlyS (by kernel_rfl))
        clear hdep hsame hi hlate hfr hkeep
        exact .inl ⟨wanted_none rfl, showsO_move hsn rfl _ rfl e12⟩
      | 1, hi =>
        cases (show some _ = some o from hi)
        have e89 : (f.tmps.getD 89 undef) = .pointer none := depS (V := (VS13 A)) hdep 0 89 (by decide) (by kernel_rfl)
        clear hdep hsame hi hlate hfr hkeep
        exact .inl ⟨wanted_none rfl, showsO_pure hsn rfl (.bool false) (by simp only [execOp, Act.eval]; go_simp) rfl⟩
      | 2, hi =>
        cases (show some _ = some o from hi)
        have e90 : (f.tmps.getD 90 undef) = .bool false := depS (V := (VS13 A)) hdep 1 90 (by decide) (by kernel_rfl)
        clear hdep hsame hi hlate hfr hkeep
        exact .inl ⟨wanted_none rfl, showsO_move hsn rfl _ rfl e90⟩
      | 3, hi =>
        cases (show some _ = some o from hi)
        have e13 : f.tmps.getD 13 undef = .iface 129 (.pointer (some (A 1))) := hlate 13 (earlyS (by kernel_rfl))
        have eg : f.tmps.getD 91 undef = .bool false := depS (V := (VS13 A)) hdep 2 91 (by decide) (by kernel_rfl)
        clear hdep hsame hi hlate hfr hkeep
        exact .inl ⟨wanted_of 2 rfl eg (by kernel_rfl), showsO_move hsn rfl _ rfl e13⟩
      | 4, hi =>
        cases (show some _ = some o from hi)
        have e92 : (f.tmps.getD 92 undef) = .iface 129 (.pointer (some (A 1))) := depS (V := (VS13 A)) hdep 3 92 (by decide) (by kernel_rfl)
        have eg : f.tmps.getD 91 undef = .bool false := depS (V := (VS13 A)) hdep 2 91 (by decide) (by kernel_rfl)
        clear hdep hsame hi hlate hfr hkeep
        have c := isE_any ((HE6.out.below hb6).hs.err) (ErrV.plain 1 (by decide)) 2
        exact .inl ⟨wanted_of 2 rfl eg (by kernel_rfl), showsO_call1 hsn rfl 22 #[.iface 129 (.pointer (some (A 1))), .int .i64 2] (by simp only [execOp, Act.eval]; go_simp) (c) (fun _ => rfl)⟩
      | 5, hi =>
        cases (show some _ = some o from hi)
        have e93 : (f.tmps.getD 93 undef) = .bool true := depS (V := (VS13 A)) hdep 4 93 (by decide) (by kernel_rfl)
        have eg : f.tmps.getD 91 undef = .bool false := depS (V := (VS13 A)) hdep 2 91 (by decide) (by kernel_rfl)
        clear hdep hsame hi hlate hfr hkeep
        exact .inl ⟨wanted_of 2 rfl eg (by kernel_rfl), showsO_pure hsn rfl (.bool false) (by simp only [execOp, Act.eval]; go_simp) rfl⟩
      | 6, hi =>
        cases (show some _ = some o from hi)
        have e91 : (f.tmps.getD 91 undef) = .bool false := depS (V := (VS13 A)) hdep 2 91 (by decide) (by kernel_rfl)
        have e94 : (f.tmps.getD 94 undef) = .bool false := depS (V := (VS13 A)) hdep 5 94 (by decide) (by kernel_rfl)
        clear hdep hsame hi hlate hfr hkeep
        exact .inl ⟨wanted_none rfl, showsO_pure hsn rfl (.bool false) (by simp only [execOp, Act.eval]; go_simp) rfl⟩
      | n + 7, hi => exact absurd hi (by simp)
    intro fr W8 own hsame hsn hall
    have q89 : fr.tmps.getD 89 undef = .pointer none := finO (V := (VS13 A)) hall 0 89 rfl
    have q90 : fr.tmps.getD 90 undef = .bool false := finO (V := (VS13 A)) hall 1 90 rfl
    have q91 : fr.tmps.getD 91 undef = .bool false := finO (V := (VS13 A)) hall 2 91 rfl
    have q92 : fr.tmps.getD 92 undef = .iface 129 (.pointer (some (A 1))) := finO (V := (VS13 A)) hall 3 92 rfl
    have q93 : fr.tmps.getD 93 undef = .bool true := finO (V := (VS13 A)) hall 4 93 rfl
    have q94 : fr.tmps.getD 94 undef = .bool false := finO (V := (VS13 A)) hall 5 94 rfl
    have q95 : fr.tmps.getD 95 undef = .bool false := finO (V := (VS13 A)) hall 6 95 rfl
    obtain rfl := frame_eq hsame [(89, .pointer none), (90, .bool false), (91, .bool false), (92, .iface 129 (.pointer (some (A 1)))), (93, .bool true), (94, .bool false), (95, .bool false)] (by kernel_rfl) ⟨q89, q90, q91, q92, q93, q94, q95, trivial⟩
    clear hall hsame q89 q90 q91 q92 q93 q94 q95
    simp only [List.foldl, List.setIfInBounds_toArray, List.set_cons_succ, List.set_cons_zero]
    have hb := hsn.below (B := W7.heap.size) (fun _ _ => rfl) (Nat.le_refl _)
    clear hsn
    have K7 := Bx.mk (K6.out.trans (hb.mono K6.out.size)); have HE7 := Bx.mk (HE6.out.below hb); have R7 := Bx.mk (R6.out.below hb); have Q5 := Bx.mk (Q4.out.below hb); have H4 := Bx.mk (H3.out.below hb); have O4 := Bx.mk (own_keep O3.out (Keep.of_below hb (fun _ => False)) (fun _ _ h => h)); have M3 := Bx.mk ((hb.block _ (Array.getElem?_eq_some_iff.1 M2.out).1).trans M2.out)
    clear hb K6 HE6 R6 Q4 H3 O3 M2
    go_upto_region 15 with (fail)
    obtain ⟨Y, hY⟩ : ∃ x, x = oneB 5 := ⟨_, rfl⟩
    have HY := Bx.mk hY; have Y32 := Bx.mk (show Y.length = 32 by rw [hY]; exact oneB_length _)
    clear hY
    refine wp_region_seq8 (n := 145) VS15mk (fun _ => none) (VS15 Y) (by kernel_rfl) rfl (fun _ _ => rfl) (fun j i hj _ => by cases hj) ?_ ?_ ?_
    · exact fun oi oj v own w own' w' hij h r => VS15_mono Y oi oj v own w own' w' (by omega)  h r
    · intro oi o hi f u own hsame hsn hfr hlate hkeep8 hdep
      have hkeep := hkeep8 _ (Nat.le_refl _)
      have hb6 := hsn.below (B := W8.heap.size) (fun _ _ => rfl) (Nat.le_refl _)
      match oi, hi with
      | 0, hi =>
        cases (show some _ = some o from hi)
        clear hdep hsame hi hlate hfr hkeep
        exact .inl ⟨wanted_none rfl, showsO_build hsn rfl 39 #[(0, .const (.int .u64 9223372036854775807)), (1, .const (.int .u64 9223372036854775808))] rfl #[.int .u64 9223372036854775807, .int .u64 9223372036854775808] (by simp only [List.map_toArray, List.map_cons, List.map_nil, Act.eval]; exact built_spanC _ _) rfl⟩
      | 1, hi =>
        cases (show some _ = some o from hi)
        clear hdep hsame hi hlate hfr hkeep
        exact .inl ⟨wanted_none rfl, showsO_build hsn rfl 28 #[(0, .const (.int .u8 5))] rfl (ocells Y) (by simp only [List.map_toArray, List.map_cons, List.map_nil, Act.eval]; rw [HY.out]; exact built_fiveC) rfl⟩
      | 2, hi =>
        cases (show some _ = some o from hi)
        have e98 : (f.tmps.getD 98 undef) = .agg (ocells (Y)) := depS (V := (VS15 Y)) hdep 1 98 (by decide) (by kernel_rfl)
        clear hdep hsame hi hlate hfr hkeep
        exact .inl ⟨wanted_none rfl, showsO_built hsn rfl 1 28 (ocells Y) (run_bs_one u (.tmp 98) rfl Y Y32.out e98) (fun h => h)⟩
      | 3, hi =>
        cases (show some _ = some o from hi)
        have e97 : (f.tmps.getD 97 undef) = .agg #[.int .u64 9223372036854775807, .int .u64 9223372036854775808] := depS (V := (VS15 Y)) hdep 0 97 (by decide) (by kernel_rfl)
        have e99 : BuiltV own u (f.tmps.getD 99 undef) 1 28 (ocells Y) := depS (V := (VS15 Y)) hdep 2 99 (by decide) (by kernel_rfl)
        clear hdep hsame hi hlate hfr hkeep
        obtain ⟨gb, eb, hnb⟩ := hss_builtC (ps := [Y]) e99 (by simp [hcells, ocells]) (by simp [Y32.out]) rfl (by decide)
        clear e99
        have e99 := eb
        have c := rload_any u 9223372036854775807 9223372036854775808 (by decide) (by decide) _ 1 _ [Y] hnb (HE7.out.below hb6).tz (HE7.out.below hb6).lt (by rw [show 9223372036854775808 = 9223372036854775807 + 1 from rfl, cover_oneC (by decide)]; rfl)
        rw [show zipC (coverN 9223372036854775807 9223372036854775808) [Y] = [(0, 9223372036854775807, Y)] by rw [show 9223372036854775808 = 9223372036854775807 + 1 from rfl, cover_oneC (by decide)]; rfl] at c
        exact .inl ⟨wanted_none rfl, showsO_call (R := fun v w' => ∃ r s, v = .tuple #[.pointer (some ⟨r, 0, none⟩), .nilIface] ∧ RaP u.heap.size w' r 9223372036854775807 9223372036854775808 [(0, 9223372036854775807, Y)] s) hsn rfl 19 #[.agg #[.int .u64 9223372036854775807, .int .u64 9223372036854775808], .slice (some ⟨gb, 0, none⟩) 1 1] (by simp only [execOp, Act.eval]; first | (go_simp; done) | (go_simp; rfl)) (c.mono fun e w' ⟨r, s, h1, h2, h3⟩ => ⟨_, h1, ⟨r, s, rfl, h2⟩, h3⟩) (fun v w' ⟨r, s, h1, h2⟩ _ => ⟨r, s, h1, h2.mono (Nat.zero_le _), fun k hk => hsn.top k (h2.ge k hk)⟩)⟩
      | 4, hi =>
        cases (show some _ = some o from hi)
        have e100 : MadeT own u (f.tmps.getD 100 undef) 9223372036854775807 9223372036854775808 0 [(0, 9223372036854775807, Y)] := depS (V := (VS15 Y)) hdep 3 100 (by decide) (by kernel_rfl)
        clear hdep hsame hi hlate hfr hkeep
        exact .inl ⟨wanted_none rfl, showsO_move hsn rfl _ rfl e100⟩
      | 5, hi =>
        cases (show some _ = some o from hi)
        have e96 : MadeT own u (f.tmps.getD 96 undef) 9223372036854775807 9223372036854775808 0 [(0, 9223372036854775807, Y)] := depS (V := (VS15 Y)) hdep 4 96 (by decide) (by kernel_rfl)
        clear hdep hsame hi hlate hfr hkeep
        obtain ⟨rx, sx, qx, nx⟩ := e96
        exact .inl ⟨wanted_none rfl, showsO_pure hsn rfl (.pointer (some ⟨rx, 0, none⟩)) (by simp only [execOp, Act.eval]; go_simp) ⟨rx, sx, rfl, nx⟩⟩
      | 6, hi =>
        cases (show some _ = some o from hi)
        have e96 : MadeT own u (f.tmps.getD 96 undef) 9223372036854775807 9223372036854775808 0 [(0, 9223372036854775807, Y)] := depS (V := (VS15 Y)) hdep 4 96 (by decide) (by kernel_rfl)
        clear hdep hsame hi hlate hfr hkeep
        obtain ⟨rx, sx, qx, nx⟩ := e96
        exact .inl ⟨wanted_none rfl, showsO_pure hsn rfl (.nilIface) (by simp only [execOp, Act.eval]; go_simp) rfl⟩
      | 7, hi =>
        cases (show some _ = some o from hi)
        have e101 : MadeR own u (f.tmps.getD 101 undef) 9223372036854775807 9223372036854775808 0 [(0, 9223372036854775807, Y)] := depS (V := (VS15 Y)) hdep 5 101 (by decide) (by kernel_rfl)
        clear hdep hsame hi hlate hfr hkeep
        exact .inl ⟨wanted_none rfl, showsO_assign hsn rfl _ rfl e101⟩
      | 8, hi =>
        cases (show some _ = some o from hi)
        have e102 : (f.tmps.getD 102 undef) = .nilIface := depS (V := (VS15 Y)) hdep 6 102 (by decide) (by kernel_rfl)
        clear hdep hsame hi hlate hfr hkeep
        exact .inl ⟨wanted_none rfl, showsO_assign hsn rfl _ rfl e102⟩
      | n + 9, hi => exact absurd hi (by simp)
    intro fr W9 own hsame hsn hall
    have q97 : fr.tmps.getD 97 undef = .agg #[.int .u64 9223372036854775807, .int .u64 9223372036854775808] := finO (V := (VS15 Y)) hall 0 97 rfl
    have q98 : fr.tmps.getD 98 undef = .agg (ocells (Y)) := finO (V := (VS15 Y)) hall 1 98 rfl
    obtain ⟨g99, q99, o99, m99⟩ : BuiltV own W9 (fr.tmps.getD 99 undef) 1 28 (ocells Y) := finO (V := (VS15 Y)) hall 2 99 rfl
    obtain ⟨g100, s100, q100, n100⟩ := finO (V := (VS15 Y)) hall 3 100 rfl
    obtain ⟨g96, s96, q96, n96⟩ := finO (V := (VS15 Y)) hall 4 96 rfl
    obtain ⟨g101, s101, q101, n101⟩ := finO (V := (VS15 Y)) hall 5 101 rfl
    have q102 : fr.tmps.getD 102 undef = .nilIface := finO (V := (VS15 Y)) hall 6 102 rfl
    obtain ⟨g14, s14, q14, n14⟩ := finO (V := (VS15 Y)) hall 7 14 rfl
    have q13 : fr.tmps.getD 13 undef = .nilIface := finO (V := (VS15 Y)) hall 8 13 rfl
    obtain rfl := frame_eq hsame [(97, .agg #[.int .u64 9223372036854775807, .int .u64 9223372036854775808]), (98, .agg (ocells (Y))), (99, .slice (some ⟨g99, 0, none⟩) 1 1), (100, .tuple #[.pointer (some ⟨g100, 0, none⟩), .nilIface]), (96, .tuple #[.pointer (some ⟨g96, 0, none⟩), .nilIface]), (101, .pointer (some ⟨g101, 0, none⟩)), (102, .nilIface), (14, .pointer (some ⟨g14, 0, none⟩)), (13, .nilIface)] (by kernel_rfl) ⟨q97, q98, q99, q100, q96, q101, q102, q14, q13, trivial⟩
    clear hall hsame q97 q98 q99 q100 q96 q101 q102 q14 q13
    simp only [List.foldl, List.setIfInBounds_toArray, List.set_cons_succ, List.set_cons_zero]
    have hb := hsn.below (B := W8.heap.size) (fun _ _ => rfl) (Nat.le_refl _)
    have rz := n14.1
    clear hsn n14 n100 n96 n101 o99 m99
    have K8 := Bx.mk (K7.out.trans (hb.mono K7.out.size)); have HE8 := Bx.mk (HE7.out.below hb); have R8 := Bx.mk (R7.out.below hb); have Q6 := Bx.mk (Q5.out.below hb); have H5 := Bx.mk (H4.out.below hb); have O5 := Bx.mk (own_keep O4.out (Keep.of_below hb (fun _ => False)) (fun _ _ h => h)); have M4 := Bx.mk ((hb.block _ (Array.getElem?_eq_some_iff.1 M3.out).1).trans M3.out)
    clear hb K7 HE7 R7 Q5 H4 O4 M3
    have F0 := Bx.mk rz; clear rz
    go_upto_region 16 with (fail)
    obtain ⟨Z, hZ⟩ : ∃ x, x = oneB 6 := ⟨_, rfl⟩
    have HZ := Bx.mk hZ; have Z32 := Bx.mk (show Z.length = 32 by rw [hZ]; exact oneB_length _)
    clear hZ
    refine wp_region_seq8 (n := 145) VS16mk (fun _ => none) (VS16 A g14 Y Z) (by kernel_rfl) rfl (fun _ _ => rfl) (fun j i hj _ => by cases hj) ?_ ?_ ?_
    · exact fun oi oj v own w own' w' hij h r => VS16_mono A g14 Y Z oi oj v own w own' w' (by omega)  h r
    · intro oi o hi f u own hsame hsn hfr hlate hkeep8 hdep
      have hkeep := hkeep8 _ (Nat.le_refl _)
      have hb6 := hsn.below (B := W9.heap.size) (fun _ _ => rfl) (Nat.le_refl _)
      match oi, hi with
      | 0, hi =>
        cases (show some _ = some o from hi)
        have e14 : f.tmps.getD 14 undef = .pointer (some ⟨g14, 0, none⟩) := hlate 14 (earlyS (by kernel_rfl))
        clear hdep hsame hi hlate hfr hkeep
        exact .inl ⟨wanted_none rfl, showsO_move hsn rfl _ rfl e14⟩
      | 1, hi =>
        cases (show some _ = some o from hi)
        have e103 : (f.tmps.getD 103 undef) = .pointer (some ⟨g14, 0, none⟩) := depS (V := (VS16 A g14 Y Z)) hdep 0 103 (by decide) (by kernel_rfl)
        clear hdep hsame hi hlate hfr hkeep
        exact .inl ⟨wanted_none rfl, showsO_pure hsn rfl (.bool false) (by simp only [execOp, Act.eval]; go_simp) rfl⟩
      | 2, hi =>
        cases (show some _ = some o from hi)
        have e104 : (f.tmps.getD 104 undef) = .bool false := depS (V := (VS16 A g14 Y Z)) hdep 1 104 (by decide) (by kernel_rfl)
        clear hdep hsame hi hlate hfr hkeep
        exact .inl ⟨wanted_none rfl, showsO_move hsn rfl _ rfl e104⟩
      | 3, hi =>
        cases (show some _ = some o from hi)
        have e13 : f.tmps.getD 13 undef = .nilIface := hlate 13 (earlyS (by kernel_rfl))
        have eg : f.tmps.getD 105 undef = .bool false := depS (V := (VS16 A g14 Y Z)) hdep 2 105 (by decide) (by kernel_rfl)
        clear hdep hsame hi hlate hfr hkeep
        exact .inl ⟨wanted_of 2 rfl eg (by kernel_rfl), showsO_move hsn rfl _ rfl e13⟩
      | 4, hi =>
        cases (show some _ = some o from hi)
        have e106 : (f.tmps.getD 106 undef) = .nilIface := depS (V := (VS16 A g14 Y Z)) hdep 3 106 (by decide) (by kernel_rfl)
        have eg : f.tmps.getD 105 undef = .bool false := depS (V := (VS16 A g14 Y Z)) hdep 2 105 (by decide) (by kernel_rfl)
        clear hdep hsame hi hlate hfr hkeep
        exact .inl ⟨wanted_of 2 rfl eg (by kernel_rfl), showsO_pure hsn rfl (.bool false) (by simp only [execOp, Act.eval]; go_simp) rfl⟩
      | 5, hi =>
        cases (show some _ = some o from hi)
        have e105 : (f.tmps.getD 105 undef) = .bool false := depS (V := (VS16 A g14 Y Z)) hdep 2 105 (by decide) (by kernel_rfl)
        have e107 : (f.tmps.getD 107 undef) = .bool false := depS (V := (VS16 A g14 Y Z)) hdep 4 107 (by decide) (by kernel_rfl)
        clear hdep hsame hi hlate hfr hkeep
        exact .inl ⟨wanted_none rfl, showsO_pure hsn rfl (.bool false) (by simp only [execOp, Act.eval]; go_simp) rfl⟩
      | 6, hi =>
        cases (show some _ = some o from hi)
        have e108 : (f.tmps.getD 108 undef) = .bool false := depS (V := (VS16 A g14 Y Z)) hdep 5 108 (by decide) (by kernel_rfl)
        clear hdep hsame hi hlate hfr hkeep
        exact .inl ⟨wanted_none rfl, showsO_move hsn rfl _ rfl e108⟩
      | 7, hi =>
        cases (show some _ = some o from hi)
        have e14 : f.tmps.getD 14 undef = .pointer (some ⟨g14, 0, none⟩) := hlate 14 (earlyS (by kernel_rfl))
        have eg : f.tmps.getD 109 undef = .bool false := depS (V := (VS16 A g14 Y Z)) hdep 6 109 (by decide) (by kernel_rfl)
        clear hdep hsame hi hlate hfr hkeep
        exact .inl ⟨wanted_of 6 rfl eg (by kernel_rfl), showsO_move hsn rfl _ rfl e14⟩
      | 8, hi =>
        cases (show some _ = some o from hi)
        have eg : f.tmps.getD 109 undef = .bool false := depS (V := (VS16 A g14 Y Z)) hdep 6 109 (by decide) (by kernel_rfl)
        clear hdep hsame hi hlate hfr hkeep
        exact .inl ⟨wanted_of 6 rfl eg (by kernel_rfl), showsO_build hsn rfl 28 #[(0, .const (.int .u8 6))] rfl (ocells Z) (by simp only [List.map_toArray, List.map_cons, List.map_nil, Act.eval]; rw [HZ.out]; exact built_sixC) rfl⟩
      | 9, hi =>
        cases (show some _ = some o from hi)
        have e110 : (f.tmps.getD 110 undef) = .pointer (some ⟨g14, 0, none⟩) := depS (V := (VS16 A g14 Y Z)) hdep 7 110 (by decide) (by kernel_rfl)
        have e111 : (f.tmps.getD 111 undef) = .agg (ocells (Z)) := depS (V := (VS16 A g14 Y Z)) hdep 8 111 (by decide) (by kernel_rfl)
        have eg : f.tmps.getD 109 undef = .bool false := depS (V := (VS16 A g14 Y Z)) hdep 6 109 (by decide) (by kernel_rfl)
        clear hdep hsame hi hlate hfr hkeep
        have c := rapp_limit A _ u _ _ _ _ _ (F0.out.below hb6) Z (HE8.out.below hb6).hs.err (by decide)
        rw [hv_agg] at c
        exact .inl ⟨wanted_of 6 rfl eg (by kernel_rfl), showsO_call1 hsn rfl 11 #[.pointer (some ⟨g14, 0, none⟩), .agg (ocells (Z))] (by simp only [execOp, Act.eval]; go_simp) (c) (fun _ => rfl)⟩
      | 10, hi =>
        cases (show some _ = some o from hi)
        have e112 : (f.tmps.getD 112 undef) = .iface 129 (.pointer (some (A 3))) := depS (V := (VS16 A g14 Y Z)) hdep 9 112 (by decide) (by kernel_rfl)
        have eg : f.tmps.getD 109 undef = .bool false := depS (V := (VS16 A g14 Y Z)) hdep 6 109 (by decide) (by kernel_rfl)
        clear hdep hsame hi hlate hfr hkeep
        have c := isE_any ((HE8.out.below hb6).hs.err) (ErrV.plain 3 (by decide)) 4
        exact .inl ⟨wanted_of 6 rfl eg (by kernel_rfl), showsO_call1 hsn rfl 22 #[.iface 129 (.pointer (some (A 3))), .int .i64 4] (by simp only [execOp, Act.eval]; go_simp) (c) (fun _ => rfl)⟩
      | 11, hi =>
        cases (show some _ = some o from hi)
        have e113 : (f.tmps.getD 113 undef) = .bool true := depS (V := (VS16 A g14 Y Z)) hdep 10 113 (by decide) (by kernel_rfl)
        have eg : f.tmps.getD 109 undef = .bool false := depS (V := (VS16 A g14 Y Z)) hdep 6 109 (by decide) (by kernel_rfl)
        clear hdep hsame hi hlate hfr hkeep
        exact .inl ⟨wanted_of 6 rfl eg (by kernel_rfl), showsO_pure hsn rfl (.bool false) (by simp only [execOp, Act.eval]; go_simp) rfl⟩
      | 12, hi =>
        cases (show some _ = some o from hi)
        have e109 : (f.tmps.getD 109 undef) = .bool false := depS (V := (VS16 A g14 Y Z)) hdep 6 109 (by decide) (by kernel_rfl)
        have e114 : (f.tmps.getD 114 undef) = .bool false := depS (V := (VS16 A g14 Y Z)) hdep 11 114 (by decide) (by kernel_rfl)
        clear hdep hsame hi hlate hfr hkeep
        exact .inl ⟨wanted_none rfl, showsO_pure hsn rfl (.bool false) (by simp only [execOp, Act.eval]; go_simp) rfl⟩
      | 13, hi =>
        cases (show some _ = some o from hi)
        have e115 : (f.tmps.getD 115 undef) = .bool false := depS (V := (VS16 A g14 Y Z)) hdep 12 115 (by decide) (by kernel_rfl)
        clear hdep hsame hi hlate hfr hkeep
        exact .inl ⟨wanted_none rfl, showsO_move hsn rfl _ rfl e115⟩
      | 14, hi =>
        cases (show some _ = some o from hi)
        have e14 : f.tmps.getD 14 undef = .pointer (some ⟨g14, 0, none⟩) := hlate 14 (earlyS (by kernel_rfl))
        have eg : f.tmps.getD 116 undef = .bool false := depS (V := (VS16 A g14 Y Z)) hdep 13 116 (by decide) (by kernel_rfl)
        clear hdep hsame hi hlate hfr hkeep
        exact .inl ⟨wanted_of 13 rfl eg (by kernel_rfl), showsO_move hsn rfl _ rfl e14⟩
      | 15, hi =>
        cases (show some _ = some o from hi)
        have e117 : (f.tmps.getD 117 undef) = .pointer (some ⟨g14, 0, none⟩) := depS (V := (VS16 A g14 Y Z)) hdep 14 117 (by decide) (by kernel_rfl)
        have eg : f.tmps.getD 116 undef = .bool false := depS (V := (VS16 A g14 Y Z)) hdep 13 116 (by decide) (by kernel_rfl)
        clear hdep hsame hi hlate hfr hkeep
        have c := rhss_any _ u _ _ _ _ _ 1 rfl [Y] rfl (F0.out.below hb6) (by decide) 0 (Nat.zero_le _)
        exact .inl ⟨wanted_of 13 rfl eg (by kernel_rfl), showsO_call (R := fun v w' => w'.ownsRow 0 28 32 v 1 (hcells [Y]) ∧ ∀ k, v.ownBlock = some k → u.heap.size ≤ k) hsn rfl 13 #[.pointer (some ⟨g14, 0, none⟩)] (by simp only [execOp, Act.eval]; go_simp) c (fun v w' h _ => ⟨h.1, fun k hk => hsn.top k (h.2 k hk)⟩)⟩
      | 16, hi =>
        cases (show some _ = some o from hi)
        have eg : f.tmps.getD 116 undef = .bool false := depS (V := (VS16 A g14 Y Z)) hdep 13 116 (by decide) (by kernel_rfl)
        clear hdep hsame hi hlate hfr hkeep
        exact .inl ⟨wanted_of 13 rfl eg (by kernel_rfl), showsO_build hsn rfl 28 #[(0, .const (.int .u8 5))] rfl (ocells Y) (by simp only [List.map_toArray, List.map_cons, List.map_nil, Act.eval]; rw [HY.out]; exact built_fiveC) rfl⟩
      | 17, hi =>
        cases (show some _ = some o from hi)
        have e119 : (f.tmps.getD 119 undef) = .agg (ocells (Y)) := depS (V := (VS16 A g14 Y Z)) hdep 16 119 (by decide) (by kernel_rfl)
        have eg : f.tmps.getD 116 undef = .bool false := depS (V := (VS16 A g14 Y Z)) hdep 13 116 (by decide) (by kernel_rfl)
        clear hdep hsame hi hlate hfr hkeep
        exact .inl ⟨wanted_of 13 rfl eg (by kernel_rfl), showsO_built hsn rfl 1 28 (ocells Y) (run_bs_one u (.tmp 119) rfl Y Y32.out e119) (fun h => h)⟩
      | 18, hi =>
        cases (show some _ = some o from hi)
        have e118 : RowN own u (f.tmps.getD 118 undef) 0 28 32 1 (hcells [Y]) := depS (V := (VS16 A g14 Y Z)) hdep 15 118 (by decide) (by kernel_rfl)
        have e120 : BuiltV own u (f.tmps.getD 120 undef) 1 28 (ocells Y) := depS (V := (VS16 A g14 Y Z)) hdep 17 120 (by decide) (by kernel_rfl)
        have eg : f.tmps.getD 116 undef = .bool false := depS (V := (VS16 A g14 Y Z)) hdep 13 116 (by decide) (by kernel_rfl)
        clear hdep hsame hi hlate hfr hkeep
        obtain ⟨hr1, _⟩ := e118
        obtain ⟨ax, cx, e118, _, _, _⟩ := own_shape hr1
        rw [e118] at hr1
        obtain ⟨gb, eb, hnb⟩ := hss_builtC (ps := [Y]) e120 (by simp [hcells, ocells]) (by simp [Y32.out]) rfl (by decide)
        clear e120
        have e120 := eb
        have c := same_any u _ _ _ [Y] _ _ _ [Y] (hss_own hr1 (by simp [Y32.out]) rfl) hnb
        rw [beq_self_eq_true] at c
        exact .inl ⟨wanted_of 13 rfl eg (by kernel_rfl), showsO_call1 hsn rfl 21 #[.slice ax 1 cx, .slice (some ⟨gb, 0, none⟩) 1 1] (by simp only [execOp, Act.eval]; go_simp) (c) (fun _ => rfl)⟩
      | 19, hi =>
        cases (show some _ = some o from hi)
        have e121 : (f.tmps.getD 121 undef) = .bool true := depS (V := (VS16 A g14 Y Z)) hdep 18 121 (by decide) (by kernel_rfl)
        have eg : f.tmps.getD 116 undef = .bool false := depS (V := (VS16 A g14 Y Z)) hdep 13 116 (by decide) (by kernel_rfl)
        clear hdep hsame hi hlate hfr hkeep
        exact .inl ⟨wanted_of 13 rfl eg (by kernel_rfl), showsO_pure hsn rfl (.bool false) (by simp only [execOp, Act.eval]; go_simp) rfl⟩
      | 20, hi =>
        cases (show some _ = some o from hi)
        have e116 : (f.tmps.getD 116 undef) = .bool false := depS (V := (VS16 A g14 Y Z)) hdep 13 116 (by decide) (by kernel_rfl)
        have e122 : (f.tmps.getD 122 undef) = .bool false := depS (V := (VS16 A g14 Y Z)) hdep 19 122 (by decide) (by kernel_rfl)
        clear hdep hsame hi hlate hfr hkeep
        exact .inl ⟨wanted_none rfl, showsO_pure hsn rfl (.bool false) (by simp only [execOp, Act.eval]; go_simp) rfl⟩
      | n + 21, hi => exact absurd hi (by simp)
    intro fr W10 own hsame hsn hall
    have q103 : fr.tmps.getD 103 undef = .pointer (some ⟨g14, 0, none⟩) := finO (V := (VS16 A g14 Y Z)) hall 0 103 rfl
    have q104 : fr.tmps.getD 104 undef = .bool false := finO (V := (VS16 A g14 Y Z)) hall 1 104 rfl
    have q105 : fr.tmps.getD 105 undef = .bool false := finO (V := (VS16 A g14 Y Z)) hall 2 105 rfl
    have q106 : fr.tmps.getD 106 undef = .nilIface := finO (V := (VS16 A g14 Y Z)) hall 3 106 rfl
    have q107 : fr.tmps.getD 107 undef = .bool false := finO (V := (VS16 A g14 Y Z)) hall 4 107 rfl
    have q108 : fr.tmps.getD 108 undef = .bool false := finO (V := (VS16 A g14 Y Z)) hall 5 108 rfl
    have q109 : fr.tmps.getD 109 undef = .bool false := finO (V := (VS16 A g14 Y Z)) hall 6 109 rfl
    have q110 : fr.tmps.getD 110 undef = .pointer (some ⟨g14, 0, none⟩) := finO (V := (VS16 A g14 Y Z)) hall 7 110 rfl
    have q111 : fr.tmps.getD 111 undef = .agg (ocells (Z)) := finO (V := (VS16 A g14 Y Z)) hall 8 111 rfl
    have q112 : fr.tmps.getD 112 undef = .iface 129 (.pointer (some (A 3))) := finO (V := (VS16 A g14 Y Z)) hall 9 112 rfl
    have q113 : fr.tmps.getD 113 undef = .bool true := finO (V := (VS16 A g14 Y Z)) hall 10 113 rfl
    have q114 : fr.tmps.getD 114 undef = .bool false := finO (V := (VS16 A g14 Y Z)) hall 11 114 rfl
    have q115 : fr.tmps.getD 115 undef = .bool false := finO (V := (VS16 A g14 Y Z)) hall 12 115 rfl
    have q116 : fr.tmps.getD 116 undef = .bool false := finO (V := (VS16 A g14 Y Z)) hall 13 116 rfl
    have q117 : fr.tmps.getD 117 undef = .pointer (some ⟨g14, 0, none⟩) := finO (V := (VS16 A g14 Y Z)) hall 14 117 rfl
    have m118 := finO (V := (VS16 A g14 Y Z)) hall 15 118 rfl
    obtain ⟨r118, q118⟩ : ∃ r, fr.tmps.getD 118 undef = r := ⟨_, rfl⟩
    rw [q118] at m118
    have q119 : fr.tmps.getD 119 undef = .agg (ocells (Y)) := finO (V := (VS16 A g14 Y Z)) hall 16 119 rfl
    obtain ⟨g120, q120, o120, m120⟩ : BuiltV own W10 (fr.tmps.getD 120 undef) 1 28 (ocells Y) := finO (V := (VS16 A g14 Y Z)) hall 17 120 rfl
    have q121 : fr.tmps.getD 121 undef = .bool true := finO (V := (VS16 A g14 Y Z)) hall 18 121 rfl
    have q122 : fr.tmps.getD 122 undef = .bool false := finO (V := (VS16 A g14 Y Z)) hall 19 122 rfl
    have q123 : fr.tmps.getD 123 undef = .bool false := finO (V := (VS16 A g14 Y Z)) hall 20 123 rfl
    obtain rfl := frame_eq hsame [(103, .pointer (some ⟨g14, 0, none⟩)), (104, .bool false), (105, .bool false), (106, .nilIface), (107, .bool false), (108, .bool false), (109, .bool false), (110, .pointer (some ⟨g14, 0, none⟩)), (111, .agg (ocells (Z))), (112, .iface 129 (.pointer (some (A 3)))), (113, .bool true), (114, .bool false), (115, .bool false), (116, .bool false), (117, .pointer (some ⟨g14, 0, none⟩)), (118, r118), (119, .agg (ocells (Y))), (120, .slice (some ⟨g120, 0, none⟩) 1 1), (121, .bool true), (122, .bool false), (123, .bool false)] (by kernel_rfl) ⟨q103, q104, q105, q106, q107, q108, q109, q110, q111, q112, q113, q114, q115, q116, q117, q118, q119, q120, q121, q122, q123, trivial⟩
    clear hall hsame q103 q104 q105 q106 q107 q108 q109 q110 q111 q112 q113 q114 q115 q116 q117 q118 q119 q120 q121 q122 q123
    simp only [List.foldl, List.setIfInBounds_toArray, List.set_cons_succ, List.set_cons_zero]
    have hb := hsn.below (B := W9.heap.size) (fun _ _ => rfl) (Nat.le_refl _)
    clear hsn m118 o120 m120
    have K9 := Bx.mk (K8.out.trans (hb.mono K8.out.size)); have HE9 := Bx.mk (HE8.out.below hb)
    clear hb K8 HE8
    have d1 : ((off : Int)).tmod 9223372036854775808 = ((off % 9223372036854775808 : Nat) : Int) := by rw [Int.tmod_eq_emod_of_nonneg (by omega)]; omega
    obtain ⟨c0, hc0⟩ : ∃ c0, c0 = off % 9223372036854775808 := ⟨_, rfl⟩
    rw [← hc0] at d1
    have hc1 : c0 < 9223372036854775808 := by omega
    have d2 : IntKind.u64.wrap (c0 : Int) = (c0 : Int) := by simp [IntKind.wrap, IntKind.bits, IntKind.signed]; omega
    obtain ⟨e2, he2⟩ : ∃ e2, e2 = 9223372036854775808 + c0 := ⟨_, rfl⟩
    have d3 : IntKind.u64.wrap (9223372036854775808 + (c0 : Int)) = (e2 : Int) := by simp [IntKind.wrap, IntKind.bits, IntKind.signed]; omega
    have E2 := Bx.mk he2
    clear hc0 he2 hc1
    go_wp2_with fail
    clear d1 d2 d3
    refine (rnew_any W10 e2).mono ?_
    rintro e W11 ⟨z, rfl, hQ, hb⟩
    have K10 := Bx.mk (K9.out.trans (hb.mono K9.out.size)); have HE10 := Bx.mk (HE9.out.below hb)
    clear hb K9 HE9
    have F0 := Bx.mk hQ; clear hQ
    obtain ⟨V, hV⟩ : ∃ x, x = oneB 7 := ⟨_, rfl⟩
    have HV := Bx.mk hV; have V32 := Bx.mk (show V.length = 32 by rw [hV]; exact oneB_length _)
    clear hV
    go_upto_region 19 with (fail)
    refine wp_region_seq8 (n := 145) VS19mk (fun _ => none) (VS19 A z V) (by kernel_rfl) rfl (fun _ _ => rfl) (fun j i hj _ => by cases hj) ?_ ?_ ?_
    · exact fun oi oj v own w own' w' hij h r => VS19_mono A z V oi oj v own w own' w' (by omega)  h r
    · intro oi o hi f u own hsame hsn hfr hlate hkeep8 hdep
      have hkeep := hkeep8 _ (Nat.le_refl _)
      have hb6 := hsn.below (B := W11.heap.size) (fun _ _ => rfl) (Nat.le_refl _)
      match oi, hi with
      | 0, hi =>
        cases (show some _ = some o from hi)
        have e15 : f.tmps.getD 15 undef = .pointer (some ⟨z, 0, none⟩) := hlate 15 (earlyS (by kernel_rfl))
        clear hdep hsame hi hlate hfr hkeep
        exact .inl ⟨wanted_none rfl, showsO_move hsn rfl _ rfl e15⟩
      | 1, hi =>
        cases (show some _ = some o from hi)
        have e128 : (f.tmps.getD 128 undef) = .pointer (some ⟨z, 0, none⟩) := depS (V := (VS19 A z V)) hdep 0 128 (by decide) (by kernel_rfl)
        clear hdep hsame hi hlate hfr hkeep
        exact .inl ⟨wanted_none rfl, showsO_pure hsn rfl (.bool true) (by simp only [execOp, Act.eval]; go_simp) rfl⟩
      | 2, hi =>
        cases (show some _ = some o from hi)
        have e129 : (f.tmps.getD 129 undef) = .bool true := depS (V := (VS19 A z V)) hdep 1 129 (by decide) (by kernel_rfl)
        clear hdep hsame hi hlate hfr hkeep
        exact .inl ⟨wanted_none rfl, showsO_move hsn rfl _ rfl e129⟩
      | 3, hi =>
        cases (show some _ = some o from hi)
        have e15 : f.tmps.getD 15 undef = .pointer (some ⟨z, 0, none⟩) := hlate 15 (earlyS (by kernel_rfl))
        have eg : f.tmps.getD 130 undef = .bool true := depS (V := (VS19 A z V)) hdep 2 130 (by decide) (by kernel_rfl)
        clear hdep hsame hi hlate hfr hkeep
        exact .inl ⟨wanted_of 2 rfl eg (by kernel_rfl), showsO_move hsn rfl _ rfl e15⟩
      | 4, hi =>
        cases (show some _ = some o from hi)
        have eg : f.tmps.getD 130 undef = .bool true := depS (V := (VS19 A z V)) hdep 2 130 (by decide) (by kernel_rfl)
        clear hdep hsame hi hlate hfr hkeep
        exact .inl ⟨wanted_of 2 rfl eg (by kernel_rfl), showsO_build hsn rfl 28 #[(0, .const (.int .u8 7))] rfl (ocells V) (by simp only [List.map_toArray, List.map_cons, List.map_nil, Act.eval]; rw [HV.out]; exact built_sevenC) rfl⟩
      | 5, hi =>
        cases (show some _ = some o from hi)
        have e131 : (f.tmps.getD 131 undef) = .pointer (some ⟨z, 0, none⟩) := depS (V := (VS19 A z V)) hdep 3 131 (by decide) (by kernel_rfl)
        have e132 : (f.tmps.getD 132 undef) = .agg (ocells (V)) := depS (V := (VS19 A z V)) hdep 4 132 (by decide) (by kernel_rfl)
        have eg : f.tmps.getD 130 undef = .bool true := depS (V := (VS19 A z V)) hdep 2 130 (by decide) (by kernel_rfl)
        clear hdep hsame hi hlate hfr hkeep
        have c := rapp_limit A _ u _ _ _ _ _ (F0.out.below hb6) V (HE10.out.below hb6).hs.err (by have := E2.out; omega)
        rw [hv_agg] at c
        exact .inl ⟨wanted_of 2 rfl eg (by kernel_rfl), showsO_call1 hsn rfl 11 #[.pointer (some ⟨z, 0, none⟩), .agg (ocells (V))] (by simp only [execOp, Act.eval]; go_simp) (c) (fun _ => rfl)⟩
      | 6, hi =>
        cases (show some _ = some o from hi)
        have e133 : (f.tmps.getD 133 undef) = .iface 129 (.pointer (some (A 3))) := depS (V := (VS19 A z V)) hdep 5 133 (by decide) (by kernel_rfl)
        have eg : f.tmps.getD 130 undef = .bool true := depS (V := (VS19 A z V)) hdep 2 130 (by decide) (by kernel_rfl)
        clear hdep hsame hi hlate hfr hkeep
        have c := isE_any ((HE10.out.below hb6).hs.err) (ErrV.plain 3 (by decide)) 4
        exact .inl ⟨wanted_of 2 rfl eg (by kernel_rfl), showsO_call1 hsn rfl 22 #[.iface 129 (.pointer (some (A 3))), .int .i64 4] (by simp only [execOp, Act.eval]; go_simp) (c) (fun _ => rfl)⟩
      | 7, hi =>
        cases (show some _ = some o from hi)
        have e130 : (f.tmps.getD 130 undef) = .bool true := depS (V := (VS19 A z V)) hdep 2 130 (by decide) (by kernel_rfl)
        have e134 : (f.tmps.getD 134 undef) = .bool true := depS (V := (VS19 A z V)) hdep 6 134 (by decide) (by kernel_rfl)
        clear hdep hsame hi hlate hfr hkeep
        exact .inl ⟨wanted_none rfl, showsO_pure hsn rfl (.bool true) (by simp only [execOp, Act.eval]; go_simp) rfl⟩
      | 8, hi =>
        cases (show some _ = some o from hi)
        have e135 : (f.tmps.getD 135 undef) = .bool true := depS (V := (VS19 A z V)) hdep 7 135 (by decide) (by kernel_rfl)
        clear hdep hsame hi hlate hfr hkeep
        exact .inl ⟨wanted_none rfl, showsO_move hsn rfl _ rfl e135⟩
      | 9, hi =>
        cases (show some _ = some o from hi)
        have e15 : f.tmps.getD 15 undef = .pointer (some ⟨z, 0, none⟩) := hlate 15 (earlyS (by kernel_rfl))
        have eg : f.tmps.getD 136 undef = .bool true := depS (V := (VS19 A z V)) hdep 8 136 (by decide) (by kernel_rfl)
        clear hdep hsame hi hlate hfr hkeep
        exact .inl ⟨wanted_of 8 rfl eg (by kernel_rfl), showsO_move hsn rfl _ rfl e15⟩
      | 10, hi =>
        cases (show some _ = some o from hi)
        have e137 : (f.tmps.getD 137 undef) = .pointer (some ⟨z, 0, none⟩) := depS (V := (VS19 A z V)) hdep 9 137 (by decide) (by kernel_rfl)
        have eg : f.tmps.getD 136 undef = .bool true := depS (V := (VS19 A z V)) hdep 8 136 (by decide) (by kernel_rfl)
        clear hdep hsame hi hlate hfr hkeep
        have c := rhss_any _ u _ _ _ _ _ 0 rfl [] rfl (F0.out.below hb6) (by decide) 0 (Nat.zero_le _)
        exact .inl ⟨wanted_of 8 rfl eg (by kernel_rfl), showsO_call (R := fun v w' => w'.ownsRow 0 28 32 v 0 (hcells []) ∧ ∀ k, v.ownBlock = some k → u.heap.size ≤ k) hsn rfl 13 #[.pointer (some ⟨z, 0, none⟩)] (by simp only [execOp, Act.eval]; go_simp) c (fun v w' h _ => ⟨h.1, fun k hk => hsn.top k (h.2 k hk)⟩)⟩
      | 11, hi =>
        cases (show some _ = some o from hi)
        have e138 : RowN own u (f.tmps.getD 138 undef) 0 28 32 0 (hcells []) := depS (V := (VS19 A z V)) hdep 10 138 (by decide) (by kernel_rfl)
        have eg : f.tmps.getD 136 undef = .bool true := depS (V := (VS19 A z V)) hdep 8 136 (by decide) (by kernel_rfl)
        clear hdep hsame hi hlate hfr hkeep
        obtain ⟨hr1, _⟩ := e138
        obtain ⟨ax, cx, e138, _, _, _⟩ := own_shape hr1
        exact .inl ⟨wanted_of 8 rfl eg (by kernel_rfl), showsO_pure hsn rfl (.int .i64 0) (by simp only [execOp, Act.eval]; first | (go_simp; done) | (go_simp; rfl)) rfl⟩
      | 12, hi =>
        cases (show some _ = some o from hi)
        have e139 : (f.tmps.getD 139 undef) = .int .i64 0 := depS (V := (VS19 A z V)) hdep 11 139 (by decide) (by kernel_rfl)
        have eg : f.tmps.getD 136 undef = .bool true := depS (V := (VS19 A z V)) hdep 8 136 (by decide) (by kernel_rfl)
        clear hdep hsame hi hlate hfr hkeep
        exact .inl ⟨wanted_of 8 rfl eg (by kernel_rfl), showsO_pure hsn rfl (.bool true) (by simp only [execOp, Act.eval]; go_simp) rfl⟩
      | 13, hi =>
        cases (show some _ = some o from hi)
        have e136 : (f.tmps.getD 136 undef) = .bool true := depS (V := (VS19 A z V)) hdep 8 136 (by decide) (by kernel_rfl)
        have e140 : (f.tmps.getD 140 undef) = .bool true := depS (V := (VS19 A z V)) hdep 12 140 (by decide) (by kernel_rfl)
        clear hdep hsame hi hlate hfr hkeep
        exact .inl ⟨wanted_none rfl, showsO_pure hsn rfl (.bool true) (by simp only [execOp, Act.eval]; go_simp) rfl⟩
      | 14, hi =>
        cases (show some _ = some o from hi)
        have e141 : (f.tmps.getD 141 undef) = .bool true := depS (V := (VS19 A z V)) hdep 13 141 (by decide) (by kernel_rfl)
        clear hdep hsame hi hlate hfr hkeep
        exact .inl ⟨wanted_none rfl, showsO_move hsn rfl _ rfl e141⟩
      | 15, hi =>
        cases (show some _ = some o from hi)
        have eg : f.tmps.getD 142 undef = .bool true := depS (V := (VS19 A z V)) hdep 14 142 (by decide) (by kernel_rfl)
        clear hdep hsame hi hlate hfr hkeep
        have c := alive09_any u (HE10.out.below hb6).hs.tab
        exact .inl ⟨wanted_of 14 rfl eg (by kernel_rfl), showsO_call1 hsn rfl 7 #[] (by simp only [execOp, Act.eval]; go_simp) (c) (fun _ => rfl)⟩
      | 16, hi =>
        cases (show some _ = some o from hi)
        have e142 : (f.tmps.getD 142 undef) = .bool true := depS (V := (VS19 A z V)) hdep 14 142 (by decide) (by kernel_rfl)
        have e143 : (f.tmps.getD 143 undef) = .bool true := depS (V := (VS19 A z V)) hdep 15 143 (by decide) (by kernel_rfl)
        clear hdep hsame hi hlate hfr hkeep
        exact .inl ⟨wanted_none rfl, showsO_pure hsn rfl (.bool true) (by simp only [execOp, Act.eval]; go_simp) rfl⟩
      | 17, hi =>
        cases (show some _ = some o from hi)
        have e144 : (f.tmps.getD 144 undef) = .bool true := depS (V := (VS19 A z V)) hdep 16 144 (by decide) (by kernel_rfl)
        clear hdep hsame hi hlate hfr hkeep
        exact .inl ⟨wanted_none rfl, showsO_assign hsn rfl _ rfl e144⟩
      | n + 18, hi => exact absurd hi (by simp)
    intro fr W12 own hsame hsn hall
    have q128 : fr.tmps.getD 128 undef = .pointer (some ⟨z, 0, none⟩) := finO (V := (VS19 A z V)) hall 0 128 rfl
    have q129 : fr.tmps.getD 129 undef = .bool true := finO (V := (VS19 A z V)) hall 1 129 rfl
    have q130 : fr.tmps.getD 130 undef = .bool true := finO (V := (VS19 A z V)) hall 2 130 rfl
    have q131 : fr.tmps.getD 131 undef = .pointer (some ⟨z, 0, none⟩) := finO (V := (VS19 A z V)) hall 3 131 rfl
    have q132 : fr.tmps.getD 132 undef = .agg (ocells (V)) := finO (V := (VS19 A z V)) hall 4 132 rfl
    have q133 : fr.tmps.getD 133 undef = .iface 129 (.pointer (some (A 3))) := finO (V := (VS19 A z V)) hall 5 133 rfl
    have q134 : fr.tmps.getD 134 undef = .bool true := finO (V := (VS19 A z V)) hall 6 134 rfl
    have q135 : fr.tmps.getD 135 undef = .bool true := finO (V := (VS19 A z V)) hall 7 135 rfl
    have q136 : fr.tmps.getD 136 undef = .bool true := finO (V := (VS19 A z V)) hall 8 136 rfl
    have q137 : fr.tmps.getD 137 undef = .pointer (some ⟨z, 0, none⟩) := finO (V := (VS19 A z V)) hall 9 137 rfl
    have m138 := finO (V := (VS19 A z V)) hall 10 138 rfl
    obtain ⟨r138, q138⟩ : ∃ r, fr.tmps.getD 138 undef = r := ⟨_, rfl⟩
    rw [q138] at m138
    have q139 : fr.tmps.getD 139 undef = .int .i64 0 := finO (V := (VS19 A z V)) hall 11 139 rfl
    have q140 : fr.tmps.getD 140 undef = .bool true := finO (V := (VS19 A z V)) hall 12 140 rfl
    have q141 : fr.tmps.getD 141 undef = .bool true := finO (V := (VS19 A z V)) hall 13 141 rfl
    have q142 : fr.tmps.getD 142 undef = .bool true := finO (V := (VS19 A z V)) hall 14 142 rfl
    have q143 : fr.tmps.getD 143 undef = .bool true := finO (V := (VS19 A z V)) hall 15 143 rfl
    have q144 : fr.tmps.getD 144 undef = .bool true := finO (V := (VS19 A z V)) hall 16 144 rfl
    have q6 : fr.tmps.getD 6 undef = .bool true := finO (V := (VS19 A z V)) hall 17 6 rfl
    obtain rfl := frame_eq hsame [(128, .pointer (some ⟨z, 0, none⟩)), (129, .bool true), (130, .bool true), (131, .pointer (some ⟨z, 0, none⟩)), (132, .agg (ocells (V))), (133, .iface 129 (.pointer (some (A 3)))), (134, .bool true), (135, .bool true), (136, .bool true), (137, .pointer (some ⟨z, 0, none⟩)), (138, r138), (139, .int .i64 0), (140, .bool true), (141, .bool true), (142, .bool true), (143, .bool true), (144, .bool true), (6, .bool true)] (by kernel_rfl) ⟨q128, q129, q130, q131, q132, q133, q134, q135, q136, q137, q138, q139, q140, q141, q142, q143, q144, q6, trivial⟩
    clear hall hsame q128 q129 q130 q131 q132 q133 q134 q135 q136 q137 q138 q139 q140 q141 q142 q143 q144 q6
    simp only [List.foldl, List.setIfInBounds_toArray, List.set_cons_succ, List.set_cons_zero]
    have hb := hsn.below (B := W11.heap.size) (fun _ _ => rfl) (Nat.le_refl _)
    clear hsn m138
    have K11 := Bx.mk (K10.out.trans (hb.mono K10.out.size)); have HE11 := Bx.mk (HE10.out.below hb); have F1 := Bx.mk (F0.out.below hb)
    clear hb K10 HE10 F0
    go_wp2_with fail
    go_ret
    exact ⟨rfl, K11.out⟩
end Go.Proofs.YtgbafjmklefoiaaDoor
