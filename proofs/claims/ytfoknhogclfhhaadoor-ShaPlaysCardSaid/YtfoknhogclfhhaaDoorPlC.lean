/- (*cartularylaw04.World).does. -/
import Derived.Test.YtfoknhogclfhhaaDoorPlB
namespace Go.Proofs.YtfoknhogclfhhaaDoor
set_option maxRecDepth 100000
open Go.RowKit
theorem keep_out {own0 own : Nat → Option Nat} {w0 w : World} {G J : Nat} (h : Since own0 w0 own w) (e : own0 = fun j => if j = G then some J else none) : Keep (fun k => k = G) w0 w :=
  ⟨h.os, h.tape, h.output, h.size, fun k hk hn => h.keep k hk (by rw [e]; exact if_neg hn)⟩
theorem dig_rel {mk own own' : Nat → Option Nat} {w w' : World} {i base p : Nat} {m : List UInt8} {S : Nat → Prop} (h : DigP base w p m S) (hn : ∀ b, S b → own b = none) (r : Rel mk i own w own' w') : DigP base w' p m S ∧ ∀ b, S b → own' b = none :=
  ⟨h.kept (T := fun k => own k = some i) ⟨r.os, r.tape, r.output, r.size, fun k hk hk2 => r.keep k hk hk2⟩ (fun j hj e => by rw [hn j hj] at e; cases e), fun b hb => (r.owns b (h.lt b hb)).trans (hn b hb)⟩
/-- what a call leaves -/
def DoesPost (base G M : Nat) (w w' : World) : Prop := ∃ p' r' m' S', PlW base w' G p' r' m' S' ∧ (∀ k, k < 3 → sb (r' k) = m' k) ∧ (∀ k, k < 3 → (m' k).length ≤ M) ∧ Below base w w'
theorem xz_le {x : ByteArray} {l : List UInt8} (h1 : x.size ≤ 4194304) (h2 : l.length ≤ 4194304) : x.size + l.length ≤ 9223372036854775807 := by omega
theorem sb_app (x : ByteArray) (l : List UInt8) : sb (x ++ (⟨l.toArray⟩ : ByteArray)) = sb x ++ l := by
  unfold sb
  rw [ByteArray.data_append, Array.toList_append]
def VPd7 (G K n3 dc : Nat) (da : Option Addr) (x : ByteArray) (l : List UInt8) (gc : Array Value) (oi : Nat) (v : Value) (own : Nat → Option Nat) (w : World) : Prop :=
  match oi with
  | 0 => v = .pointer (some ⟨G, 0, none⟩)
  | 1 => v = .int .i64 (K : Int)
  | 2 => v = .pointer (some ⟨G, 0, none⟩)
  | 3 => v = .int .i64 (K : Int)
  | 4 => v = .pointer (some ⟨G, 0, none⟩)
  | 5 => v = .pointer (some ⟨G, 3, none⟩)
  | 6 => v = .pointer (some ⟨G, 3 + K, none⟩)
  | 7 => v = .string x
  | 8 => v = .pointer (some ⟨n3, 2, none⟩)
  | 9 => v = .slice da l.length dc
  | 10 => v = .string ⟨l.toArray⟩
  | 11 => v = .string (x ++ (⟨l.toArray⟩ : ByteArray))
  | 12 => v = .pointer (some ⟨G, 0, none⟩)
  | 13 => v = .pointer (some ⟨G, 3, none⟩)
  | 14 => v = .pointer (some ⟨G, 3 + K, none⟩)
  | 15 => OutV own w (G) 15 28 (gc.setIfInBounds (3 + K) (.string (x ++ (⟨l.toArray⟩ : ByteArray))))
  | _ => True
def VPd7mk : Nat → Option Nat := fun _ => none
theorem VPd7_mono (G K n3 dc : Nat) (da : Option Addr) (x : ByteArray) (l : List UInt8) (gc : Array Value) (oi oj : Nat) (v : Value) (own : Nat → Option Nat) (w : World) (own' : Nat → Option Nat) (w' : World) (hij : oi ≠ oj)   (h : VPd7 G K n3 dc da x l gc oj v own w) (r : Rel VPd7mk oi own w own' w') : VPd7 G K n3 dc da x l gc oj v own' w' := by
  unfold VPd7 at h ⊢
  split at h
  · exact h
  · exact h
  · exact h
  · exact h
  · exact h
  · exact h
  · exact h
  · exact h
  · exact h
  · exact h
  · exact h
  · exact h
  · exact h
  · exact h
  · exact h
  · exact h.stable r hij
  · trivial

def VPd15 (G K N B0 pk : Nat) (mm : List UInt8) (gc : Array Value) (oi : Nat) (v : Value) (own : Nat → Option Nat) (w : World) : Prop :=
  match oi with
  | 0 => v = .pointer (some ⟨G, 0, none⟩)
  | 1 => v = .int .i64 (N : Int)
  | 2 => v = .pointer (some ⟨G, 0, none⟩)
  | 3 => v = .int .i64 (K : Int)
  | 4 => v = .pointer (some ⟨G, 0, none⟩)
  | 5 => v = .pointer (some ⟨G, 0, none⟩)
  | 6 => v = .pointer (some ⟨G, K, none⟩)
  | 7 => v = .pointer (some ⟨pk, 0, none⟩)
  | 8 => ∃ (p' : Nat) (S' : Nat → Prop), v = .pointer (some ⟨p', 0, none⟩) ∧ DigP B0 w p' mm S' ∧ ∀ b, S' b → own b = none
  | 9 => v = .pointer (some ⟨G, 0, none⟩)
  | 10 => v = .pointer (some ⟨G, 0, none⟩)
  | 11 => v = .pointer (some ⟨G, N, none⟩)
  | 12 => ∃ (p' : Nat) (S' : Nat → Prop), OutV own w G 12 28 (gc.setIfInBounds N (.pointer (some ⟨p', 0, none⟩))) ∧ DigP B0 w p' mm S' ∧ ∀ b, S' b → own b = none
  | _ => True
def VPd15mk : Nat → Option Nat := fun _ => none
theorem VPd15_mono (G K N B0 pk : Nat) (mm : List UInt8) (gc : Array Value) (oi oj : Nat) (v : Value) (own : Nat → Option Nat) (w : World) (own' : Nat → Option Nat) (w' : World) (hij : oi ≠ oj)   (h : VPd15 G K N B0 pk mm gc oj v own w) (r : Rel VPd15mk oi own w own' w') : VPd15 G K N B0 pk mm gc oj v own' w' := by
  unfold VPd15 at h ⊢
  split at h
  · exact h
  · exact h
  · exact h
  · exact h
  · exact h
  · exact h
  · exact h
  · exact h
  · exact (by obtain ⟨p', S', h1, h2, h3⟩ := h; obtain ⟨h4, h5⟩ := dig_rel h2 h3 r; exact ⟨p', S', h1, h4, h5⟩)
  · exact h
  · exact h
  · exact h
  · exact (by obtain ⟨p', S', h1, h2, h3⟩ := h; obtain ⟨h4, h5⟩ := dig_rel h2 h3 r; exact ⟨p', S', h1.stable r hij, h4, h5⟩)
  · trivial

def VPd18 (G K _N B0 _pk : Nat) (mm : List UInt8) (gc : Array Value) (oi : Nat) (v : Value) (own : Nat → Option Nat) (w : World) : Prop :=
  match oi with
  | 0 => v = .pointer (some ⟨G, 0, none⟩)
  | 1 => v = .int .i64 (K : Int)
  | 2 => ∃ (p' : Nat) (S' : Nat → Prop), v = .pointer (some ⟨p', 0, none⟩) ∧ DigP B0 w p' mm S' ∧ ∀ b, S' b → own b = none
  | 3 => v = .pointer (some ⟨G, 0, none⟩)
  | 4 => v = .pointer (some ⟨G, 0, none⟩)
  | 5 => v = .pointer (some ⟨G, K, none⟩)
  | 6 => ∃ (p' : Nat) (S' : Nat → Prop), OutV own w G 6 28 (gc.setIfInBounds K (.pointer (some ⟨p', 0, none⟩))) ∧ DigP B0 w p' mm S' ∧ ∀ b, S' b → own b = none
  | _ => True
def VPd18mk : Nat → Option Nat := fun _ => none
theorem VPd18_mono (G K N B0 pk : Nat) (mm : List UInt8) (gc : Array Value) (oi oj : Nat) (v : Value) (own : Nat → Option Nat) (w : World) (own' : Nat → Option Nat) (w' : World) (hij : oi ≠ oj)   (h : VPd18 G K N B0 pk mm gc oj v own w) (r : Rel VPd18mk oi own w own' w') : VPd18 G K N B0 pk mm gc oj v own' w' := by
  unfold VPd18 at h ⊢
  split at h
  · exact h
  · exact h
  · exact (by obtain ⟨p', S', h1, h2, h3⟩ := h; obtain ⟨h4, h5⟩ := dig_rel h2 h3 r; exact ⟨p', S', h1, h4, h5⟩)
  · exact h
  · exact h
  · exact h
  · exact (by obtain ⟨p', S', h1, h2, h3⟩ := h; obtain ⟨h4, h5⟩ := dig_rel h2 h3 r; exact ⟨p', S', h1.stable r hij, h4, h5⟩)
  · trivial

def VPd16 (G K N : Nat) (x : ByteArray) (gc2 : Array Value) (oi : Nat) (v : Value) (own : Nat → Option Nat) (w : World) : Prop :=
  match oi with
  | 0 => v = .pointer (some ⟨G, 0, none⟩)
  | 1 => v = .int .i64 (N : Int)
  | 2 => v = .pointer (some ⟨G, 0, none⟩)
  | 3 => v = .int .i64 (K : Int)
  | 4 => v = .pointer (some ⟨G, 0, none⟩)
  | 5 => v = .pointer (some ⟨G, 3, none⟩)
  | 6 => v = .pointer (some ⟨G, 3 + K, none⟩)
  | 7 => v = .string x
  | 8 => v = .pointer (some ⟨G, 0, none⟩)
  | 9 => v = .pointer (some ⟨G, 3, none⟩)
  | 10 => v = .pointer (some ⟨G, 3 + N, none⟩)
  | 11 => OutV own w (G) 11 28 (gc2.setIfInBounds (3 + N) (.string x))
  | _ => True
def VPd16mk : Nat → Option Nat := fun _ => none
theorem VPd16_mono (G K N : Nat) (x : ByteArray) (gc2 : Array Value) (oi oj : Nat) (v : Value) (own : Nat → Option Nat) (w : World) (own' : Nat → Option Nat) (w' : World) (hij : oi ≠ oj)   (h : VPd16 G K N x gc2 oj v own w) (r : Rel VPd16mk oi own w own' w') : VPd16 G K N x gc2 oj v own' w' := by
  unfold VPd16 at h ⊢
  split at h
  · exact h
  · exact h
  · exact h
  · exact h
  · exact h
  · exact h
  · exact h
  · exact h
  · exact h
  · exact h
  · exact h
  · exact h.stable r hij
  · trivial

set_option maxHeartbeats 6400000 in
theorem does_any (base : Nat) (w : World) (G : Nat) (p : Nat → Nat) (r : Nat → ByteArray) (m : Nat → List UInt8) (S : Nat → Nat → Prop) (hP : PlW base w G p r m S) (hr : ∀ k, k < 3 → sb (r k) = m k) (M : Nat) (hm : ∀ k, k < 3 → (m k).length ≤ M)
    (kind on : Int) (da : Option Addr) (dc : Nat) (l : List UInt8) (hM : M + l.length ≤ 1048576) (hS' : ∀ u, Below base w u → Src u (.slice da l.length dc) l) (hT : Tab w) (hg : 0 < base) (hbase : base ≤ w.heap.size) :
    Calls Tryd.prog 11 #[.pointer (some ⟨G, 0, none⟩), .agg #[.int .i64 kind, .int .i64 on, .slice da l.length dc]] w fun e w' => e = .returned (.bool true) ∧ DoesPost base G (M + l.length) w w' := by
  have hT' : ∀ u, Below base w u → Tab u := fun u h => hT.kept (Keep.mono ⟨h.os, h.tape, h.output, h.size, fun k hk hn => h.block k (Nat.lt_of_not_le hn)⟩ (fun _ _ h => h) : Keep (fun k => base ≤ k) w u) (Nat.lt_of_lt_of_le hg hbase) (fun h => by omega)
  have x3 : (w.alloc (.cells #[.int .i64 kind, .int .i64 on, .slice da l.length dc] 32)).heap[w.heap.size]? = some (.cells #[.int .i64 kind, .int .i64 on, .slice da l.length dc] 32) := heap_alloc_new _ _
  have kb : Below w.heap.size w (w.alloc (.cells #[.int .i64 kind, .int .i64 on, .slice da l.length dc] 32)) := (Below.refl _ _).alloc (Nat.le_refl _) _
  have pw := hP.below kb
  have hPP := hP
  have hmax : ∀ k, k < 3 → (r k).size ≤ 4194304 := fun k hk => by have := hm k hk; rw [← hr k hk] at this; simp [sb] at this; omega
  have HT := Bx.mk hT'; have HS := Bx.mk hS'; have RR0 := Bx.mk hr; have MM0 := Bx.mk hm; have ML := Bx.mk hM; have HG := Bx.mk hg; have BL := Bx.mk hbase; have RZ := Bx.mk hmax
  clear hT hT' hS' hr hm hM hg hbase hP hmax
  go_enter Tryd.func11, Tryd.ntmps11
  go_upto_region 1 with (fail)
  generalize w.alloc (.cells #[.int .i64 kind, .int .i64 on, .slice da l.length dc] 32) = W at x3 kb pw ⊢
  obtain ⟨n3, hn3⟩ : ∃ n, n = w.heap.size := ⟨_, rfl⟩
  rw [← hn3] at x3 ⊢
  have X3 := Bx.mk x3; have PW0 := Bx.mk pw
  have KB0 := Bx.mk (kb.mono BL.out)
  have N3L := Bx.mk (show n3 < W.heap.size ∧ n3 ≠ G ∧ (∀ i, i < 3 → ∀ b, S i b → b ≠ n3) ∧ base ≤ n3 from ⟨(Array.getElem?_eq_some_iff.1 x3).1, fun e => by subst e; have := x3.symm.trans pw.hG; simp at this, fun i hi b hb e => by subst e; have := (hPP.ds.dg i hi).lt b hb; omega, by rw [hn3]; exact BL.out⟩)
  clear x3 pw kb hn3 hPP
  obtain ⟨uo, huo⟩ : ∃ uo : Nat, IntKind.u64.wrap on = (uo : Int) := ⟨(IntKind.u64.wrap on).toNat, by rw [IntKind.wrap_u64]; omega⟩
  obtain ⟨K, hK⟩ : ∃ K, K = uo % 3 := ⟨_, rfl⟩
  obtain ⟨N, hN⟩ : ∃ N, N = (K + 1) % 3 := ⟨_, rfl⟩
  have d1 : ((uo : Int)).tmod 3 = (K : Int) := by rw [Int.tmod_eq_emod_of_nonneg (by omega)]; omega
  have d4 : ((K : Int) + 1).tmod 3 = (N : Int) := by rw [Int.tmod_eq_emod_of_nonneg (by omega)]; omega
  have d2 : IntKind.i64.wrap (K : Int) = (K : Int) := by simp [IntKind.wrap, IntKind.bits, IntKind.signed]; omega
  have d3 : IntKind.i64.wrap ((K : Int) + 1) = (K : Int) + 1 := by simp [IntKind.wrap, IntKind.bits, IntKind.signed]; omega
  have d5 : (uo : Int) % 3 = (K : Int) := by omega
  have d6 : ((K : Int) + 1) % 3 = (N : Int) := by omega
  have KL := Bx.mk (show K < 3 by omega); have NL := Bx.mk (show N < 3 by omega); have KN := Bx.mk (show N ≠ K by omega)
  clear hK hN
  have c0 : W.cell? ⟨n3, 0, none⟩ = some (.int .i64 kind) := er_cellAt X3.out 0 _ rfl
  have c1 : W.cell? ⟨n3, 1, none⟩ = some (.int .i64 on) := er_cellAt X3.out 1 _ rfl
  go_upto_region 4 with (fail)
  clear d1 d2 d3 d4 d5 d6 huo c0 c1
  obtain ⟨gc, hgc⟩ : ∃ gc, gc = Gc (fun k => ptr (p k)) r := ⟨_, rfl⟩
  have CQ := Bx.mk (show gc[K]? = some (.pointer (some ⟨p K, 0, none⟩)) by rw [hgc]; exact Gc_q _ _ K KL.out)
  have CN := Bx.mk (show gc[N]? = some (.pointer (some ⟨p N, 0, none⟩)) by rw [hgc]; exact Gc_q _ _ N NL.out)
  have CR := Bx.mk (show gc[3 + K]? = some (.string (r K)) by rw [hgc]; exact Gc_r _ _ K KL.out)
  have CRN := Bx.mk (show gc[3 + N]? = some (.string (r N)) by rw [hgc]; exact Gc_r _ _ N NL.out)
  have XG0 := Bx.mk (show W.heap[G]? = some (.cells gc 28 (0, 0)) by rw [hgc]; exact PW0.out.hG)
  have HGC := Bx.mk hgc
  clear hgc
  by_cases hk1 : kind = 1
  · have hk1' : (kind == 1) = true := beq_iff_eq.2 hk1
    clear hk1
    have c2 : W.cell? ⟨n3, 2, none⟩ = some (.slice da l.length dc) := er_cellAt X3.out 2 _ rfl
    have hro : Ro FB W (.slice da l.length dc) l := by obtain ⟨a', c', h1, h2, h3, _, h5⟩ := HS.out W KB0.out; exact ⟨a', c', h1, h2, h3, h5⟩
    have ct := twinB_any W da l.length dc l hro (by have := ML.out; omega)
    have CT := Bx.mk ct
    clear ct hro
    go_wp2_with fail
    refine CT.out.mono ?_
    rintro e w1 ⟨vt, rfl, htw, hob, hb⟩
    obtain ⟨B7, rfl, hB7⟩ := htw
    have eB : B7 = W.heap.size := by cases hob; rfl
    have K1 := Bx.mk hb
    have PW1 := Bx.mk (PW0.out.below hb)
    have XG1 := Bx.mk ((hb.block G (Array.getElem?_eq_some_iff.1 XG0.out).1).trans XG0.out)
    have X31 := Bx.mk ((hb.block n3 (Array.getElem?_eq_some_iff.1 X3.out).1).trans X3.out)
    have KB1 := Bx.mk (KB0.out.trans (hb.mono (Nat.le_trans BL.out KB0.out.size)))
    have B7L := Bx.mk (show B7 < w1.heap.size ∧ B7 ≠ G ∧ B7 ≠ n3 ∧ base ≤ B7 ∧ (∀ i, i < 3 → ∀ b, S i b → b ≠ B7) from ⟨(Array.getElem?_eq_some_iff.1 hB7).1, fun e => by have := (Array.getElem?_eq_some_iff.1 XG0.out).1; omega, fun e => by have := N3L.out.1; omega, by have := KB0.out.size; have := BL.out; omega, fun i hi b hb2 e => by have := (PW0.out.ds.dg i hi).lt b hb2; omega⟩)
    have XB1 := Bx.mk hB7
    clear hb hob eB hB7 CT c2
    have c0 := er_cellAt XG1.out K _ CQ.out
    have f1 : ¬ (3 : Int) ≤ (K : Int) := by have := KL.out; omega
    have f2 : (K : Int) < (3 : Int) := by have := KL.out; omega
    have hsrc : Src w1 (.slice (some ⟨B7, 0, none⟩) l.length (l.length + 1)) l := by
      have htw : TwinR FB 5 markB w1 (.slice (some ⟨B7, 0, none⟩) l.length (l.length + 1)) l := ⟨B7, rfl, XB1.out⟩
      obtain ⟨a', c', h1, h2, h3, h5⟩ := htw.ro (by have := ML.out; unfold maxLen; omega)
      exact ⟨a', c', h1, h2, h3, (fun h => by rw [h] at h1; cases h1), h5⟩
    have cw := writeP base w1 (p K) (.slice (some ⟨B7, 0, none⟩) l.length (l.length + 1)) (m K) l (S K) (PW1.out.ds.dg K KL.out) (HT.out w1 KB1.out) HG.out hsrc (fun k hk => by cases hk; intro h; exact B7L.out.2.2.2.2 K KL.out _ h rfl) (by have := MM0.out K KL.out; have := ML.out; omega) (Nat.le_trans BL.out KB1.out.size)
    have CW := Bx.mk cw
    clear hsrc cw
    go_wp2_with fail
    refine CW.out.mono ?_
    rintro e w2 ⟨rfl, ⟨S', hd', hs'⟩, hk⟩
    have hSB : ∀ b, S' b → b ≠ B7 ∧ b ≠ n3 ∧ b ≠ G := fun b hb => by
      rcases hs' b hb with h | h
      · exact ⟨B7L.out.2.2.2.2 K KL.out b h, N3L.out.2.2.1 K KL.out b h, fun e => by subst e; exact PW0.out.ds.ng K KL.out h⟩
      · have := B7L.out.1; have := (Array.getElem?_eq_some_iff.1 X31.out).1; have := (Array.getElem?_eq_some_iff.1 XG1.out).1
        exact ⟨by omega, by omega, by omega⟩
    have DS2 := Bx.mk (PW1.out.ds.put K hk (fun i hi hiK b hb1 hb2 => PW0.out.ds.ap i K hi KL.out hiK b hb1 hb2) (Array.getElem?_eq_some_iff.1 XG1.out).1 (p K) (m K ++ l) S' hd' hs')
    have XG2 := Bx.mk ((hk.block G (Array.getElem?_eq_some_iff.1 XG1.out).1 (PW0.out.ds.ng K KL.out)).trans XG1.out)
    have X32 := Bx.mk ((hk.block n3 (Array.getElem?_eq_some_iff.1 X31.out).1 (fun h => N3L.out.2.2.1 K KL.out _ h rfl)).trans X31.out)
    have XB2 := Bx.mk ((hk.block B7 (Array.getElem?_eq_some_iff.1 XB1.out).1 (fun h => B7L.out.2.2.2.2 K KL.out _ h rfl)).trans XB1.out)
    have KB2 := Bx.mk (KB1.out.trans (hk.below (Nat.le_trans BL.out KB1.out.size) (fun b hb => (PW0.out.ds.dg K KL.out).ge b hb)))
    have SB2 := Bx.mk hSB
    clear hk hs' hd' hSB CW PW1 XG1 X31 KB1 XB1 K1 c0 f1 f2
    have XG := XG2; have X3' := X32
    clear XG0 X3
    have X3 := X3'
    have XGL := Bx.mk (Array.getElem?_eq_some_iff.1 XG.out).1
    have N3G := Bx.mk N3L.out.2.1
    have SD := Bx.mk (fun u (hu : Keep (fun k => k = G) w2 u) => HS.out u (KB2.out.trans (hu.below (Nat.le_trans BL.out KB2.out.size) (fun k hk => by subst hk; exact PW0.out.gb))))
    obtain ⟨x, hx⟩ : ∃ x, x = r K := ⟨_, rfl⟩
    rw [← hx] at CR
    have HX := Bx.mk hx
    have XZ := Bx.mk (xz_le (show x.size ≤ 4194304 by rw [hx]; exact RZ.out K KL.out) (show l.length ≤ 4194304 by have := ML.out; omega))
    clear hx X3'
    go_upto_region 7 with (fail)
    refine wp_region_own8 (n := 130) VPd7mk (fun j => if j = G then some 15 else none) (VPd7 G K n3 dc da x l gc) (by kernel_rfl) (by kernel_rfl) rfl (fun j hj => if_neg (by have := XGL.out; omega)) (fun j i hj _ => by cases hj) ?_ ?_ ?_
    · exact fun oi oj v own w own' w' hij _ h r => VPd7_mono G K n3 dc da x l gc oi oj v own w own' w' hij h r
    · intro oi o hi f u own hsame hsn hfr hlate hkeep8 hdep
      have hkeep := hkeep8 _ (.inl rfl)
      have hku := keep_out hsn rfl
      match oi, hi with
      | 0, hi =>
        cases (show some _ = some o from hi)
        have e0 : f.tmps.getD 0 undef = .pointer (some ⟨G, 0, none⟩) := hsame.slot 0 (fun i o h => invB2_not 0 (by kernel_rfl) h)
        clear hdep hsame hi hlate hfr hkeep
        exact .inl ⟨wanted_none rfl, showsO_move hsn rfl _ rfl e0⟩
      | 1, hi =>
        cases (show some _ = some o from hi)
        have e5 : f.tmps.getD 5 undef = .int .i64 (K : Int) := hsame.slot 5 (fun i o h => invB2_not 5 (by kernel_rfl) h)
        clear hdep hsame hi hlate hfr hkeep
        exact .inl ⟨wanted_none rfl, showsO_move hsn rfl _ rfl e5⟩
      | 2, hi =>
        cases (show some _ = some o from hi)
        have e0 : f.tmps.getD 0 undef = .pointer (some ⟨G, 0, none⟩) := hsame.slot 0 (fun i o h => invB2_not 0 (by kernel_rfl) h)
        clear hdep hsame hi hlate hfr hkeep
        exact .inl ⟨wanted_none rfl, showsO_move hsn rfl _ rfl e0⟩
      | 3, hi =>
        cases (show some _ = some o from hi)
        have e5 : f.tmps.getD 5 undef = .int .i64 (K : Int) := hsame.slot 5 (fun i o h => invB2_not 5 (by kernel_rfl) h)
        clear hdep hsame hi hlate hfr hkeep
        exact .inl ⟨wanted_none rfl, showsO_move hsn rfl _ rfl e5⟩
      | 4, hi =>
        cases (show some _ = some o from hi)
        have e34 : (f.tmps.getD 34 undef) = .pointer (some ⟨G, 0, none⟩) := depO (V := (VPd7 G K n3 dc da x l gc)) hdep 2 34 (by kernel_rfl) (by kernel_rfl)
        clear hdep hsame hi hlate hfr hkeep
        exact .inl ⟨wanted_none rfl, showsO_pure hsn rfl (.pointer (some ⟨G, 0, none⟩)) (by simp only [execOp, Act.eval]; go_simp) rfl⟩
      | 5, hi =>
        cases (show some _ = some o from hi)
        have e36 : (f.tmps.getD 36 undef) = .pointer (some ⟨G, 0, none⟩) := depO (V := (VPd7 G K n3 dc da x l gc)) hdep 4 36 (by kernel_rfl) (by kernel_rfl)
        clear hdep hsame hi hlate hfr hkeep
        exact .inl ⟨wanted_none rfl, showsO_pure hsn rfl (.pointer (some ⟨G, 3, none⟩)) (by simp only [execOp, Act.eval]; go_simp) rfl⟩
      | 6, hi =>
        cases (show some _ = some o from hi)
        have e35 : (f.tmps.getD 35 undef) = .int .i64 (K : Int) := depO (V := (VPd7 G K n3 dc da x l gc)) hdep 3 35 (by kernel_rfl) (by kernel_rfl)
        have e37 : (f.tmps.getD 37 undef) = .pointer (some ⟨G, 3, none⟩) := depO (V := (VPd7 G K n3 dc da x l gc)) hdep 5 37 (by kernel_rfl) (by kernel_rfl)
        clear hdep hsame hi hlate hfr hkeep
        have f1 : ¬ (3 : Int) ≤ (K : Int) := by have := KL.out; omega
        have f2 : (K : Int) < (3 : Int) := by have := KL.out; omega
        exact .inl ⟨wanted_none rfl, showsO_pure hsn rfl (.pointer (some ⟨G, 3 + K, none⟩)) (by simp only [execOp, Act.eval]; go_simp) rfl⟩
      | 7, hi =>
        cases (show some _ = some o from hi)
        have e38 : (f.tmps.getD 38 undef) = .pointer (some ⟨G, 3 + K, none⟩) := depO (V := (VPd7 G K n3 dc da x l gc)) hdep 6 38 (by kernel_rfl) (by kernel_rfl)
        clear hdep hsame hi hlate hfr hkeep
        have hgu := (hkeep8 15 (.inr (by kernel_rfl)) G XGL.out (if_pos rfl)).trans XG.out
        have c0 := er_cellAt hgu (3 + K) _ CR.out
        exact .inl ⟨wanted_none rfl, showsO_pure hsn rfl (.string x) (by simp only [execOp, Act.eval]; go_simp) rfl⟩
      | 8, hi =>
        cases (show some _ = some o from hi)
        have e3 : f.tmps.getD 3 undef = .pointer (some ⟨n3, 0, none⟩) := hsame.slot 3 (fun i o h => invB2_not 3 (by kernel_rfl) h)
        clear hdep hsame hi hlate hfr hkeep
        exact .inl ⟨wanted_none rfl, showsO_pure hsn rfl (.pointer (some ⟨n3, 2, none⟩)) (by simp only [execOp, Act.eval]; go_simp) rfl⟩
      | 9, hi =>
        cases (show some _ = some o from hi)
        have e40 : (f.tmps.getD 40 undef) = .pointer (some ⟨n3, 2, none⟩) := depO (V := (VPd7 G K n3 dc da x l gc)) hdep 8 40 (by kernel_rfl) (by kernel_rfl)
        clear hdep hsame hi hlate hfr hkeep
        have c0 := er_cellAt ((hku.block n3 (Array.getElem?_eq_some_iff.1 X3.out).1 N3G.out).trans X3.out) 2 _ rfl
        exact .inl ⟨wanted_none rfl, showsO_pure hsn rfl (.slice da l.length dc) (by simp only [execOp, Act.eval]; go_simp) rfl⟩
      | 10, hi =>
        cases (show some _ = some o from hi)
        have e41 : (f.tmps.getD 41 undef) = .slice da l.length dc := depO (V := (VPd7 G K n3 dc da x l gc)) hdep 9 41 (by kernel_rfl) (by kernel_rfl)
        clear hdep hsame hi hlate hfr hkeep
        have q := str_src u da l.length dc l (SD.out u hku)
        exact .inl ⟨wanted_none rfl, showsO_pure hsn rfl (.string ⟨l.toArray⟩) (by simp only [execOp, Act.eval]; go_simp) rfl⟩
      | 11, hi =>
        cases (show some _ = some o from hi)
        have e39 : (f.tmps.getD 39 undef) = .string x := depO (V := (VPd7 G K n3 dc da x l gc)) hdep 7 39 (by kernel_rfl) (by kernel_rfl)
        have e42 : (f.tmps.getD 42 undef) = .string ⟨l.toArray⟩ := depO (V := (VPd7 G K n3 dc da x l gc)) hdep 10 42 (by kernel_rfl) (by kernel_rfl)
        clear hdep hsame hi hlate hfr hkeep
        have f3 := XZ.out
        exact .inl ⟨wanted_none rfl, showsO_pure hsn rfl (.string (x ++ (⟨l.toArray⟩ : ByteArray))) (by simp only [execOp, Act.eval]; go_simp) rfl⟩
      | 12, hi =>
        cases (show some _ = some o from hi)
        have e32 : (f.tmps.getD 32 undef) = .pointer (some ⟨G, 0, none⟩) := depO (V := (VPd7 G K n3 dc da x l gc)) hdep 0 32 (by kernel_rfl) (by kernel_rfl)
        clear hdep hsame hi hlate hfr hkeep
        exact .inl ⟨wanted_none rfl, showsO_pure hsn rfl (.pointer (some ⟨G, 0, none⟩)) (by simp only [execOp, Act.eval]; go_simp) rfl⟩
      | 13, hi =>
        cases (show some _ = some o from hi)
        have e44 : (f.tmps.getD 44 undef) = .pointer (some ⟨G, 0, none⟩) := depO (V := (VPd7 G K n3 dc da x l gc)) hdep 12 44 (by kernel_rfl) (by kernel_rfl)
        clear hdep hsame hi hlate hfr hkeep
        exact .inl ⟨wanted_none rfl, showsO_pure hsn rfl (.pointer (some ⟨G, 3, none⟩)) (by simp only [execOp, Act.eval]; go_simp) rfl⟩
      | 14, hi =>
        cases (show some _ = some o from hi)
        have e33 : (f.tmps.getD 33 undef) = .int .i64 (K : Int) := depO (V := (VPd7 G K n3 dc da x l gc)) hdep 1 33 (by kernel_rfl) (by kernel_rfl)
        have e45 : (f.tmps.getD 45 undef) = .pointer (some ⟨G, 3, none⟩) := depO (V := (VPd7 G K n3 dc da x l gc)) hdep 13 45 (by kernel_rfl) (by kernel_rfl)
        clear hdep hsame hi hlate hfr hkeep
        have f1 : ¬ (3 : Int) ≤ (K : Int) := by have := KL.out; omega
        have f2 : (K : Int) < (3 : Int) := by have := KL.out; omega
        exact .inl ⟨wanted_none rfl, showsO_pure hsn rfl (.pointer (some ⟨G, 3 + K, none⟩)) (by simp only [execOp, Act.eval]; go_simp) rfl⟩
      | 15, hi =>
        cases (show some _ = some o from hi)
        have e43 : (f.tmps.getD 43 undef) = .string (x ++ (⟨l.toArray⟩ : ByteArray)) := depO (V := (VPd7 G K n3 dc da x l gc)) hdep 11 43 (by kernel_rfl) (by kernel_rfl)
        have e46 : (f.tmps.getD 46 undef) = .pointer (some ⟨G, 3 + K, none⟩) := depO (V := (VPd7 G K n3 dc da x l gc)) hdep 14 46 (by kernel_rfl) (by kernel_rfl)
        clear hdep hsame hi hlate hfr hkeep
        have hst := er_cellAt ((hkeep8 15 (.inl rfl) G XGL.out (if_pos rfl)).trans XG.out) (3 + K) _ CR.out
        have hfr2 : u.frozen? ⟨G, 3 + K, none⟩ = false := by simp [World.frozen?, (hkeep8 15 (.inl rfl) G XGL.out (if_pos rfl)).trans XG.out]
        exact .inl ⟨wanted_none rfl, showsO_store_cell hsn hkeep8 rfl G (3 + K) gc 28 XG.out (if_pos rfl) (.string (x ++ (⟨l.toArray⟩ : ByteArray))) (by simp only [execOp, Act.eval]; go_simp) (fun h => h)⟩
      | n + 16, hi => exact absurd hi (by simp)
    · intro f u own hsame hsn hall
      have q32 : f.tmps.getD 32 undef = .pointer (some ⟨G, 0, none⟩) := finO (V := (VPd7 G K n3 dc da x l gc)) hall 0 32 rfl
      have q33 : f.tmps.getD 33 undef = .int .i64 (K : Int) := finO (V := (VPd7 G K n3 dc da x l gc)) hall 1 33 rfl
      have q34 : f.tmps.getD 34 undef = .pointer (some ⟨G, 0, none⟩) := finO (V := (VPd7 G K n3 dc da x l gc)) hall 2 34 rfl
      have q35 : f.tmps.getD 35 undef = .int .i64 (K : Int) := finO (V := (VPd7 G K n3 dc da x l gc)) hall 3 35 rfl
      have q36 : f.tmps.getD 36 undef = .pointer (some ⟨G, 0, none⟩) := finO (V := (VPd7 G K n3 dc da x l gc)) hall 4 36 rfl
      have q37 : f.tmps.getD 37 undef = .pointer (some ⟨G, 3, none⟩) := finO (V := (VPd7 G K n3 dc da x l gc)) hall 5 37 rfl
      have q38 : f.tmps.getD 38 undef = .pointer (some ⟨G, 3 + K, none⟩) := finO (V := (VPd7 G K n3 dc da x l gc)) hall 6 38 rfl
      have q39 : f.tmps.getD 39 undef = .string x := finO (V := (VPd7 G K n3 dc da x l gc)) hall 7 39 rfl
      have q40 : f.tmps.getD 40 undef = .pointer (some ⟨n3, 2, none⟩) := finO (V := (VPd7 G K n3 dc da x l gc)) hall 8 40 rfl
      have q41 : f.tmps.getD 41 undef = .slice da l.length dc := finO (V := (VPd7 G K n3 dc da x l gc)) hall 9 41 rfl
      have q42 : f.tmps.getD 42 undef = .string ⟨l.toArray⟩ := finO (V := (VPd7 G K n3 dc da x l gc)) hall 10 42 rfl
      have q43 : f.tmps.getD 43 undef = .string (x ++ (⟨l.toArray⟩ : ByteArray)) := finO (V := (VPd7 G K n3 dc da x l gc)) hall 11 43 rfl
      have q44 : f.tmps.getD 44 undef = .pointer (some ⟨G, 0, none⟩) := finO (V := (VPd7 G K n3 dc da x l gc)) hall 12 44 rfl
      have q45 : f.tmps.getD 45 undef = .pointer (some ⟨G, 3, none⟩) := finO (V := (VPd7 G K n3 dc da x l gc)) hall 13 45 rfl
      have q46 : f.tmps.getD 46 undef = .pointer (some ⟨G, 3 + K, none⟩) := finO (V := (VPd7 G K n3 dc da x l gc)) hall 14 46 rfl
      obtain ⟨o_15, m_15⟩ : OutV own u (G) 15 28 (gc.setIfInBounds (3 + K) (.string (x ++ (⟨l.toArray⟩ : ByteArray)))) := finN (V := (VPd7 G K n3 dc da x l gc)) hall 15 rfl
      obtain rfl := frame_eq hsame [(32, .pointer (some ⟨G, 0, none⟩)), (33, .int .i64 (K : Int)), (34, .pointer (some ⟨G, 0, none⟩)), (35, .int .i64 (K : Int)), (36, .pointer (some ⟨G, 0, none⟩)), (37, .pointer (some ⟨G, 3, none⟩)), (38, .pointer (some ⟨G, 3 + K, none⟩)), (39, .string x), (40, .pointer (some ⟨n3, 2, none⟩)), (41, .slice da l.length dc), (42, .string ⟨l.toArray⟩), (43, .string (x ++ (⟨l.toArray⟩ : ByteArray))), (44, .pointer (some ⟨G, 0, none⟩)), (45, .pointer (some ⟨G, 3, none⟩)), (46, .pointer (some ⟨G, 3 + K, none⟩))] (by kernel_rfl) ⟨q32, q33, q34, q35, q36, q37, q38, q39, q40, q41, q42, q43, q44, q45, q46, trivial⟩
      clear hall hsame q32 q33 q34 q35 q36 q37 q38 q39 q40 q41 q42 q43 q44 q45 q46
      simp only [List.foldl, List.setIfInBounds_toArray, List.set_cons_succ, List.set_cons_zero]
      have hku := keep_out hsn rfl
      have KB3 := Bx.mk (KB2.out.trans (hku.below (Nat.le_trans BL.out KB2.out.size) (fun k hk => by subst hk; exact PW0.out.gb)))
      have DS3 := Bx.mk (DS2.out.kept hku (fun i hi b hb e => by subst e; exact DS2.out.ng i hi hb))
      have X33 := Bx.mk ((hku.block n3 (Array.getElem?_eq_some_iff.1 X3.out).1 N3G.out).trans X3.out)
      have XB3 := Bx.mk ((hku.block B7 (Array.getElem?_eq_some_iff.1 XB2.out).1 B7L.out.2.1).trans XB2.out)
      rw [HGC.out, Gc_setr _ _ K KL.out] at m_15
      have XG3 := Bx.mk m_15
      clear hku hsn o_15 m_15 XG X3 XB2 KB2 DS2 SD XGL XZ
      have c2 : u.cell? ⟨n3, 2, none⟩ = some (.slice da l.length dc) := er_cellAt X33.out 2 _ rfl
      have hro : Ro FB u (.slice da l.length dc) l := by obtain ⟨a', c', h1, h2, h3, _, h5⟩ := HS.out u KB3.out; exact ⟨a', c', h1, h2, h3, h5⟩
      have CLF := Bx.mk (leftB_any u (.slice (some ⟨B7, 0, none⟩) l.length (l.length + 1)) l da l.length dc ⟨B7, rfl, XB3.out⟩ hro (by have := ML.out; omega))
      clear hro
      go_wp2_with fail
      refine CLF.out.mono ?_
      rintro e w4 ⟨rfl, hb⟩
      have KB4 := Bx.mk (KB3.out.trans (hb.mono (Nat.le_trans BL.out KB3.out.size)))
      have DS4 := Bx.mk (DS3.out.below hb)
      have X34 := Bx.mk ((hb.block n3 (Array.getElem?_eq_some_iff.1 X33.out).1).trans X33.out)
      have XB4 := Bx.mk ((hb.block B7 (Array.getElem?_eq_some_iff.1 XB3.out).1).trans XB3.out)
      have XG4 := Bx.mk ((hb.block G (Array.getElem?_eq_some_iff.1 XG3.out).1).trans XG3.out)
      clear hb c2 CLF KB3 DS3 X33 XB3 XG3
      obtain ⟨L, hL⟩ : ∃ L, L = l.length := ⟨_, rfl⟩
      have HLL := Bx.mk hL
      have hLb : L ≤ 1048576 := by rw [hL]; have := ML.out; omega
      rw [← hL]
      clear hL
      go_wp2_with fail
      go_loopw [8] (fun iv wr => ∃ (t : Nat) (ls : List UInt8), t ≤ L ∧ iv = .int .i64 (t : Int) ∧ ls.length = L + 1 ∧ wr.heap[B7]? = some (.cells (rcells FB ls) 5 (0, 0)) ∧ Keep (fun k => k = B7) w4 wr) (fun iv _ => L - (intOf iv).toNat)
      case atStart => exact ⟨0, l ++ [markB], Nat.zero_le _, rfl, by rw [List.length_append, HLL.out]; rfl, XB4.out, Keep.refl _ _⟩
      case round =>
        obtain ⟨t, ls, ht, rfl, hls, hxx, hkk⟩ := hrel
        have HX2 := Bx.mk hxx; have HK2 := Bx.mk hkk; have HLS := Bx.mk hls
        clear hxx hkk hls XB4
        by_cases hlt : t < L
        · have e0 := rcells_cell HX2.out t (by rw [HLS.out]; omega)
          have e1 := rcells_frozen HX2.out t
          have X5 := Bx.mk (rcells_store HX2.out t 77)
          generalize ls[t]'(by rw [HLS.out]; omega) = cc at e0
          unfold FB at e0
          have f1 : ¬ (L : Int) ≤ (t : Int) := by omega
          have f2 : (t : Int) < (L : Int) := by omega
          go_wp2_with fail
          go_roundw
          case rel => exact ⟨t + 1, ls.set t 77, hlt, by go_num, by rw [List.length_set]; exact HLS.out, X5.out, HK2.out.trans (Keep.setCell wr ⟨B7, t, none⟩ _) (fun _ _ h => h)⟩
          case measure => simp [intOf]; omega
        · obtain rfl : t = L := by omega
          have DS5 := Bx.mk (DS4.out.kept HK2.out (fun i hi b hb e => by
            subst e
            by_cases h : i = K
            · subst h; rw [upd_at] at hb; exact (SB2.out _ hb).1 rfl
            · rw [upd_ne _ _ h] at hb; exact B7L.out.2.2.2.2 i hi _ hb rfl))
          have XG5 := Bx.mk ((HK2.out.block G (Array.getElem?_eq_some_iff.1 XG4.out).1 (fun e => B7L.out.2.1 e.symm)).trans XG4.out)
          have X3z := Bx.mk ((HK2.out.block n3 (Array.getElem?_eq_some_iff.1 X34.out).1 (fun e => B7L.out.2.2.1 e.symm)).trans X34.out)
          have KB := Bx.mk (KB4.out.trans (HK2.out.below (Nat.le_trans BL.out KB4.out.size) (fun k hk => by subst hk; exact B7L.out.2.2.2.1)))
          have PW := Bx.mk (show PlW base wr G (upd p K (p K)) (upd r K (x ++ (⟨l.toArray⟩ : ByteArray))) (upd m K (m K ++ l)) (upd S K S') from ⟨by
            have h := XG5.out
            rwa [show (fun k => ptr (p k)) = (fun k => ptr (upd p K (p K) k)) from funext fun k => by by_cases e : k = K; subst e; rw [upd_at]; rw [upd_ne _ _ e]] at h, PW0.out.gb, DS5.out⟩)
          have RR := Bx.mk (show ∀ k, k < 3 → sb (upd r K (x ++ (⟨l.toArray⟩ : ByteArray)) k) = upd m K (m K ++ l) k from fun k hk => by
            by_cases e : k = K
            · subst e; rw [upd_at, upd_at, sb_app, HX.out, RR0.out _ hk]
            · rw [upd_ne _ _ e, upd_ne _ _ e]; exact RR0.out k hk)
          have MM := Bx.mk (show ∀ k, k < 3 → (upd m K (m K ++ l) k).length ≤ M + l.length from fun k hk => by
            by_cases e : k = K
            · subst e; rw [upd_at, List.length_append]; have := MM0.out _ hk; omega
            · rw [upd_ne _ _ e]; have := MM0.out k hk; omega)
          clear DS5 XG5 DS4 XG4 X34 KB4 HX2 HK2 HLS CQ CN CR CRN HGC PW0 RR0 MM0 KB0
          go_upto_region 20 with (fail)
          have xg := PW.out.hG
          obtain ⟨pz, hpz⟩ : ∃ f, f = (upd p K (p K)) := ⟨_, rfl⟩
          obtain ⟨rz, hrz⟩ : ∃ f, f = (upd r K (x ++ (⟨l.toArray⟩ : ByteArray))) := ⟨_, rfl⟩
          obtain ⟨mz, hmz⟩ : ∃ f, f = (upd m K (m K ++ l)) := ⟨_, rfl⟩
          obtain ⟨Sz, hSz⟩ : ∃ f, f = (upd S K S') := ⟨_, rfl⟩
          rw [← hpz, ← hrz] at xg
          rw [← hpz, ← hrz, ← hmz, ← hSz] at PW
          rw [← hrz, ← hmz] at RR
          rw [← hmz] at MM
          clear hpz hrz hmz hSz
          have c0 : wr.cell? ⟨G, K, none⟩ = some (.pointer (some ⟨pz K, 0, none⟩)) := er_cellAt xg K _ (Gc_q _ _ K KL.out)
          have c1 : wr.cell? ⟨G, N, none⟩ = some (.pointer (some ⟨pz N, 0, none⟩)) := er_cellAt xg N _ (Gc_q _ _ N NL.out)
          have c2 : wr.cell? ⟨n3, 0, none⟩ = some (.int .i64 kind) := er_cellAt X3z.out 0 _ rfl
          generalize pz K = pk at c0
          generalize pz N = pn at c1
          have f1 : ¬ (3 : Int) ≤ (K : Int) := by have := KL.out; omega
          have f2 : (K : Int) < (3 : Int) := by have := KL.out; omega
          have f3 : ¬ (3 : Int) ≤ (N : Int) := by have := NL.out; omega
          have f4 : (N : Int) < (3 : Int) := by have := NL.out; omega
          have cl : ∀ u, Below wr.heap.size wr u → _ := fun u hu => looks_any base u G pz rz mz Sz (PW.out.below hu) RR.out K KL.out (by have := MM.out K KL.out; have := ML.out; omega) (HT.out u (KB.out.trans (hu.mono (Nat.le_trans BL.out KB.out.size)))) (Nat.lt_of_lt_of_le HG.out (Nat.le_trans (Nat.le_trans BL.out KB.out.size) hu.size))
          have CLK := Bx.mk cl
          clear xg cl
          by_cases hk2 : kind = 2
          · subst hk2
            go_wp2_with fail
            refine (CLK.out wr (Below.refl _ _)).mono ?_
            rintro e wl ⟨rfl, hbl⟩
            have HBL := Bx.mk hbl
            clear hbl c0 c1 c2
            go_wp2_with fail
            refine (CLK.out wl HBL.out).mono ?_
            rintro e wm ⟨rfl, hbl⟩
            have HBM := Bx.mk (HBL.out.trans (hbl.mono HBL.out.size))
            clear hbl HBL
            go_wp2_with fail
            go_ret
            exact ⟨rfl, pz, rz, mz, Sz, PW.out.below HBM.out, RR.out, MM.out, KB.out.trans (HBM.out.mono (Nat.le_trans BL.out KB.out.size))⟩
          · have hk2' : (kind == 2) = false := beq_eq_false_iff_ne.2 hk2
            have hk3 : (kind != 2) = true := by simp [bne, hk2']
            go_wp2_with fail
            go_ret
            exact ⟨rfl, pz, rz, mz, Sz, PW.out, RR.out, MM.out, KB.out⟩
  · have hk1' : (kind == 1) = false := beq_eq_false_iff_ne.2 hk1
    by_cases hk3 : kind = 3
    · have hk3' : (kind == 3) = true := beq_iff_eq.2 hk3
      clear hk3 hk1
      have XG := XG0
      have XGL := Bx.mk (Array.getElem?_eq_some_iff.1 XG.out).1
      obtain ⟨pk, hpk⟩ : ∃ pk, pk = p K := ⟨_, rfl⟩
      rw [← hpk] at CQ
      obtain ⟨mm, hmk⟩ : ∃ mm, mm = m K := ⟨_, rfl⟩
      obtain ⟨B0, hB0⟩ : ∃ B0, B0 = W.heap.size := ⟨_, rfl⟩
      have B0L := Bx.mk (Nat.le_of_eq hB0)
      have CC := Bx.mk (show ∀ u, Keep (fun k => k = G) W u → Calls Tryd.prog 20 #[.pointer (some ⟨pk, 0, none⟩)] u fun e w' => ∃ p' S', e = .returned (.pointer (some ⟨p', 0, none⟩)) ∧ DigP u.heap.size w' p' mm S' ∧ Below u.heap.size u w' from fun u hu => by
        rw [hpk, hmk]
        exact copyP base u (p K) (m K) (S K) ((PW0.out.ds.dg K KL.out).kept hu (fun j hj e => by subst e; exact PW0.out.ds.ng K KL.out hj)))
      have HB0 := Bx.mk hB0; have HMK := Bx.mk hmk
      clear hpk hmk hB0
      go_upto_region 15 with (fail)
      refine wp_region_own8 (n := 130) VPd15mk (fun j => if j = G then some 12 else none) (VPd15 G K N B0 pk mm gc) (by kernel_rfl) (by kernel_rfl) rfl (fun j hj => if_neg (by have := XGL.out; omega)) (fun j i hj _ => by cases hj) ?_ ?_ ?_
      · exact fun oi oj v own w own' w' hij _ h r => VPd15_mono G K N B0 pk mm gc oi oj v own w own' w' hij h r
      · intro oi o hi f u own hsame hsn hfr hlate hkeep8 hdep
        have hkeep := hkeep8 _ (.inl rfl)
        have hku := keep_out hsn rfl
        match oi, hi with
        | 0, hi =>
          cases (show some _ = some o from hi)
          have e0 : f.tmps.getD 0 undef = .pointer (some ⟨G, 0, none⟩) := hsame.slot 0 (fun i o h => invB2_not 0 (by kernel_rfl) h)
          clear hdep hsame hi hlate hfr hkeep
          exact .inl ⟨wanted_none rfl, showsO_move hsn rfl _ rfl e0⟩
        | 1, hi =>
          cases (show some _ = some o from hi)
          have e6 : f.tmps.getD 6 undef = .int .i64 (N : Int) := hsame.slot 6 (fun i o h => invB2_not 6 (by kernel_rfl) h)
          clear hdep hsame hi hlate hfr hkeep
          exact .inl ⟨wanted_none rfl, showsO_move hsn rfl _ rfl e6⟩
        | 2, hi =>
          cases (show some _ = some o from hi)
          have e0 : f.tmps.getD 0 undef = .pointer (some ⟨G, 0, none⟩) := hsame.slot 0 (fun i o h => invB2_not 0 (by kernel_rfl) h)
          clear hdep hsame hi hlate hfr hkeep
          exact .inl ⟨wanted_none rfl, showsO_move hsn rfl _ rfl e0⟩
        | 3, hi =>
          cases (show some _ = some o from hi)
          have e5 : f.tmps.getD 5 undef = .int .i64 (K : Int) := hsame.slot 5 (fun i o h => invB2_not 5 (by kernel_rfl) h)
          clear hdep hsame hi hlate hfr hkeep
          exact .inl ⟨wanted_none rfl, showsO_move hsn rfl _ rfl e5⟩
        | 4, hi =>
          cases (show some _ = some o from hi)
          have e65 : (f.tmps.getD 65 undef) = .pointer (some ⟨G, 0, none⟩) := depO (V := (VPd15 G K N B0 pk mm gc)) hdep 2 65 (by kernel_rfl) (by kernel_rfl)
          clear hdep hsame hi hlate hfr hkeep
          exact .inl ⟨wanted_none rfl, showsO_pure hsn rfl (.pointer (some ⟨G, 0, none⟩)) (by simp only [execOp, Act.eval]; go_simp) rfl⟩
        | 5, hi =>
          cases (show some _ = some o from hi)
          have e67 : (f.tmps.getD 67 undef) = .pointer (some ⟨G, 0, none⟩) := depO (V := (VPd15 G K N B0 pk mm gc)) hdep 4 67 (by kernel_rfl) (by kernel_rfl)
          clear hdep hsame hi hlate hfr hkeep
          exact .inl ⟨wanted_none rfl, showsO_pure hsn rfl (.pointer (some ⟨G, 0, none⟩)) (by simp only [execOp, Act.eval]; go_simp) rfl⟩
        | 6, hi =>
          cases (show some _ = some o from hi)
          have e66 : (f.tmps.getD 66 undef) = .int .i64 (K : Int) := depO (V := (VPd15 G K N B0 pk mm gc)) hdep 3 66 (by kernel_rfl) (by kernel_rfl)
          have e68 : (f.tmps.getD 68 undef) = .pointer (some ⟨G, 0, none⟩) := depO (V := (VPd15 G K N B0 pk mm gc)) hdep 5 68 (by kernel_rfl) (by kernel_rfl)
          clear hdep hsame hi hlate hfr hkeep
          have f1 : ¬ (3 : Int) ≤ (K : Int) := by have := KL.out; omega
          have f2 : (K : Int) < (3 : Int) := by have := KL.out; omega
          exact .inl ⟨wanted_none rfl, showsO_pure hsn rfl (.pointer (some ⟨G, K, none⟩)) (by simp only [execOp, Act.eval]; go_simp) rfl⟩
        | 7, hi =>
          cases (show some _ = some o from hi)
          have e69 : (f.tmps.getD 69 undef) = .pointer (some ⟨G, K, none⟩) := depO (V := (VPd15 G K N B0 pk mm gc)) hdep 6 69 (by kernel_rfl) (by kernel_rfl)
          clear hdep hsame hi hlate hfr hkeep
          have hgu := (hkeep8 12 (.inr (by kernel_rfl)) G XGL.out (if_pos rfl)).trans XG.out
          have c0 := er_cellAt hgu K _ CQ.out
          exact .inl ⟨wanted_none rfl, showsO_pure hsn rfl (.pointer (some ⟨pk, 0, none⟩)) (by simp only [execOp, Act.eval]; go_simp) rfl⟩
        | 8, hi =>
          cases (show some _ = some o from hi)
          have e70 : (f.tmps.getD 70 undef) = .pointer (some ⟨pk, 0, none⟩) := depO (V := (VPd15 G K N B0 pk mm gc)) hdep 7 70 (by kernel_rfl) (by kernel_rfl)
          clear hdep hsame hi hlate hfr hkeep
          have hb0 : B0 ≤ u.heap.size := by have := B0L.out; have := hsn.size; omega
          have c := CC.out u hku
          exact .inl ⟨wanted_none rfl, showsO_call (R := fun v w' => ∃ (p' : Nat) (S' : Nat → Prop), v = .pointer (some ⟨p', 0, none⟩) ∧ DigP B0 w' p' mm S' ∧ ∀ b, S' b → u.heap.size ≤ b) hsn rfl 20 #[.pointer (some ⟨pk, 0, none⟩)] (by simp only [execOp, Act.eval]; go_simp) (c.mono fun e w' ⟨p', S', h1, h2, h3⟩ => ⟨_, h1, ⟨p', S', rfl, h2.mono hb0, fun b hb => h2.ge b hb⟩, h3⟩) (fun v w' ⟨p', S', h1, h2, h3⟩ _ => ⟨p', S', h1, h2, fun b hb => hsn.top b (h3 b hb)⟩)⟩
        | 9, hi =>
          cases (show some _ = some o from hi)
          have e63 : (f.tmps.getD 63 undef) = .pointer (some ⟨G, 0, none⟩) := depO (V := (VPd15 G K N B0 pk mm gc)) hdep 0 63 (by kernel_rfl) (by kernel_rfl)
          clear hdep hsame hi hlate hfr hkeep
          exact .inl ⟨wanted_none rfl, showsO_pure hsn rfl (.pointer (some ⟨G, 0, none⟩)) (by simp only [execOp, Act.eval]; go_simp) rfl⟩
        | 10, hi =>
          cases (show some _ = some o from hi)
          have e72 : (f.tmps.getD 72 undef) = .pointer (some ⟨G, 0, none⟩) := depO (V := (VPd15 G K N B0 pk mm gc)) hdep 9 72 (by kernel_rfl) (by kernel_rfl)
          clear hdep hsame hi hlate hfr hkeep
          exact .inl ⟨wanted_none rfl, showsO_pure hsn rfl (.pointer (some ⟨G, 0, none⟩)) (by simp only [execOp, Act.eval]; go_simp) rfl⟩
        | 11, hi =>
          cases (show some _ = some o from hi)
          have e64 : (f.tmps.getD 64 undef) = .int .i64 (N : Int) := depO (V := (VPd15 G K N B0 pk mm gc)) hdep 1 64 (by kernel_rfl) (by kernel_rfl)
          have e73 : (f.tmps.getD 73 undef) = .pointer (some ⟨G, 0, none⟩) := depO (V := (VPd15 G K N B0 pk mm gc)) hdep 10 73 (by kernel_rfl) (by kernel_rfl)
          clear hdep hsame hi hlate hfr hkeep
          have f1 : ¬ (3 : Int) ≤ (N : Int) := by have := NL.out; omega
          have f2 : (N : Int) < (3 : Int) := by have := NL.out; omega
          exact .inl ⟨wanted_none rfl, showsO_pure hsn rfl (.pointer (some ⟨G, N, none⟩)) (by simp only [execOp, Act.eval]; go_simp) rfl⟩
        | 12, hi =>
          cases (show some _ = some o from hi)
          have e71 : ∃ (p' : Nat) (S' : Nat → Prop), (f.tmps.getD 71 undef) = .pointer (some ⟨p', 0, none⟩) ∧ DigP B0 u p' mm S' ∧ ∀ b, S' b → own b = none := depO (V := (VPd15 G K N B0 pk mm gc)) hdep 8 71 (by kernel_rfl) (by kernel_rfl)
          have e74 : (f.tmps.getD 74 undef) = .pointer (some ⟨G, N, none⟩) := depO (V := (VPd15 G K N B0 pk mm gc)) hdep 11 74 (by kernel_rfl) (by kernel_rfl)
          clear hdep hsame hi hlate hfr hkeep
          obtain ⟨pc, Sc, ec, hdc, hnc⟩ := e71
          have hst := er_cellAt ((hkeep8 12 (.inl rfl) G XGL.out (if_pos rfl)).trans XG.out) N _ CN.out
          have hfr2 : u.frozen? ⟨G, N, none⟩ = false := by simp [World.frozen?, (hkeep8 12 (.inl rfl) G XGL.out (if_pos rfl)).trans XG.out]
          exact .inl ⟨wanted_none rfl, showsO_store_cell hsn hkeep8 rfl G N gc 28 XG.out (if_pos rfl) (.pointer (some ⟨pc, 0, none⟩)) (by simp only [execOp, Act.eval]; go_simp) (fun h => ⟨pc, Sc, h, (hdc.kept (Keep.setCell u ⟨G, N, none⟩ _) (fun b hb e => by subst e; have h7 := hnc _ hb; rw [hsn.owns _ XGL.out, if_pos rfl] at h7; cases h7)), hnc⟩)⟩
        | n + 13, hi => exact absurd hi (by simp)
      · intro f u own hsame hsn hall
        have q63 : f.tmps.getD 63 undef = .pointer (some ⟨G, 0, none⟩) := finO (V := (VPd15 G K N B0 pk mm gc)) hall 0 63 rfl
        have q64 : f.tmps.getD 64 undef = .int .i64 (N : Int) := finO (V := (VPd15 G K N B0 pk mm gc)) hall 1 64 rfl
        have q65 : f.tmps.getD 65 undef = .pointer (some ⟨G, 0, none⟩) := finO (V := (VPd15 G K N B0 pk mm gc)) hall 2 65 rfl
        have q66 : f.tmps.getD 66 undef = .int .i64 (K : Int) := finO (V := (VPd15 G K N B0 pk mm gc)) hall 3 66 rfl
        have q67 : f.tmps.getD 67 undef = .pointer (some ⟨G, 0, none⟩) := finO (V := (VPd15 G K N B0 pk mm gc)) hall 4 67 rfl
        have q68 : f.tmps.getD 68 undef = .pointer (some ⟨G, 0, none⟩) := finO (V := (VPd15 G K N B0 pk mm gc)) hall 5 68 rfl
        have q69 : f.tmps.getD 69 undef = .pointer (some ⟨G, K, none⟩) := finO (V := (VPd15 G K N B0 pk mm gc)) hall 6 69 rfl
        have q70 : f.tmps.getD 70 undef = .pointer (some ⟨pk, 0, none⟩) := finO (V := (VPd15 G K N B0 pk mm gc)) hall 7 70 rfl
        obtain ⟨pcc, Scc, q71, dcc, ncc⟩ := finO (V := (VPd15 G K N B0 pk mm gc)) hall 8 71 rfl
        have q72 : f.tmps.getD 72 undef = .pointer (some ⟨G, 0, none⟩) := finO (V := (VPd15 G K N B0 pk mm gc)) hall 9 72 rfl
        have q73 : f.tmps.getD 73 undef = .pointer (some ⟨G, 0, none⟩) := finO (V := (VPd15 G K N B0 pk mm gc)) hall 10 73 rfl
        have q74 : f.tmps.getD 74 undef = .pointer (some ⟨G, N, none⟩) := finO (V := (VPd15 G K N B0 pk mm gc)) hall 11 74 rfl
        obtain ⟨p2, S2, o2, d2, n2⟩ := finN (V := (VPd15 G K N B0 pk mm gc)) hall 12 rfl
        obtain rfl := frame_eq hsame [(63, .pointer (some ⟨G, 0, none⟩)), (64, .int .i64 (N : Int)), (65, .pointer (some ⟨G, 0, none⟩)), (66, .int .i64 (K : Int)), (67, .pointer (some ⟨G, 0, none⟩)), (68, .pointer (some ⟨G, 0, none⟩)), (69, .pointer (some ⟨G, K, none⟩)), (70, .pointer (some ⟨pk, 0, none⟩)), (71, .pointer (some ⟨pcc, 0, none⟩)), (72, .pointer (some ⟨G, 0, none⟩)), (73, .pointer (some ⟨G, 0, none⟩)), (74, .pointer (some ⟨G, N, none⟩))] (by kernel_rfl) ⟨q63, q64, q65, q66, q67, q68, q69, q70, q71, q72, q73, q74, trivial⟩
        clear hall hsame q63 q64 q65 q66 q67 q68 q69 q70 q71 q72 q73 q74
        simp only [List.foldl, List.setIfInBounds_toArray, List.set_cons_succ, List.set_cons_zero]
        have hku := keep_out hsn rfl
        rw [HGC.out, Gc_setq _ _ N NL.out] at o2
        have K3 := Bx.mk hku
        have X33 := Bx.mk ((hku.block n3 (Array.getElem?_eq_some_iff.1 X3.out).1 N3L.out.2.1).trans X3.out)
        have KB3 := Bx.mk (KB0.out.trans (hku.below (Nat.le_trans BL.out KB0.out.size) (fun k hk => by subst hk; exact PW0.out.gb)))
        have DS3 := Bx.mk (PW0.out.ds.put N hku (fun i hi _ b hb e => by subst e; exact PW0.out.ds.ng i hi hb) XGL.out p2 mm S2 (d2.mono (by rw [HB0.out]; exact Nat.le_trans BL.out KB0.out.size)) (fun b hb => .inr (by rw [← HB0.out]; exact d2.ge b hb)))
        have XG3 := Bx.mk o2.2
        clear hku hsn o2 d2 n2 dcc ncc CC
        have XG := XG3
        clear XGL
        have XGL := Bx.mk (Array.getElem?_eq_some_iff.1 XG.out).1
        have CR0 : (Gc (upd (fun k => ptr (p k)) N (.pointer (some ⟨p2, 0, none⟩))) r)[3 + K]? = some (.string (r K)) := Gc_r _ _ K KL.out
        have CRN0 : (Gc (upd (fun k => ptr (p k)) N (.pointer (some ⟨p2, 0, none⟩))) r)[3 + N]? = some (.string (r N)) := Gc_r _ _ N NL.out
        obtain ⟨gc2, hgc2⟩ : ∃ g, g = Gc (upd (fun k => ptr (p k)) N (.pointer (some ⟨p2, 0, none⟩))) r := ⟨_, rfl⟩
        rw [← hgc2] at CR0 CRN0 XG
        clear CR CRN XG3
        have CR := Bx.mk CR0; have CRN := Bx.mk CRN0
        obtain ⟨x, hx⟩ : ∃ x, x = r K := ⟨_, rfl⟩
        rw [← hx] at CR
        have HX := Bx.mk hx; have HG2 := Bx.mk hgc2
        clear hx CR0 CRN0 hgc2
        go_upto_region 16 with (fail)
        refine wp_region_own8 (n := 130) VPd16mk (fun j => if j = G then some 11 else none) (VPd16 G K N x gc2) (by kernel_rfl) (by kernel_rfl) rfl (fun j hj => if_neg (by have := XGL.out; omega)) (fun j i hj _ => by cases hj) ?_ ?_ ?_
        · exact fun oi oj v own w own' w' hij _ h r => VPd16_mono G K N x gc2 oi oj v own w own' w' hij h r
        · intro oi o hi f u own hsame hsn hfr hlate hkeep8 hdep
          have hkeep := hkeep8 _ (.inl rfl)
          have hku := keep_out hsn rfl
          match oi, hi with
          | 0, hi =>
            cases (show some _ = some o from hi)
            have e0 : f.tmps.getD 0 undef = .pointer (some ⟨G, 0, none⟩) := hsame.slot 0 (fun i o h => invB2_not 0 (by kernel_rfl) h)
            clear hdep hsame hi hlate hfr hkeep
            exact .inl ⟨wanted_none rfl, showsO_move hsn rfl _ rfl e0⟩
          | 1, hi =>
            cases (show some _ = some o from hi)
            have e6 : f.tmps.getD 6 undef = .int .i64 (N : Int) := hsame.slot 6 (fun i o h => invB2_not 6 (by kernel_rfl) h)
            clear hdep hsame hi hlate hfr hkeep
            exact .inl ⟨wanted_none rfl, showsO_move hsn rfl _ rfl e6⟩
          | 2, hi =>
            cases (show some _ = some o from hi)
            have e0 : f.tmps.getD 0 undef = .pointer (some ⟨G, 0, none⟩) := hsame.slot 0 (fun i o h => invB2_not 0 (by kernel_rfl) h)
            clear hdep hsame hi hlate hfr hkeep
            exact .inl ⟨wanted_none rfl, showsO_move hsn rfl _ rfl e0⟩
          | 3, hi =>
            cases (show some _ = some o from hi)
            have e5 : f.tmps.getD 5 undef = .int .i64 (K : Int) := hsame.slot 5 (fun i o h => invB2_not 5 (by kernel_rfl) h)
            clear hdep hsame hi hlate hfr hkeep
            exact .inl ⟨wanted_none rfl, showsO_move hsn rfl _ rfl e5⟩
          | 4, hi =>
            cases (show some _ = some o from hi)
            have e77 : (f.tmps.getD 77 undef) = .pointer (some ⟨G, 0, none⟩) := depO (V := (VPd16 G K N x gc2)) hdep 2 77 (by kernel_rfl) (by kernel_rfl)
            clear hdep hsame hi hlate hfr hkeep
            exact .inl ⟨wanted_none rfl, showsO_pure hsn rfl (.pointer (some ⟨G, 0, none⟩)) (by simp only [execOp, Act.eval]; go_simp) rfl⟩
          | 5, hi =>
            cases (show some _ = some o from hi)
            have e79 : (f.tmps.getD 79 undef) = .pointer (some ⟨G, 0, none⟩) := depO (V := (VPd16 G K N x gc2)) hdep 4 79 (by kernel_rfl) (by kernel_rfl)
            clear hdep hsame hi hlate hfr hkeep
            exact .inl ⟨wanted_none rfl, showsO_pure hsn rfl (.pointer (some ⟨G, 3, none⟩)) (by simp only [execOp, Act.eval]; go_simp) rfl⟩
          | 6, hi =>
            cases (show some _ = some o from hi)
            have e78 : (f.tmps.getD 78 undef) = .int .i64 (K : Int) := depO (V := (VPd16 G K N x gc2)) hdep 3 78 (by kernel_rfl) (by kernel_rfl)
            have e80 : (f.tmps.getD 80 undef) = .pointer (some ⟨G, 3, none⟩) := depO (V := (VPd16 G K N x gc2)) hdep 5 80 (by kernel_rfl) (by kernel_rfl)
            clear hdep hsame hi hlate hfr hkeep
            have f1 : ¬ (3 : Int) ≤ (K : Int) := by have := KL.out; omega
            have f2 : (K : Int) < (3 : Int) := by have := KL.out; omega
            exact .inl ⟨wanted_none rfl, showsO_pure hsn rfl (.pointer (some ⟨G, 3 + K, none⟩)) (by simp only [execOp, Act.eval]; go_simp) rfl⟩
          | 7, hi =>
            cases (show some _ = some o from hi)
            have e81 : (f.tmps.getD 81 undef) = .pointer (some ⟨G, 3 + K, none⟩) := depO (V := (VPd16 G K N x gc2)) hdep 6 81 (by kernel_rfl) (by kernel_rfl)
            clear hdep hsame hi hlate hfr hkeep
            have hgu := (hkeep8 11 (.inr (by kernel_rfl)) G XGL.out (if_pos rfl)).trans XG.out
            have c0 := er_cellAt hgu (3 + K) _ CR.out
            exact .inl ⟨wanted_none rfl, showsO_pure hsn rfl (.string x) (by simp only [execOp, Act.eval]; go_simp) rfl⟩
          | 8, hi =>
            cases (show some _ = some o from hi)
            have e75 : (f.tmps.getD 75 undef) = .pointer (some ⟨G, 0, none⟩) := depO (V := (VPd16 G K N x gc2)) hdep 0 75 (by kernel_rfl) (by kernel_rfl)
            clear hdep hsame hi hlate hfr hkeep
            exact .inl ⟨wanted_none rfl, showsO_pure hsn rfl (.pointer (some ⟨G, 0, none⟩)) (by simp only [execOp, Act.eval]; go_simp) rfl⟩
          | 9, hi =>
            cases (show some _ = some o from hi)
            have e83 : (f.tmps.getD 83 undef) = .pointer (some ⟨G, 0, none⟩) := depO (V := (VPd16 G K N x gc2)) hdep 8 83 (by kernel_rfl) (by kernel_rfl)
            clear hdep hsame hi hlate hfr hkeep
            exact .inl ⟨wanted_none rfl, showsO_pure hsn rfl (.pointer (some ⟨G, 3, none⟩)) (by simp only [execOp, Act.eval]; go_simp) rfl⟩
          | 10, hi =>
            cases (show some _ = some o from hi)
            have e76 : (f.tmps.getD 76 undef) = .int .i64 (N : Int) := depO (V := (VPd16 G K N x gc2)) hdep 1 76 (by kernel_rfl) (by kernel_rfl)
            have e84 : (f.tmps.getD 84 undef) = .pointer (some ⟨G, 3, none⟩) := depO (V := (VPd16 G K N x gc2)) hdep 9 84 (by kernel_rfl) (by kernel_rfl)
            clear hdep hsame hi hlate hfr hkeep
            have f1 : ¬ (3 : Int) ≤ (N : Int) := by have := NL.out; omega
            have f2 : (N : Int) < (3 : Int) := by have := NL.out; omega
            exact .inl ⟨wanted_none rfl, showsO_pure hsn rfl (.pointer (some ⟨G, 3 + N, none⟩)) (by simp only [execOp, Act.eval]; go_simp) rfl⟩
          | 11, hi =>
            cases (show some _ = some o from hi)
            have e82 : (f.tmps.getD 82 undef) = .string x := depO (V := (VPd16 G K N x gc2)) hdep 7 82 (by kernel_rfl) (by kernel_rfl)
            have e85 : (f.tmps.getD 85 undef) = .pointer (some ⟨G, 3 + N, none⟩) := depO (V := (VPd16 G K N x gc2)) hdep 10 85 (by kernel_rfl) (by kernel_rfl)
            clear hdep hsame hi hlate hfr hkeep
            have hst := er_cellAt ((hkeep8 11 (.inl rfl) G XGL.out (if_pos rfl)).trans XG.out) (3 + N) _ CRN.out
            have hfr2 : u.frozen? ⟨G, 3 + N, none⟩ = false := by simp [World.frozen?, (hkeep8 11 (.inl rfl) G XGL.out (if_pos rfl)).trans XG.out]
            exact .inl ⟨wanted_none rfl, showsO_store_cell hsn hkeep8 rfl G (3 + N) gc2 28 XG.out (if_pos rfl) (.string x) (by simp only [execOp, Act.eval]; go_simp) (fun h => h)⟩
          | n + 12, hi => exact absurd hi (by simp)
        · intro f u2 own hsame hsn hall
          have q75 : f.tmps.getD 75 undef = .pointer (some ⟨G, 0, none⟩) := finO (V := (VPd16 G K N x gc2)) hall 0 75 rfl
          have q76 : f.tmps.getD 76 undef = .int .i64 (N : Int) := finO (V := (VPd16 G K N x gc2)) hall 1 76 rfl
          have q77 : f.tmps.getD 77 undef = .pointer (some ⟨G, 0, none⟩) := finO (V := (VPd16 G K N x gc2)) hall 2 77 rfl
          have q78 : f.tmps.getD 78 undef = .int .i64 (K : Int) := finO (V := (VPd16 G K N x gc2)) hall 3 78 rfl
          have q79 : f.tmps.getD 79 undef = .pointer (some ⟨G, 0, none⟩) := finO (V := (VPd16 G K N x gc2)) hall 4 79 rfl
          have q80 : f.tmps.getD 80 undef = .pointer (some ⟨G, 3, none⟩) := finO (V := (VPd16 G K N x gc2)) hall 5 80 rfl
          have q81 : f.tmps.getD 81 undef = .pointer (some ⟨G, 3 + K, none⟩) := finO (V := (VPd16 G K N x gc2)) hall 6 81 rfl
          have q82 : f.tmps.getD 82 undef = .string x := finO (V := (VPd16 G K N x gc2)) hall 7 82 rfl
          have q83 : f.tmps.getD 83 undef = .pointer (some ⟨G, 0, none⟩) := finO (V := (VPd16 G K N x gc2)) hall 8 83 rfl
          have q84 : f.tmps.getD 84 undef = .pointer (some ⟨G, 3, none⟩) := finO (V := (VPd16 G K N x gc2)) hall 9 84 rfl
          have q85 : f.tmps.getD 85 undef = .pointer (some ⟨G, 3 + N, none⟩) := finO (V := (VPd16 G K N x gc2)) hall 10 85 rfl
          obtain ⟨o_11, m_11⟩ : OutV own u2 (G) 11 28 (gc2.setIfInBounds (3 + N) (.string x)) := finN (V := (VPd16 G K N x gc2)) hall 11 rfl
          obtain rfl := frame_eq hsame [(75, .pointer (some ⟨G, 0, none⟩)), (76, .int .i64 (N : Int)), (77, .pointer (some ⟨G, 0, none⟩)), (78, .int .i64 (K : Int)), (79, .pointer (some ⟨G, 0, none⟩)), (80, .pointer (some ⟨G, 3, none⟩)), (81, .pointer (some ⟨G, 3 + K, none⟩)), (82, .string x), (83, .pointer (some ⟨G, 0, none⟩)), (84, .pointer (some ⟨G, 3, none⟩)), (85, .pointer (some ⟨G, 3 + N, none⟩))] (by kernel_rfl) ⟨q75, q76, q77, q78, q79, q80, q81, q82, q83, q84, q85, trivial⟩
          clear hall hsame q75 q76 q77 q78 q79 q80 q81 q82 q83 q84 q85
          simp only [List.foldl, List.setIfInBounds_toArray, List.set_cons_succ, List.set_cons_zero]
          have hku := keep_out hsn rfl
          rw [HG2.out, Gc_setr _ _ N NL.out] at m_11
          have X3z := Bx.mk ((hku.block n3 (Array.getElem?_eq_some_iff.1 X33.out).1 N3L.out.2.1).trans X33.out)
          have KB := Bx.mk (KB3.out.trans (hku.below (Nat.le_trans BL.out KB3.out.size) (fun k hk => by subst hk; exact PW0.out.gb)))
          have PW := Bx.mk (show PlW base u2 G (upd p N p2) (upd r N x) (upd m N mm) (upd S N S2) from ⟨by
            rwa [show upd (fun k => ptr (p k)) N (.pointer (some ⟨p2, 0, none⟩)) = (fun k => ptr (upd p N p2 k)) from funext fun k => by by_cases e : k = N; subst e; rw [upd_at, upd_at]; rfl; rw [upd_ne _ _ e, upd_ne _ _ e]] at m_11, PW0.out.gb, DS3.out.kept hku (fun i hi b hb e => by subst e; exact DS3.out.ng i hi hb)⟩)
          have RR := Bx.mk (show ∀ k, k < 3 → sb (upd r N x k) = upd m N mm k from fun k hk => by
            by_cases e : k = N
            · subst e; rw [upd_at, upd_at, HX.out, HMK.out, RR0.out _ KL.out]
            · rw [upd_ne _ _ e, upd_ne _ _ e]; exact RR0.out k hk)
          have MM := Bx.mk (show ∀ k, k < 3 → (upd m N mm k).length ≤ M + l.length from fun k hk => by
            by_cases e : k = N
            · subst e; rw [upd_at, HMK.out]; have := MM0.out _ KL.out; omega
            · rw [upd_ne _ _ e]; have := MM0.out k hk; omega)
          clear DS3 X33 KB3 XG XGL CR CRN HG2 HX HMK CQ CN HGC PW0 RR0 MM0 KB0 X3 XG0 hku hsn o_11 m_11
          go_upto_region 20 with (fail)
          have xg := PW.out.hG
          obtain ⟨pz, hpz⟩ : ∃ f, f = (upd p N p2) := ⟨_, rfl⟩
          obtain ⟨rz, hrz⟩ : ∃ f, f = (upd r N x) := ⟨_, rfl⟩
          obtain ⟨mz, hmz⟩ : ∃ f, f = (upd m N mm) := ⟨_, rfl⟩
          obtain ⟨Sz, hSz⟩ : ∃ f, f = (upd S N S2) := ⟨_, rfl⟩
          rw [← hpz, ← hrz] at xg
          rw [← hpz, ← hrz, ← hmz, ← hSz] at PW
          rw [← hrz, ← hmz] at RR
          rw [← hmz] at MM
          clear hpz hrz hmz hSz
          have c0 : u2.cell? ⟨G, K, none⟩ = some (.pointer (some ⟨pz K, 0, none⟩)) := er_cellAt xg K _ (Gc_q _ _ K KL.out)
          have c1 : u2.cell? ⟨G, N, none⟩ = some (.pointer (some ⟨pz N, 0, none⟩)) := er_cellAt xg N _ (Gc_q _ _ N NL.out)
          have c2 : u2.cell? ⟨n3, 0, none⟩ = some (.int .i64 kind) := er_cellAt X3z.out 0 _ rfl
          generalize pz K = pk at c0
          generalize pz N = pn at c1
          have f1 : ¬ (3 : Int) ≤ (K : Int) := by have := KL.out; omega
          have f2 : (K : Int) < (3 : Int) := by have := KL.out; omega
          have f3 : ¬ (3 : Int) ≤ (N : Int) := by have := NL.out; omega
          have f4 : (N : Int) < (3 : Int) := by have := NL.out; omega
          have cl : ∀ u, Below u2.heap.size u2 u → _ := fun u hu => looks_any base u G pz rz mz Sz (PW.out.below hu) RR.out K KL.out (by have := MM.out K KL.out; have := ML.out; omega) (HT.out u (KB.out.trans (hu.mono (Nat.le_trans BL.out KB.out.size)))) (Nat.lt_of_lt_of_le HG.out (Nat.le_trans (Nat.le_trans BL.out KB.out.size) hu.size))
          have CLK := Bx.mk cl
          clear xg cl
          by_cases hk2 : kind = 2
          · subst hk2
            go_wp2_with fail
            refine (CLK.out u2 (Below.refl _ _)).mono ?_
            rintro e wl ⟨rfl, hbl⟩
            have HBL := Bx.mk hbl
            clear hbl c0 c1 c2
            go_wp2_with fail
            refine (CLK.out wl HBL.out).mono ?_
            rintro e wm ⟨rfl, hbl⟩
            have HBM := Bx.mk (HBL.out.trans (hbl.mono HBL.out.size))
            clear hbl HBL
            go_wp2_with fail
            go_ret
            exact ⟨rfl, pz, rz, mz, Sz, PW.out.below HBM.out, RR.out, MM.out, KB.out.trans (HBM.out.mono (Nat.le_trans BL.out KB.out.size))⟩
          · have hk2' : (kind == 2) = false := beq_eq_false_iff_ne.2 hk2
            have hk3 : (kind != 2) = true := by simp [bne, hk2']
            go_wp2_with fail
            go_ret
            exact ⟨rfl, pz, rz, mz, Sz, PW.out, RR.out, MM.out, KB.out⟩
    · have hk3' : (kind == 3) = false := beq_eq_false_iff_ne.2 hk3
      by_cases hk4 : kind = 4
      · have hk4' : (kind == 4) = true := beq_iff_eq.2 hk4
        clear hk4 hk3 hk1
        have XG := XG0
        have XGL := Bx.mk (Array.getElem?_eq_some_iff.1 XG.out).1
        obtain ⟨B0, hB0⟩ : ∃ B0, B0 = W.heap.size := ⟨_, rfl⟩
        have B0L := Bx.mk (Nat.le_of_eq hB0)
        have HB0 := Bx.mk hB0
        obtain ⟨mm, hmm⟩ : ∃ mm : List UInt8, mm = [] := ⟨_, rfl⟩
        obtain ⟨pk, _⟩ : ∃ pk : Nat, True := ⟨0, trivial⟩
        have CNW := Bx.mk (show ∀ u, Calls Tryd.prog 9 #[] u fun e w' => ∃ p' S', e = .returned (.pointer (some ⟨p', 0, none⟩)) ∧ DigP u.heap.size w' p' mm S' ∧ Below u.heap.size u w' from fun u => by rw [hmm]; exact newP u)
        have HMM := Bx.mk hmm
        clear hB0 hmm
        go_upto_region 18 with (fail)
        refine wp_region_own8 (n := 130) VPd18mk (fun j => if j = G then some 6 else none) (VPd18 G K N B0 pk mm gc) (by kernel_rfl) (by kernel_rfl) rfl (fun j hj => if_neg (by have := XGL.out; omega)) (fun j i hj _ => by cases hj) ?_ ?_ ?_
        · exact fun oi oj v own w own' w' hij _ h r => VPd18_mono G K N B0 pk mm gc oi oj v own w own' w' hij h r
        · intro oi o hi f u own hsame hsn hfr hlate hkeep8 hdep
          have hkeep := hkeep8 _ (.inl rfl)
          have hku := keep_out hsn rfl
          match oi, hi with
          | 0, hi =>
            cases (show some _ = some o from hi)
            have e0 : f.tmps.getD 0 undef = .pointer (some ⟨G, 0, none⟩) := hsame.slot 0 (fun i o h => invB2_not 0 (by kernel_rfl) h)
            clear hdep hsame hi hlate hfr hkeep
            exact .inl ⟨wanted_none rfl, showsO_move hsn rfl _ rfl e0⟩
          | 1, hi =>
            cases (show some _ = some o from hi)
            have e5 : f.tmps.getD 5 undef = .int .i64 (K : Int) := hsame.slot 5 (fun i o h => invB2_not 5 (by kernel_rfl) h)
            clear hdep hsame hi hlate hfr hkeep
            exact .inl ⟨wanted_none rfl, showsO_move hsn rfl _ rfl e5⟩
          | 2, hi =>
            cases (show some _ = some o from hi)
            clear hdep hsame hi hlate hfr hkeep
            have hb0 : B0 ≤ u.heap.size := by have := B0L.out; have := hsn.size; omega
            have c := CNW.out u
            exact .inl ⟨wanted_none rfl, showsO_call (R := fun v w' => ∃ (p' : Nat) (S' : Nat → Prop), v = .pointer (some ⟨p', 0, none⟩) ∧ DigP B0 w' p' mm S' ∧ ∀ b, S' b → u.heap.size ≤ b) hsn rfl 9 #[] (by simp only [execOp, Act.eval]; go_simp) (c.mono fun e w' ⟨p', S', h1, h2, h3⟩ => ⟨_, h1, ⟨p', S', rfl, h2.mono hb0, fun b hb => h2.ge b hb⟩, h3⟩) (fun v w' ⟨p', S', h1, h2, h3⟩ _ => ⟨p', S', h1, h2, fun b hb => hsn.top b (h3 b hb)⟩)⟩
          | 3, hi =>
            cases (show some _ = some o from hi)
            have e88 : (f.tmps.getD 88 undef) = .pointer (some ⟨G, 0, none⟩) := depO (V := (VPd18 G K N B0 pk mm gc)) hdep 0 88 (by kernel_rfl) (by kernel_rfl)
            clear hdep hsame hi hlate hfr hkeep
            exact .inl ⟨wanted_none rfl, showsO_pure hsn rfl (.pointer (some ⟨G, 0, none⟩)) (by simp only [execOp, Act.eval]; go_simp) rfl⟩
          | 4, hi =>
            cases (show some _ = some o from hi)
            have e91 : (f.tmps.getD 91 undef) = .pointer (some ⟨G, 0, none⟩) := depO (V := (VPd18 G K N B0 pk mm gc)) hdep 3 91 (by kernel_rfl) (by kernel_rfl)
            clear hdep hsame hi hlate hfr hkeep
            exact .inl ⟨wanted_none rfl, showsO_pure hsn rfl (.pointer (some ⟨G, 0, none⟩)) (by simp only [execOp, Act.eval]; go_simp) rfl⟩
          | 5, hi =>
            cases (show some _ = some o from hi)
            have e89 : (f.tmps.getD 89 undef) = .int .i64 (K : Int) := depO (V := (VPd18 G K N B0 pk mm gc)) hdep 1 89 (by kernel_rfl) (by kernel_rfl)
            have e92 : (f.tmps.getD 92 undef) = .pointer (some ⟨G, 0, none⟩) := depO (V := (VPd18 G K N B0 pk mm gc)) hdep 4 92 (by kernel_rfl) (by kernel_rfl)
            clear hdep hsame hi hlate hfr hkeep
            have f1 : ¬ (3 : Int) ≤ (K : Int) := by have := KL.out; omega
            have f2 : (K : Int) < (3 : Int) := by have := KL.out; omega
            exact .inl ⟨wanted_none rfl, showsO_pure hsn rfl (.pointer (some ⟨G, K, none⟩)) (by simp only [execOp, Act.eval]; go_simp) rfl⟩
          | 6, hi =>
            cases (show some _ = some o from hi)
            have e90 : ∃ (p' : Nat) (S' : Nat → Prop), (f.tmps.getD 90 undef) = .pointer (some ⟨p', 0, none⟩) ∧ DigP B0 u p' mm S' ∧ ∀ b, S' b → own b = none := depO (V := (VPd18 G K N B0 pk mm gc)) hdep 2 90 (by kernel_rfl) (by kernel_rfl)
            have e93 : (f.tmps.getD 93 undef) = .pointer (some ⟨G, K, none⟩) := depO (V := (VPd18 G K N B0 pk mm gc)) hdep 5 93 (by kernel_rfl) (by kernel_rfl)
            clear hdep hsame hi hlate hfr hkeep
            obtain ⟨pc, Sc, ec, hdc, hnc⟩ := e90
            have hst := er_cellAt ((hkeep8 6 (.inl rfl) G XGL.out (if_pos rfl)).trans XG.out) K _ CQ.out
            have hfr2 : u.frozen? ⟨G, K, none⟩ = false := by simp [World.frozen?, (hkeep8 6 (.inl rfl) G XGL.out (if_pos rfl)).trans XG.out]
            exact .inl ⟨wanted_none rfl, showsO_store_cell hsn hkeep8 rfl G K gc 28 XG.out (if_pos rfl) (.pointer (some ⟨pc, 0, none⟩)) (by simp only [execOp, Act.eval]; go_simp) (fun h => ⟨pc, Sc, h, (hdc.kept (Keep.setCell u ⟨G, K, none⟩ _) (fun b hb e => by subst e; have h7 := hnc _ hb; rw [hsn.owns _ XGL.out, if_pos rfl] at h7; cases h7)), hnc⟩)⟩
          | n + 7, hi => exact absurd hi (by simp)
        · intro f u own hsame hsn hall
          have q88 : f.tmps.getD 88 undef = .pointer (some ⟨G, 0, none⟩) := finO (V := (VPd18 G K N B0 pk mm gc)) hall 0 88 rfl
          have q89 : f.tmps.getD 89 undef = .int .i64 (K : Int) := finO (V := (VPd18 G K N B0 pk mm gc)) hall 1 89 rfl
          obtain ⟨pcc, Scc, q90, dcc, ncc⟩ := finO (V := (VPd18 G K N B0 pk mm gc)) hall 2 90 rfl
          have q91 : f.tmps.getD 91 undef = .pointer (some ⟨G, 0, none⟩) := finO (V := (VPd18 G K N B0 pk mm gc)) hall 3 91 rfl
          have q92 : f.tmps.getD 92 undef = .pointer (some ⟨G, 0, none⟩) := finO (V := (VPd18 G K N B0 pk mm gc)) hall 4 92 rfl
          have q93 : f.tmps.getD 93 undef = .pointer (some ⟨G, K, none⟩) := finO (V := (VPd18 G K N B0 pk mm gc)) hall 5 93 rfl
          obtain ⟨p2, S2, o2, d2, n2⟩ := finN (V := (VPd18 G K N B0 pk mm gc)) hall 6 rfl
          obtain rfl := frame_eq hsame [(88, .pointer (some ⟨G, 0, none⟩)), (89, .int .i64 (K : Int)), (90, .pointer (some ⟨pcc, 0, none⟩)), (91, .pointer (some ⟨G, 0, none⟩)), (92, .pointer (some ⟨G, 0, none⟩)), (93, .pointer (some ⟨G, K, none⟩))] (by kernel_rfl) ⟨q88, q89, q90, q91, q92, q93, trivial⟩
          clear hall hsame q88 q89 q90 q91 q92 q93
          simp only [List.foldl, List.setIfInBounds_toArray, List.set_cons_succ, List.set_cons_zero]
          have hku := keep_out hsn rfl
          rw [HGC.out, Gc_setq _ _ K KL.out] at o2
          have X33 := Bx.mk ((hku.block n3 (Array.getElem?_eq_some_iff.1 X3.out).1 N3L.out.2.1).trans X3.out)
          have KB3 := Bx.mk (KB0.out.trans (hku.below (Nat.le_trans BL.out KB0.out.size) (fun k hk => by subst hk; exact PW0.out.gb)))
          have DS3 := Bx.mk (PW0.out.ds.put K hku (fun i hi _ b hb e => by subst e; exact PW0.out.ds.ng i hi hb) XGL.out p2 [] S2 ((HMM.out ▸ d2).mono (by rw [HB0.out]; exact Nat.le_trans BL.out KB0.out.size)) (fun b hb => .inr (by rw [← HB0.out]; exact d2.ge b hb)))
          have XG3 := Bx.mk o2.2
          clear hku hsn o2 d2 n2 dcc ncc XG XGL
          have e0 := er_cellAt XG3.out (3 + K) _ (Gc_r _ _ K KL.out)
          have e1 : u.frozen? ⟨G, 3 + K, none⟩ = false := by simp [World.frozen?, XG3.out]
          have hset : (u.setCell ⟨G, 3 + K, none⟩ (.string ⟨#[]⟩)).heap[G]? = some (.cells (Gc (upd (fun k => ptr (p k)) K (.pointer (some ⟨p2, 0, none⟩))) (upd r K ⟨#[]⟩)) 28 (0, 0)) := by
            rw [← Gc_setr _ _ K KL.out]
            simp [World.setCell, Array.getElem?_modify, XG3.out]
          have hku : Keep (fun k => k = G) u (u.setCell ⟨G, 3 + K, none⟩ (.string ⟨#[]⟩)) := Keep.setCell u ⟨G, 3 + K, none⟩ _
          have X3z := Bx.mk ((hku.block n3 (Array.getElem?_eq_some_iff.1 X33.out).1 N3L.out.2.1).trans X33.out)
          have KB := Bx.mk (KB3.out.trans (hku.below (Nat.le_trans BL.out KB3.out.size) (fun k hk => by subst hk; exact PW0.out.gb)))
          have PW := Bx.mk (show PlW base (u.setCell ⟨G, 3 + K, none⟩ (.string ⟨#[]⟩)) G (upd p K p2) (upd r K ⟨#[]⟩) (upd m K []) (upd S K S2) from ⟨by
            rwa [show upd (fun k => ptr (p k)) K (.pointer (some ⟨p2, 0, none⟩)) = (fun k => ptr (upd p K p2 k)) from funext fun k => by by_cases e : k = K; subst e; rw [upd_at, upd_at]; rfl; rw [upd_ne _ _ e, upd_ne _ _ e]] at hset, PW0.out.gb, DS3.out.kept hku (fun i hi b hb e => by subst e; exact DS3.out.ng i hi hb)⟩)
          have RR := Bx.mk (show ∀ k, k < 3 → sb (upd r K ⟨#[]⟩ k) = upd m K [] k from fun k hk => by
            by_cases e : k = K
            · subst e; rw [upd_at, upd_at]; rfl
            · rw [upd_ne _ _ e, upd_ne _ _ e]; exact RR0.out k hk)
          have MM := Bx.mk (show ∀ k, k < 3 → (upd m K [] k).length ≤ M + l.length from fun k hk => by
            by_cases e : k = K
            · subst e; rw [upd_at]; simp
            · rw [upd_ne _ _ e]; have := MM0.out k hk; omega)
          generalize r K = rk at e0
          have f1 : ¬ (3 : Int) ≤ (K : Int) := by have := KL.out; omega
          have f2 : (K : Int) < (3 : Int) := by have := KL.out; omega
          clear hset hku DS3 X33 KB3 CQ CN CR CRN HGC PW0 RR0 MM0 KB0 X3 XG0 XG3
          go_upto_region 20 with (fail)
          clear e0 e1 f1 f2
          generalize u.setCell ⟨G, 3 + K, none⟩ (.string ⟨#[]⟩) = W9 at X3z KB PW ⊢
          have xg := PW.out.hG
          obtain ⟨pz, hpz⟩ : ∃ f, f = (upd p K p2) := ⟨_, rfl⟩
          obtain ⟨rz, hrz⟩ : ∃ f, f = (upd r K ⟨#[]⟩) := ⟨_, rfl⟩
          obtain ⟨mz, hmz⟩ : ∃ f, f = (upd m K []) := ⟨_, rfl⟩
          obtain ⟨Sz, hSz⟩ : ∃ f, f = (upd S K S2) := ⟨_, rfl⟩
          rw [← hpz, ← hrz] at xg
          rw [← hpz, ← hrz, ← hmz, ← hSz] at PW
          rw [← hrz, ← hmz] at RR
          rw [← hmz] at MM
          clear hpz hrz hmz hSz
          have c0 : W9.cell? ⟨G, K, none⟩ = some (.pointer (some ⟨pz K, 0, none⟩)) := er_cellAt xg K _ (Gc_q _ _ K KL.out)
          have c1 : W9.cell? ⟨G, N, none⟩ = some (.pointer (some ⟨pz N, 0, none⟩)) := er_cellAt xg N _ (Gc_q _ _ N NL.out)
          have c2 : W9.cell? ⟨n3, 0, none⟩ = some (.int .i64 kind) := er_cellAt X3z.out 0 _ rfl
          generalize pz K = pk at c0
          generalize pz N = pn at c1
          have f1 : ¬ (3 : Int) ≤ (K : Int) := by have := KL.out; omega
          have f2 : (K : Int) < (3 : Int) := by have := KL.out; omega
          have f3 : ¬ (3 : Int) ≤ (N : Int) := by have := NL.out; omega
          have f4 : (N : Int) < (3 : Int) := by have := NL.out; omega
          have cl : ∀ u, Below W9.heap.size W9 u → _ := fun u hu => looks_any base u G pz rz mz Sz (PW.out.below hu) RR.out K KL.out (by have := MM.out K KL.out; have := ML.out; omega) (HT.out u (KB.out.trans (hu.mono (Nat.le_trans BL.out KB.out.size)))) (Nat.lt_of_lt_of_le HG.out (Nat.le_trans (Nat.le_trans BL.out KB.out.size) hu.size))
          have CLK := Bx.mk cl
          clear xg cl
          by_cases hk2 : kind = 2
          · subst hk2
            go_wp2_with fail
            refine (CLK.out W9 (Below.refl _ _)).mono ?_
            rintro e wl ⟨rfl, hbl⟩
            have HBL := Bx.mk hbl
            clear hbl c0 c1 c2
            go_wp2_with fail
            refine (CLK.out wl HBL.out).mono ?_
            rintro e wm ⟨rfl, hbl⟩
            have HBM := Bx.mk (HBL.out.trans (hbl.mono HBL.out.size))
            clear hbl HBL
            go_wp2_with fail
            go_ret
            exact ⟨rfl, pz, rz, mz, Sz, PW.out.below HBM.out, RR.out, MM.out, KB.out.trans (HBM.out.mono (Nat.le_trans BL.out KB.out.size))⟩
          · have hk2' : (kind == 2) = false := beq_eq_false_iff_ne.2 hk2
            have hk3 : (kind != 2) = true := by simp [bne, hk2']
            go_wp2_with fail
            go_ret
            exact ⟨rfl, pz, rz, mz, Sz, PW.out, RR.out, MM.out, KB.out⟩
      · have hk4' : (kind == 4) = false := beq_eq_false_iff_ne.2 hk4
        have PW := PW0; have RR := RR0; have KB := KB0; have X3z := X3
        have MM := Bx.mk (fun k (hk : k < 3) => Nat.le_trans (MM0.out k hk) (Nat.le_add_right M l.length))
        clear CQ CN CR CRN XG0 HGC MM0 PW0 RR0 KB0
        go_upto_region 20 with (fail)
        have xg := PW.out.hG
        obtain ⟨pz, hpz⟩ : ∃ f, f = (p) := ⟨_, rfl⟩
        obtain ⟨rz, hrz⟩ : ∃ f, f = (r) := ⟨_, rfl⟩
        obtain ⟨mz, hmz⟩ : ∃ f, f = (m) := ⟨_, rfl⟩
        obtain ⟨Sz, hSz⟩ : ∃ f, f = (S) := ⟨_, rfl⟩
        rw [← hpz, ← hrz] at xg
        rw [← hpz, ← hrz, ← hmz, ← hSz] at PW
        rw [← hrz, ← hmz] at RR
        rw [← hmz] at MM
        clear hpz hrz hmz hSz
        have c0 : W.cell? ⟨G, K, none⟩ = some (.pointer (some ⟨pz K, 0, none⟩)) := er_cellAt xg K _ (Gc_q _ _ K KL.out)
        have c1 : W.cell? ⟨G, N, none⟩ = some (.pointer (some ⟨pz N, 0, none⟩)) := er_cellAt xg N _ (Gc_q _ _ N NL.out)
        have c2 : W.cell? ⟨n3, 0, none⟩ = some (.int .i64 kind) := er_cellAt X3z.out 0 _ rfl
        generalize pz K = pk at c0
        generalize pz N = pn at c1
        have f1 : ¬ (3 : Int) ≤ (K : Int) := by have := KL.out; omega
        have f2 : (K : Int) < (3 : Int) := by have := KL.out; omega
        have f3 : ¬ (3 : Int) ≤ (N : Int) := by have := NL.out; omega
        have f4 : (N : Int) < (3 : Int) := by have := NL.out; omega
        have cl : ∀ u, Below W.heap.size W u → _ := fun u hu => looks_any base u G pz rz mz Sz (PW.out.below hu) RR.out K KL.out (by have := MM.out K KL.out; have := ML.out; omega) (HT.out u (KB.out.trans (hu.mono (Nat.le_trans BL.out KB.out.size)))) (Nat.lt_of_lt_of_le HG.out (Nat.le_trans (Nat.le_trans BL.out KB.out.size) hu.size))
        have CLK := Bx.mk cl
        clear xg cl
        by_cases hk2 : kind = 2
        · subst hk2
          go_wp2_with fail
          refine (CLK.out W (Below.refl _ _)).mono ?_
          rintro e wl ⟨rfl, hbl⟩
          have HBL := Bx.mk hbl
          clear hbl c0 c1 c2
          go_wp2_with fail
          refine (CLK.out wl HBL.out).mono ?_
          rintro e wm ⟨rfl, hbl⟩
          have HBM := Bx.mk (HBL.out.trans (hbl.mono HBL.out.size))
          clear hbl HBL
          go_wp2_with fail
          go_ret
          exact ⟨rfl, pz, rz, mz, Sz, PW.out.below HBM.out, RR.out, MM.out, KB.out.trans (HBM.out.mono (Nat.le_trans BL.out KB.out.size))⟩
        · have hk2' : (kind == 2) = false := beq_eq_false_iff_ne.2 hk2
          have hk3 : (kind != 2) = true := by simp [bne, hk2']
          go_wp2_with fail
          go_ret
          exact ⟨rfl, pz, rz, mz, Sz, PW.out, RR.out, MM.out, KB.out⟩
end Go.Proofs.YtfoknhogclfhhaaDoor
