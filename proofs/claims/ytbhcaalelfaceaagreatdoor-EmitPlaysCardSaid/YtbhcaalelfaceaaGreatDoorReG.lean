/- cartularylaw10: one op. -/
import Derived.Test.YtbhcaalelfaceaaGreatDoorReF
import Derived.Test.YtbhcaalelfaceaaGreatDoorE4
import Derived.Test.YtbhcaalelfaceaaGreatDoorEmC
import Derived.Test.YtbhcaalelfaceaaGreatDoorRowN
namespace Go.Proofs.YtbhcaalelfaceaaGreatDoor
set_option maxRecDepth 100000
open Go.RowKit
theorem and1 (x : Int) : ∃ k : Nat, k < 2 ∧ bits .and .i64 x 1 = (k : Int) := by
  refine ⟨(BitVec.ofInt 64 x &&& 1#64).toNat, ?_, ?_⟩
  · have : (BitVec.ofInt 64 x &&& 1#64).toNat ≤ 1 := by
      rw [BitVec.toNat_and]; exact Nat.and_le_right
    omega
  · have hle : (BitVec.ofInt 64 x &&& 1#64).toNat ≤ 1 := by
      rw [BitVec.toNat_and]; exact Nat.and_le_right
    show IntKind.i64.wrap (((BitVec.ofInt 64 x) &&& (BitVec.ofInt 64 1)).toNat : Int) = _
    rw [show BitVec.ofInt 64 1 = 1#64 from rfl]
    generalize (BitVec.ofInt 64 x &&& 1#64).toNat = q at hle ⊢
    rcases (show q = 0 ∨ q = 1 by omega) with rfl | rfl <;> rfl
def m9 : List UInt8 := [9, 9, 0, 0, 0, 0, 0, 0, 0, 0, 0, 0, 0, 0, 0, 0, 0, 0, 0, 0, 0, 0, 0, 0, 0, 0, 0, 0, 0, 0, 0, 0]
theorem built_9 : Tryz.prog.built 66 [(0, .int .u8 9), (1, .int .u8 9)] = some (ocells m9) := by kernel_rfl
theorem BkP.cS {u : World} {wb : Nat} {bn : Int} {l : Nat → Value} (h : BkP u wb bn l) {k : Nat} (hk : k < 2) {v : Value} (e : l (17 + k) = v) : u.cell? ⟨wb, k, none⟩ = some v := by
  rw [← e]
  rcases (show k = 0 ∨ k = 1 by omega) with rfl | rfl
  · exact er_cellAt h.hb 0 _ rfl
  · exact er_cellAt h.hb 1 _ rfl
theorem BkP.set {u u' : World} {wb : Nat} {bn : Int} {l : Nat → Value} (h : BkP u wb bn l) {cs : Array Value} (hc : u.heap[wb]? = some (.cells cs 47 (0, 0))) {k : Nat} (hk : k < 4) {v : Value} (hu : u'.heap[wb]? = some (.cells (cs.setIfInBounds k v) 47 (0, 0))) : BkP u' wb bn (updK l (17 + k) v) := by
  rw [h.hb] at hc
  injection hc with e
  injection e with e _ _
  subst e
  refine ⟨hu.trans ?_⟩
  rcases (show k = 0 ∨ k = 1 ∨ k = 2 ∨ k = 3 by omega) with rfl | rfl | rfl | rfl <;> rfl
theorem BkP.put {u : World} {wb : Nat} {bn : Int} {l : Nat → Value} (h : BkP u wb bn l) {k : Nat} (hk : k < 4) (v : Value) : BkP (u.setCell ⟨wb, k, none⟩ v) wb bn (updK l (17 + k) v) :=
  h.set h.hb hk (by simp [World.setCell, Array.getElem?_modify, h.hb])
theorem cell_setCell_ne (w : World) (g a b : Nat) (v : Value) (h : a ≠ b) : (w.setCell ⟨g, a, none⟩ v).cell? ⟨g, b, none⟩ = w.cell? ⟨g, b, none⟩ := by
  unfold World.setCell World.cell?
  simp only [Array.getElem?_modify, if_true]
  cases hg : w.heap[g]? with
  | none => rfl
  | some o => cases o <;> simp [h]
theorem frozen_setCell_ne (w : World) (g a b : Nat) (v : Value) : (w.setCell ⟨g, a, none⟩ v).frozen? ⟨g, b, none⟩ = w.frozen? ⟨g, b, none⟩ := by
  unfold World.setCell World.frozen?
  simp only [Array.getElem?_modify, if_true]
  cases hg : w.heap[g]? with
  | none => rfl
  | some o => cases o <;> rfl
theorem EW.kept {base : Nat} {w w' : World} {wb : Nat} {D : ED} (h : EW base w wb D) {T : Nat → Prop} (k : Keep T w w') (hd : ∀ a, a < 6 → ∀ j, D.U wb a j → ¬ T j) : EW base w' wb D :=
  have hb : BkP w' wb (D.bn : Int) D.l := ⟨(k.block wb h.wblt (hd 5 (by decide) wb rfl)).trans h.bh.bk.hb⟩
  ⟨h.bh.keep k hb rfl (fun j hj => hd 4 (by decide) j (.inr (.inl hj))) (fun i hi j hj => hd 4 (by decide) j (.inl ⟨i, hi, hj⟩)), h.bd.keep k hb rfl (fun j hj => hd 4 (by decide) j (.inr (.inr (.inr hj)))) (fun i hi j hj => hd 4 (by decide) j (.inr (.inr (.inl ⟨i, hi, hj⟩)))),
   h.hz, h.ps, h.pr, fun i hi => (h.bu i hi).kept k (fun j hj => hd i (by omega) j ((ED.Us hi j).2 hj)), fun i hi => (h.rb i hi).keptS k (fun j hj => hd (2 + i) (by omega) j ((ED.Ur hi j).2 hj)), h.pc, h.le, h.bw, h.dj, h.cm, h.c0, h.c1⟩
/-- both Loads refuse, or both take -/
theorem load_both (A : Nat → Addr) (n : Nat) (hs : List (List UInt8)) :
    (∃ q, q < 16 ∧ (∀ base w' e, LoadP A base w' e n hs → e = .returned (.tuple #[.pointer none, .iface 267 (.pointer (some (A q)))])) ∧ (∀ base w' e, RLoadP base w' e n hs → e = .returned (.tuple #[.pointer none, .agg #[.int .i64 ((q : Int) + 1), .int .i64 (-1)]]))) ∨
    (n ≤ 9223372036854775808 ∧ hs.length = pcnt n ∧ (∀ base w' e, LoadP A base w' e n hs → ∃ b s, e = .returned (.tuple #[.pointer (some ⟨b, 0, none⟩), .nilIface]) ∧ BuP base w' b n hs s) ∧ (∀ base w' e, RLoadP base w' e n hs → ∃ r L, e = .returned (.tuple #[.pointer (some ⟨r, 0, none⟩), .agg #[.int .i64 0, .int .i64 0]]) ∧ RbM base w' r n hs L)) := by
  by_cases h1 : 9223372036854775808 < n
  · exact .inl ⟨4, by decide, fun base w' e h => by unfold LoadP at h; rw [if_pos h1] at h; exact h, fun base w' e h => by unfold RLoadP at h; rw [if_pos h1] at h; exact h⟩
  · by_cases h2 : hs.length ≠ pcnt n
    · exact .inl ⟨1, by decide, fun base w' e h => by unfold LoadP at h; rw [if_neg h1, if_pos h2] at h; exact h, fun base w' e h => by unfold RLoadP at h; rw [if_neg h1, if_pos h2] at h; exact h⟩
    · exact .inr ⟨by omega, Decidable.not_not.1 h2, fun base w' e h => by unfold LoadP at h; rw [if_neg h1, if_neg h2] at h; exact h, fun base w' e h => by unfold RLoadP at h; rw [if_neg h1, if_neg h2] at h; exact h⟩
theorem there_kept {w w' : World} {B o n : Nat} (h : w.there B o n) (k : w'.heap[B]? = w.heap[B]?) : w'.there B o n := fun j hj => by
  have := h j hj
  simp only [World.cell?, World.frozen?, k] at this ⊢
  exact this
theorem there_part {w : World} {B n o m : Nat} (h : w.there B 0 n) (hm : o + m ≤ n) : w.there B o m := fun j hj => by
  have := h (o + j) (by omega)
  rw [Nat.zero_add] at this
  exact this
def DoesE (base : Nat) (w : World) (wb bn : Nat) (e : Ending) (w' : World) : Prop := e = .returned (.bool true) ∧ (∃ D', EW base w' wb D' ∧ D'.bn ≤ bn) ∧ Below base w w'
theorem Rel.kpE {mk : Nat → Option Nat} {i : Nat} {own own' : Nat → Option Nat} {w w' : World} (r : Rel mk i own w own' w') : Keep (fun j => own j = some i) w w' := ⟨r.os, r.tape, r.output, r.size, fun k hk hn => r.keep k hk hn⟩
/-- a new builder of the program's -/
def NeV (own : Nat → Option Nat) (w : World) (base B b n : Nat) (ls : List (List UInt8)) : Prop := ∃ s, BuP base w b n ls s ∧ ∀ j, BuS b s j → own j = none ∧ B ≤ j
theorem NeV.stable {mk own own' : Nat → Option Nat} {w w' : World} {i base B b n : Nat} {ls : List (List UInt8)} (h : NeV own w base B b n ls) (r : Rel mk i own w own' w') : NeV own' w' base B b n ls := by
  obtain ⟨s, h1, h2⟩ := h
  exact ⟨s, h1.kept r.kpE (fun j hj e => by rw [(h2 j hj).1] at e; cases e), fun j hj => ⟨(r.owns j (h1.lt j hj)).trans (h2 j hj).1, (h2 j hj).2⟩⟩
/-- a new one of the document's -/
def RnV (own : Nat → Option Nat) (w : World) (base B b n : Nat) (ls : List (List UInt8)) : Prop := ∃ s, RbM base w b n ls s ∧ ∀ j, RbS b s j → own j = none ∧ B ≤ j
theorem RnV.stable {mk own own' : Nat → Option Nat} {w w' : World} {i base B b n : Nat} {ls : List (List UInt8)} (h : RnV own w base B b n ls) (r : Rel mk i own w own' w') : RnV own' w' base B b n ls := by
  obtain ⟨s, h1, h2⟩ := h
  exact ⟨s, h1.keptS r.kpE (fun j hj e => by rw [(h2 j hj).1] at e; cases e), fun j hj => ⟨(r.owns j (h1.ltS j hj)).trans (h2 j hj).1, (h2 j hj).2⟩⟩
def PtV (P : Nat → Prop) (v : Value) : Prop := ∃ b, v = .pointer (some ⟨b, 0, none⟩) ∧ P b
def StW (own : Nat → Option Nat) (w : World) (wb k : Nat) (cs : Array Value) (P : Nat → Prop) : Prop := ∃ b, OutV own w wb 6 47 (cs.setIfInBounds k (.pointer (some ⟨b, 0, none⟩))) ∧ P b
def TpV (P : Nat → Prop) (v : Value) : Prop := ∃ b, v = .tuple #[.pointer (some ⟨b, 0, none⟩), .nilIface] ∧ P b
def VN23 (wb k base B : Nat) (cs : Array Value) (oi : Nat) (v : Value) (own : Nat → Option Nat) (w : World) : Prop :=
  match oi with
  | 0 => v = .pointer (some ⟨wb, 0, none⟩)
  | 1 => v = .int .i64 (k : Int)
  | 2 => PtV (fun b => NeV own w base B b 0 []) v
  | 3 => v = .pointer (some ⟨wb, 0, none⟩)
  | 4 => v = .pointer (some ⟨wb, 0, none⟩)
  | 5 => v = .pointer (some ⟨wb, k, none⟩)
  | 6 => StW own w wb (k) cs (fun b => NeV own w base B b 0 [])
  | _ => True
def VN23mk : Nat → Option Nat := fun _ => none
theorem VN23_mono (wb k base B : Nat) (cs : Array Value) (oi oj : Nat) (v : Value) (own : Nat → Option Nat) (w : World) (own' : Nat → Option Nat) (w' : World) (hij : oi ≠ oj)   (h : VN23 wb k base B cs oj v own w) (r1 : Rel VN23mk oi own w own' w') : VN23 wb k base B cs oj v own' w' := by
  unfold VN23 at h ⊢
  split at h
  · exact h
  · exact h
  · obtain ⟨b, e, h⟩ := h; exact ⟨b, e, h.stable r1⟩
  · exact h
  · exact h
  · exact h
  · obtain ⟨b, h1, h2⟩ := h; exact ⟨b, h1.stable r1 hij, h2.stable r1⟩
  · trivial

def VN24 (wb k base B : Nat) (cs : Array Value) (oi : Nat) (v : Value) (own : Nat → Option Nat) (w : World) : Prop :=
  match oi with
  | 0 => v = .pointer (some ⟨wb, 0, none⟩)
  | 1 => v = .int .i64 (k : Int)
  | 2 => PtV (fun b => RnV own w base B b 0 []) v
  | 3 => v = .pointer (some ⟨wb, 0, none⟩)
  | 4 => v = .pointer (some ⟨wb, 2, none⟩)
  | 5 => v = .pointer (some ⟨wb, 2 + k, none⟩)
  | 6 => StW own w wb (2 + k) cs (fun b => RnV own w base B b 0 [])
  | _ => True
def VN24mk : Nat → Option Nat := fun _ => none
theorem VN24_mono (wb k base B : Nat) (cs : Array Value) (oi oj : Nat) (v : Value) (own : Nat → Option Nat) (w : World) (own' : Nat → Option Nat) (w' : World) (hij : oi ≠ oj)   (h : VN24 wb k base B cs oj v own w) (r1 : Rel VN24mk oi own w own' w') : VN24 wb k base B cs oj v own' w' := by
  unfold VN24 at h ⊢
  split at h
  · exact h
  · exact h
  · obtain ⟨b, e, h⟩ := h; exact ⟨b, e, h.stable r1⟩
  · exact h
  · exact h
  · exact h
  · obtain ⟨b, h1, h2⟩ := h; exact ⟨b, h1.stable r1 hij, h2.stable r1⟩
  · trivial

def VN26 (wb k sk n m base B : Nat) (ls : List (List UInt8)) (oi : Nat) (v : Value) (own : Nat → Option Nat) (w : World) : Prop :=
  match oi with
  | 0 => v = .pointer (some ⟨wb, 0, none⟩)
  | 1 => v = .int .i64 (k : Int)
  | 2 => v = .pointer (some ⟨wb, 0, none⟩)
  | 3 => v = .pointer (some ⟨wb, 0, none⟩)
  | 4 => v = .pointer (some ⟨wb, k, none⟩)
  | 5 => v = .pointer (some ⟨sk, 0, none⟩)
  | 6 => v = .int .u64 (n : Int)
  | 7 => v = .pointer (some ⟨wb, 0, none⟩)
  | 8 => v = .int .i64 (k : Int)
  | 9 => v = .pointer (some ⟨wb, 0, none⟩)
  | 10 => v = .pointer (some ⟨wb, 0, none⟩)
  | 11 => v = .pointer (some ⟨wb, k, none⟩)
  | 12 => v = .pointer (some ⟨sk, 0, none⟩)
  | 13 => RowN own w v 0 66 32 m (hcells ls)
  | 14 => TpV (fun b => NeV own w base B b n ls) v
  | 15 => TpV (fun b => NeV own w base B b n ls) v
  | 16 => PtV (fun b => NeV own w base B b n ls) v
  | 17 => v = .nilIface
  | 18 => PtV (fun b => NeV own w base B b n ls) v
  | 19 => v = .nilIface
  | _ => True
def VN26mk : Nat → Option Nat := fun _ => none
theorem VN26_mono (wb k sk n m base B : Nat) (ls : List (List UInt8)) (oi oj : Nat) (v : Value) (own : Nat → Option Nat) (w : World) (own' : Nat → Option Nat) (w' : World) (hij : oi ≠ oj)   (h : VN26 wb k sk n m base B ls oj v own w) (r1 : Rel VN26mk oi own w own' w') : VN26 wb k sk n m base B ls oj v own' w' := by
  unfold VN26 at h ⊢
  split at h
  · exact h
  · exact h
  · exact h
  · exact h
  · exact h
  · exact h
  · exact h
  · exact h
  · exact h
  · exact h
  · exact h
  · exact h
  · exact h
  · exact h.stable r1
  · obtain ⟨b, e, h⟩ := h; exact ⟨b, e, h.stable r1⟩
  · obtain ⟨b, e, h⟩ := h; exact ⟨b, e, h.stable r1⟩
  · obtain ⟨b, e, h⟩ := h; exact ⟨b, e, h.stable r1⟩
  · exact h
  · obtain ⟨b, e, h⟩ := h; exact ⟨b, e, h.stable r1⟩
  · exact h
  · trivial

set_option maxHeartbeats 6400000 in
theorem does10_any (A : Nat → Addr) (base : Nat) (w : World) (wb : Nat) (D : ED) (h : EW base w wb D) (hbase : base ≤ w.heap.size) (hE : ∀ u, Below base w u → Ec A u) (hbn : D.bn ≤ 80000000) (kd on : Int) (size : Nat) (hsz : size < 18446744073709551616) (ha : Option Addr) (hl hc : Nat) (hs : List (List UInt8))
    (hH : ∀ u, Below base w u → Hss u (.slice ha hl hc) hs) (hnil : ha = none → hc = 0 ∧ hl = 0) (hlm : hl ≤ 1048576) :
    Calls Tryz.prog 7 #[.pointer (some ⟨wb, 0, none⟩), .agg #[.int .i64 kd, .int .i64 on, .int .u64 (size : Int), .slice ha hl hc]] w (DoesE base w wb (D.bn + hl)) := by
  obtain ⟨k, hk, hand⟩ := and1 on
  have kb := er_al (Below.refl w.heap.size w) (.cells #[.int .i64 kd, .int .i64 on, .int .u64 (size : Int), .slice ha hl hc] 53)
  have x0 := heap_alloc_new w (.cells #[.int .i64 kd, .int .i64 on, .int .u64 (size : Int), .slice ha hl hc] 53)
  have h0 := h.below kb
  have HLN : Bx (hl = hs.length) := ⟨by obtain ⟨_, _, e, _⟩ := (hH w (Below.refl _ _)).len; cases e; rfl⟩
  have HK := Bx.mk hk; have HE := Bx.mk hE; have BN := Bx.mk hbn; have SZ := Bx.mk hsz; have HH := Bx.mk hH; have HNL := Bx.mk hnil; have LM := Bx.mk hlm
  have B0 := Bx.mk (kb.mono hbase); have BS0 := Bx.mk (Nat.le_trans hbase kb.size); have BSW := Bx.mk hbase
  have ULT := Bx.mk h.lt
  have k1 : (k : Int) < 2 := by omega
  have k2 : ¬ (2 : Int) ≤ (k : Int) := by omega
  have k3 : (0 : Int) ≤ (k : Int) := by omega
  have K1 := Bx.mk k1; have K2 := Bx.mk k2
  clear hE hbn hsz hH hnil hlm hbase hk
  go_enter Tryz.func7, Tryz.ntmps7
  go_upto_region 1 with (fail)
  change Code.wp _ _ _ _ (w.alloc (.cells #[.int .i64 kd, .int .i64 on, .int .u64 (size : Int), .slice ha hl hc] 53))
  generalize w.alloc (.cells #[.int .i64 kd, .int .i64 on, .int .u64 (size : Int), .slice ha hl hc] 53) = W at kb x0 h0 B0 BS0 ⊢
  obtain ⟨N, hN⟩ : ∃ N, N = w.heap.size := ⟨_, rfl⟩
  rw [← hN] at x0 ⊢
  have HN := Bx.mk hN; have HW := Bx.mk h0; have X0 := Bx.mk x0
  have NU := Bx.mk (show ∀ a, a < 6 → ¬ D.U wb a N from fun a _ e => by have := ULT.out a N e; omega)
  have d0 := er_cellAt x0 0 _ rfl; have d1 := er_cellAt x0 1 _ rfl
  clear kb x0 h0 h hN
  go_upto_region 3 with (fail)
  clear d0 d1 hand
  by_cases h1 : kd = 1
  · subst h1
    have d3 := er_cellAt X0.out 3 _ rfl
    go_wp2_with fail
    clear d3
    go_loopw [6] (fun iv wr => ∃ (t : Nat) (D1 : ED), t ≤ hl ∧ iv = .int .i64 (t : Int) ∧ EW base wr wb D1 ∧ D1.bn = D.bn + t ∧ (∀ a, a < 6 → ¬ D1.U wb a N) ∧ wr.heap[N]? = some (.cells #[.int .i64 1, .int .i64 on, .int .u64 (size : Int), .slice ha hl hc] 53 (0, 0)) ∧ Below base w wr) (fun iv _ => hl - (intOf iv).toNat)
    case atStart => exact ⟨0, D, Nat.zero_le _, rfl, HW.out, rfl, NU.out, X0.out, B0.out⟩
    case round =>
      obtain ⟨t, D1, ht, rfl, hD, hbn1, hnu, hx, hb⟩ := hrel
      have HD := Bx.mk hD; have BN1 := Bx.mk hbn1; have NU1 := Bx.mk hnu; have X1 := Bx.mk hx; have BW := Bx.mk hb
      have d3 := er_cellAt hx 3 _ rfl
      clear hD hbn1 hnu hx hb
      by_cases hlt : t < hl
      · obtain ⟨-, -, -, B2, off, e, hBl, hr0, hxl0⟩ := (HH.out wr BW.out).at t (by rw [← HLN.out]; exact hlt)
        subst e
        obtain ⟨x, hx⟩ : ∃ px, px = hs[t]'(by rw [← HLN.out]; exact hlt) := ⟨_, rfl⟩
        have hr : wr.rangeAt B2 (off + t * 32) (bcells x) := by rw [hx]; exact hr0
        have hxl : x.length = 32 := by rw [hx]; exact hxl0
        have RX := Bx.mk hr; have XL := Bx.mk hxl
        have f2 : ¬ (hl : Int) ≤ (t : Int) := by omega
        have f3 : (t : Int) < (hl : Int) := by omega
        have TL := Bx.mk hlt
        have CA := Bx.mk (Go.Proofs.YtbhcaalelfaceaaGreatDoor.K2.adds10_any A base wr wb D1 HD.out (Nat.le_trans BSW.out BW.out.size) (fun u hu => HE.out u (BW.out.trans hu)) (by have := BN.out; have := BN1.out; have := LM.out; omega) k HK.out x XL.out)
        clear hr hxl hr0 hxl0 hx hBl hlt ht
        go_upto_region 7 with (fail)
        go_wp2_with (guard_target =~ wpList _ _ _ (⟨some 35, _, _, _, _, _⟩ :: _) _ _; refine wpList_load_mid rfl 66 (.tmp 34) rfl B2 (off + t * 32) rfl (bcells x) _ RX.out underH rfl (hszB' XL.out) ?_)
        refine CA.out.mono ?_
        clear CA d3 f2 f3
        rintro e u ⟨rfl, ⟨D2, hD2, hb2, hu2⟩, hb3, hk3⟩
        have R2 : Bx (EW base u wb D2 ∧ D2.bn = D.bn + (t + 1) ∧ (∀ a, a < 6 → ¬ D2.U wb a N) ∧ u.heap[N]? = some (.cells #[.int .i64 1, .int .i64 on, .int .u64 (size : Int), .slice (some ⟨B2, off, none⟩) hl hc] 53 (0, 0)) ∧ Below base w u) := ⟨hD2, by have := BN1.out; omega, fun a ha e => by
          rcases hu2 a ha N e with ⟨b, hb, e⟩ | e
          · exact NU1.out b hb e
          · have := (Array.getElem?_eq_some_iff.1 X1.out).1; omega, (hk3.block N (Array.getElem?_eq_some_iff.1 X1.out).1 (fun ⟨a, ha, e⟩ => NU1.out a ha e)).trans X1.out, BW.out.trans hb3⟩
        clear hD2 hb2 hu2 hb3 hk3
        go_wp2_with fail
        go_roundw
        case rel => exact ⟨t + 1, D2, TL.out, (by rw [wrap_succB t (by have := TL.out; have := LM.out; omega)]), R2.out⟩
        case measure => rw [wrap_succB t (by have := TL.out; have := LM.out; omega)]; have := TL.out; simp [intOf]; omega
      · obtain rfl : t = hl := by omega
        have c0 := HD.out.cS HK.out
        have FIN : Bx (DoesE base w wb (D.bn + t) (.returned (.bool true)) wr) := ⟨rfl, ⟨D1, HD.out, Nat.le_of_eq BN1.out⟩, BW.out⟩
        clear ht hlt
        go_wp2_with fail
        go_ret
        exact FIN.out
  · have f1 : (kd == 1) = false := by simpa using h1
    clear h1
    by_cases h2 : kd = 2
    · subst h2
      have d2 := er_cellAt X0.out 2 _ rfl; have d3 := er_cellAt X0.out 3 _ rfl
      have C1 := Bx.mk (twinB_any W ha hl hc hs (HH.out W B0.out) (by have := LM.out; have := HLN.out; omega))
      clear f1
      go_wp2_with fail
      refine C1.out.mono ?_
      rintro e w1 ⟨v, rfl, ⟨htw, rfl, hth⟩, hb⟩
      rw [← HLN.out] at htw hth ⊢
      obtain ⟨TB, hTB⟩ : ∃ TB, TB = W.heap.size := ⟨_, rfl⟩
      rw [← hTB] at htw hth ⊢
      have x1 := (hb.block N (Array.getElem?_eq_some_iff.1 X0.out).1).trans X0.out
      have X1 := Bx.mk x1; have B1 := Bx.mk (B0.out.trans (hb.mono BS0.out)); have S1 := Bx.mk (Nat.le_trans BS0.out hb.size); have TW1 := Bx.mk htw; have TH1 := Bx.mk hth; have HTB := Bx.mk hTB; have KW1 := Bx.mk hb
      have TBL := Bx.mk (show TB < w1.heap.size by
        obtain ⟨-, B, e, hB, -⟩ := htw
        injection e with e1 _ _
        injection e1 with e1
        injection e1 with e1 _ _
        omega)
      clear C1 d2 d3 htw hth hTB hb
      have d2 := er_cellAt x1 2 _ rfl; have d3 := er_cellAt x1 3 _ rfl
      clear x1
      have C2 := Bx.mk (load_any A w1 size SZ.out (some ⟨TB, 0, none⟩) hl (hl + 1) hs TW1.out.1 (fun e => by cases e) (HE.out w1 B1.out).hs)
      go_wp2_with fail
      refine C2.out.mono ?_
      rintro e w2 ⟨hL, hb⟩
      clear d2 d3 C2
      rcases load_both A size hs with ⟨q, hq, l1, l2⟩ | ⟨hle, hpc, l1, l2⟩
      · obtain rfl := l1 _ _ _ hL
        have x2 := (hb.block N (Array.getElem?_eq_some_iff.1 X1.out).1).trans X1.out
        have d2 := er_cellAt x2 2 _ rfl; have d3 := er_cellAt x2 3 _ rfl
        have X2 := Bx.mk x2; have B2 := Bx.mk (B1.out.trans (hb.mono S1.out)); have S2 := Bx.mk (Nat.le_trans S1.out hb.size); have TW2 := Bx.mk (TW1.out.below hb); have TH2 := Bx.mk (there_kept TH1.out (hb.block TB TBL.out)); have KW2 := Bx.mk (KW1.out.trans (hb.mono KW1.out.size)); have TL2 := Bx.mk (Nat.lt_of_lt_of_le TBL.out hb.size)
        have HQ := Bx.mk hq
        have C3 := Bx.mk (rload_any w2 size SZ.out ha hl hc hs (HH.out w2 B2.out) HNL.out)
        have L2 := Bx.mk l2
        clear hL hb x2 l1 l2 hq
        go_wp2_with fail
        refine C3.out.mono ?_
        rintro e w3 ⟨hR, hb⟩
        obtain rfl := L2.out _ _ _ hR
        have n3 := er_al (Below.refl w3.heap.size w3) (.cells #[.int .i64 ((q : Int) + 1), .int .i64 (-1)] 73)
        have y3 := heap_alloc_new w3 (.cells #[.int .i64 ((q : Int) + 1), .int .i64 (-1)] 73)
        have hb3 := hb.trans (n3.mono hb.size)
        
        clear hb hR d2 d3 C3 
        go_upto_region 13 with (fail)
        change Code.wp _ _ _ _ (w3.alloc (.cells #[.int .i64 ((q : Int) + 1), .int .i64 (-1)] 73))
        obtain ⟨F, hF⟩ : ∃ F, F = w3.heap.size := ⟨_, rfl⟩
        rw [← hF] at y3 ⊢
        clear n3 hF
        generalize w3.alloc (.cells #[.int .i64 ((q : Int) + 1), .int .i64 (-1)] 73) = W3 at y3 hb3  ⊢
        have x3 := (hb3.block N (Array.getElem?_eq_some_iff.1 X2.out).1).trans X2.out
        have X3 := Bx.mk x3; have B3 := Bx.mk (B2.out.trans (hb3.mono S2.out)); have S3 := Bx.mk (Nat.le_trans S2.out hb3.size); have TW3 := Bx.mk (TW2.out.below hb3); have TH3 := Bx.mk (there_kept TH2.out (hb3.block TB TL2.out)); have KW3 := Bx.mk (KW2.out.trans (hb3.mono KW2.out.size)); have TL3 := Bx.mk (Nat.lt_of_lt_of_le TL2.out hb3.size)
        
        have g0 := er_cellAt y3 0 _ rfl; have g1 := er_cellAt y3 1 _ rfl
        have d3 := er_cellAt x3 3 _ rfl
        have SM : Bx (Calls Tryz.prog 14 #[.iface 267 (.pointer (some (A q))), .agg #[.int .i64 ((q : Int) + 1), .int .i64 (-1)]] W3 fun e w' => e = .returned (.bool true) ∧ Below W3.heap.size W3 w') := ⟨(same_err (HE.out W3 B3.out).hs.err (ErrV.plain q HQ.out) ((q : Int) + 1) (-1)).mono fun e w' h => ⟨by rw [h.1]; simp, h.2⟩⟩
        clear y3 x3 hb3 
        go_wp2_with fail
        refine SM.out.mono ?_
        rintro e w4 ⟨rfl, hb⟩
        have x4 := (hb.block N (Array.getElem?_eq_some_iff.1 X3.out).1).trans X3.out
        have X4 := Bx.mk x4; have B4 := Bx.mk (B3.out.trans (hb.mono S3.out)); have S4 := Bx.mk (Nat.le_trans S3.out hb.size); have TW4 := Bx.mk (TW3.out.below hb); have TH4 := Bx.mk (there_kept TH3.out (hb.block TB TL3.out)); have KW4 := Bx.mk (KW3.out.trans (hb.mono KW3.out.size)); have TL4 := Bx.mk (Nat.lt_of_lt_of_le TL3.out hb.size)
        
        have d3 := er_cellAt x4 3 _ rfl
        have CL := left_any w4 _ hs ha hl hc TW4.out (HH.out w4 B4.out) (by have := LM.out; have := HLN.out; omega)
        have CLB := Bx.mk CL
        clear hb x4 SM g0 g1 CL
        go_wp2_with fail
        refine CLB.out.mono ?_
        rintro e w5 ⟨rfl, hb⟩
        have B5 := Bx.mk (B4.out.trans (hb.mono S4.out)); have S5 := Bx.mk (Nat.le_trans S4.out hb.size); have TH5 := Bx.mk (there_kept TH4.out (hb.block TB TL4.out)); have KW5 := Bx.mk (KW4.out.trans (hb.mono KW4.out.size)); have TL5 := Bx.mk (Nat.lt_of_lt_of_le TL4.out hb.size)
        
        clear hb d3 CLB
        go_wp2_with fail
        go_loopw [12] (fun iv wr => ∃ t : Nat, t ≤ hl ∧ iv = .int .i64 (t : Int) ∧ wr.there TB 0 ((hl + 1) * 32) ∧ Keep (fun j => j = TB) w5 wr) (fun iv _ => hl - (intOf iv).toNat)
        case atStart => exact ⟨0, Nat.zero_le _, rfl, TH5.out, Keep.refl _ _⟩
        case round =>
          obtain ⟨t, ht, rfl, hth, hkp⟩ := hrel
          by_cases hlt : t < hl
          · have f4 : ¬ (hl : Int) ≤ (t : Int) := by omega
            have f5 : (t : Int) < (hl : Int) := by omega
            have TP := Bx.mk (there_part hth (o := t * 32) (m := (ocells m9).size) (by rw [show (ocells m9).size = 32 from rfl]; omega))
            have TH6 := Bx.mk (World.there_setCells hth TB (t * 32) (ocells m9).toList)
            have KP6 := Bx.mk (hkp.trans (keep_setCells TB (ocells m9).toList (t * 32) wr) (fun _ _ h => h))
            have TL := Bx.mk hlt
            clear hth hkp hlt ht
            go_wp2_with (first
              | (guard_target =~ wpList _ _ _ (⟨some 84, _, _, _, _, _⟩ :: _) _ _; refine wpList_build_c (by simp [Region.wanted]) 66 #[(0, .const (.int .u8 9)), (1, .const (.int .u8 9))] rfl (ocells m9) (by simp only [List.map_toArray, List.map_cons, List.map_nil]; exact built_9) ?_)
              | (guard_target =~ wpList _ _ _ (⟨none, _, _, _, _, _⟩ :: _) _ _; refine wpList_store_mid rfl 66 (.tmp 85) (.tmp 84) rfl TB (t * 32) (ocells m9) rfl rfl TP.out (hszL (by decide)) (ocells_one _) ?_))
            go_roundw
            case rel => exact ⟨t + 1, TL.out, (by rw [wrap_succB t (by have := TL.out; have := LM.out; omega)]), TH6.out, KP6.out⟩
            case measure => rw [wrap_succB t (by have := TL.out; have := LM.out; omega)]; have := TL.out; simp [intOf]; omega
          · have f4 : ¬ (t : Int) < (hl : Int) := by omega
            have nT := Bx.mk (show ∀ a, a < 6 → ∀ j, D.U wb a j → ¬ j = TB from fun a _ j e h => by have := HW.out.lt a j e; have := HTB.out; omega)
            have HDw := Bx.mk ((HW.out.below KW5.out).kept hkp nT.out)
            have BF := Bx.mk (B5.out.trans (hkp.below (B := base) S5.out (fun j e => by have e : j = TB := e; have := HTB.out; have := BS0.out; omega)))
            have c0 := HDw.out.cS HK.out
            have FIN : Bx (DoesE base w wb (D.bn + hl) (.returned (.bool true)) wr) := ⟨rfl, ⟨D, HDw.out, Nat.le_add_right _ _⟩, BF.out⟩
            clear hkp hth hlt ht
            go_wp2_with fail
            go_ret
            exact FIN.out
      · obtain ⟨b, s, rfl, hBu⟩ := l1 _ _ _ hL
        have x2 := (hb.block N (Array.getElem?_eq_some_iff.1 X1.out).1).trans X1.out
        have d2 := er_cellAt x2 2 _ rfl; have d3 := er_cellAt x2 3 _ rfl
        have X2 := Bx.mk x2; have B2 := Bx.mk (B1.out.trans (hb.mono S1.out)); have S2 := Bx.mk (Nat.le_trans S1.out hb.size); have TW2 := Bx.mk (TW1.out.below hb); have TH2 := Bx.mk (there_kept TH1.out (hb.block TB TBL.out)); have KW2 := Bx.mk (KW1.out.trans (hb.mono KW1.out.size)); have TL2 := Bx.mk (Nat.lt_of_lt_of_le TBL.out hb.size)
        have BU2 := Bx.mk hBu; have Z1 := Bx.mk (Nat.le_trans KW1.out.size (Nat.le_refl w1.heap.size)); have BGE := Bx.mk (fun j hj => hBu.ge j hj); have PC := Bx.mk hpc; have LE := Bx.mk hle; have Z12 := Bx.mk hb.size
        have C3 := Bx.mk (rload_any w2 size SZ.out ha hl hc hs (HH.out w2 B2.out) HNL.out)
        have L2 := Bx.mk l2
        clear hL hb x2 l1 l2 hBu hpc hle
        go_wp2_with fail
        refine C3.out.mono ?_
        rintro e w3 ⟨hR, hb⟩
        obtain ⟨r, L, rfl, hRb⟩ := L2.out _ _ _ hR
        have n3 := er_al (Below.refl w3.heap.size w3) (.cells #[.int .i64 0, .int .i64 0] 73)
        have y3 := heap_alloc_new w3 (.cells #[.int .i64 0, .int .i64 0] 73)
        have hb3 := hb.trans (n3.mono hb.size)
        have m3 := hRb.below n3; have g3 := fun j hj => hRb.geS j hj; have u3 := BU2.out.below hb3; have bl3 := fun j hj => BU2.out.lt j hj
        clear hb hR d2 d3 C3 hRb
        go_upto_region 13 with (fail)
        change Code.wp _ _ _ _ (w3.alloc (.cells #[.int .i64 0, .int .i64 0] 73))
        obtain ⟨F, hF⟩ : ∃ F, F = w3.heap.size := ⟨_, rfl⟩
        rw [← hF] at y3 ⊢
        clear n3 hF
        generalize w3.alloc (.cells #[.int .i64 0, .int .i64 0] 73) = W3 at y3 hb3 m3 u3 ⊢
        have x3 := (hb3.block N (Array.getElem?_eq_some_iff.1 X2.out).1).trans X2.out
        have X3 := Bx.mk x3; have B3 := Bx.mk (B2.out.trans (hb3.mono S2.out)); have S3 := Bx.mk (Nat.le_trans S2.out hb3.size); have TW3 := Bx.mk (TW2.out.below hb3); have TH3 := Bx.mk (there_kept TH2.out (hb3.block TB TL2.out)); have KW3 := Bx.mk (KW2.out.trans (hb3.mono KW2.out.size)); have TL3 := Bx.mk (Nat.lt_of_lt_of_le TL2.out hb3.size)
        have M3 := Bx.mk m3; have G3 := Bx.mk g3; have U3 := Bx.mk u3; have BL3 := Bx.mk bl3
        have g0 := er_cellAt y3 0 _ rfl; have g1 := er_cellAt y3 1 _ rfl
        have d3 := er_cellAt x3 3 _ rfl
        have SM : Bx (Calls Tryz.prog 14 #[.nilIface, .agg #[.int .i64 0, .int .i64 0]] W3 fun e w' => e = .returned (.bool true) ∧ Below W3.heap.size W3 w') := ⟨same_err (HE.out W3 B3.out).hs.err ErrV.no 0 0⟩
        clear y3 x3 hb3 m3 g3 u3 bl3
        go_wp2_with fail
        refine SM.out.mono ?_
        rintro e w4 ⟨rfl, hb⟩
        have x4 := (hb.block N (Array.getElem?_eq_some_iff.1 X3.out).1).trans X3.out
        have X4 := Bx.mk x4; have B4 := Bx.mk (B3.out.trans (hb.mono S3.out)); have S4 := Bx.mk (Nat.le_trans S3.out hb.size); have TW4 := Bx.mk (TW3.out.below hb); have TH4 := Bx.mk (there_kept TH3.out (hb.block TB TL3.out)); have KW4 := Bx.mk (KW3.out.trans (hb.mono KW3.out.size)); have TL4 := Bx.mk (Nat.lt_of_lt_of_le TL3.out hb.size)
        have M4 := Bx.mk (M3.out.below hb); have U4 := Bx.mk (U3.out.below hb)
        have d3 := er_cellAt x4 3 _ rfl
        have CL := left_any w4 _ hs ha hl hc TW4.out (HH.out w4 B4.out) (by have := LM.out; have := HLN.out; omega)
        have CLB := Bx.mk CL
        clear hb x4 SM g0 g1 CL
        go_wp2_with fail
        refine CLB.out.mono ?_
        rintro e w5 ⟨rfl, hb⟩
        have B5 := Bx.mk (B4.out.trans (hb.mono S4.out)); have S5 := Bx.mk (Nat.le_trans S4.out hb.size); have TH5 := Bx.mk (there_kept TH4.out (hb.block TB TL4.out)); have KW5 := Bx.mk (KW4.out.trans (hb.mono KW4.out.size)); have TL5 := Bx.mk (Nat.lt_of_lt_of_le TL4.out hb.size)
        have M5 := Bx.mk (M4.out.below hb); have U5 := Bx.mk (U4.out.below hb)
        clear hb d3 CLB
        go_wp2_with fail
        go_loopw [12] (fun iv wr => ∃ t : Nat, t ≤ hl ∧ iv = .int .i64 (t : Int) ∧ wr.there TB 0 ((hl + 1) * 32) ∧ Keep (fun j => j = TB) w5 wr) (fun iv _ => hl - (intOf iv).toNat)
        case atStart => exact ⟨0, Nat.zero_le _, rfl, TH5.out, Keep.refl _ _⟩
        case round =>
          obtain ⟨t, ht, rfl, hth, hkp⟩ := hrel
          by_cases hlt : t < hl
          · have f4 : ¬ (hl : Int) ≤ (t : Int) := by omega
            have f5 : (t : Int) < (hl : Int) := by omega
            have TP := Bx.mk (there_part hth (o := t * 32) (m := (ocells m9).size) (by rw [show (ocells m9).size = 32 from rfl]; omega))
            have TH6 := Bx.mk (World.there_setCells hth TB (t * 32) (ocells m9).toList)
            have KP6 := Bx.mk (hkp.trans (keep_setCells TB (ocells m9).toList (t * 32) wr) (fun _ _ h => h))
            have TL := Bx.mk hlt
            clear hth hkp hlt ht
            go_wp2_with (first
              | (guard_target =~ wpList _ _ _ (⟨some 84, _, _, _, _, _⟩ :: _) _ _; refine wpList_build_c (by simp [Region.wanted]) 66 #[(0, .const (.int .u8 9)), (1, .const (.int .u8 9))] rfl (ocells m9) (by simp only [List.map_toArray, List.map_cons, List.map_nil]; exact built_9) ?_)
              | (guard_target =~ wpList _ _ _ (⟨none, _, _, _, _, _⟩ :: _) _ _; refine wpList_store_mid rfl 66 (.tmp 85) (.tmp 84) rfl TB (t * 32) (ocells m9) rfl rfl TP.out (hszL (by decide)) (ocells_one _) ?_))
            go_roundw
            case rel => exact ⟨t + 1, TL.out, (by rw [wrap_succB t (by have := TL.out; have := LM.out; omega)]), TH6.out, KP6.out⟩
            case measure => rw [wrap_succB t (by have := TL.out; have := LM.out; omega)]; have := TL.out; simp [intOf]; omega
          · have f4 : ¬ (t : Int) < (hl : Int) := by omega
            have nT := Bx.mk (show ∀ a, a < 6 → ∀ j, D.U wb a j → ¬ j = TB from fun a _ j e h => by have := HW.out.lt a j e; have := HTB.out; omega)
            have HDw := Bx.mk ((HW.out.below KW5.out).kept hkp nT.out)
            have hTn : ∀ j, (w1.heap.size ≤ j) → ¬ j = TB := fun j h e => by have := TBL.out; omega
            have hBu := U5.out.kept hkp (fun j hj => hTn j (BGE.out j hj))
            have hRb := M5.out.keptS hkp (fun j hj => hTn j (Nat.le_trans Z12.out (G3.out j hj)))
            have hbk := HDw.out.bh.bk
            have p1 := hbk.put (k := k) (by have := HK.out; omega) (.pointer (some ⟨b, 0, none⟩))
            have p2 := p1.put (k := 2 + k) (by have := HK.out; omega) (.pointer (some ⟨r, 0, none⟩))
            have kk : Keep (fun j => j = wb) wr ((wr.setCell ⟨wb, k, none⟩ (.pointer (some ⟨b, 0, none⟩))).setCell ⟨wb, 2 + k, none⟩ (.pointer (some ⟨r, 0, none⟩))) := (Keep.setCell wr ⟨wb, k, none⟩ _).trans (Keep.setCell _ ⟨wb, 2 + k, none⟩ _) (fun _ _ h => h)
            have szl : w.heap.size ≤ wr.heap.size := Nat.le_trans (Nat.le_trans (HN.out ▸ Nat.le_of_lt (Array.getElem?_eq_some_iff.1 X0.out).1) KW5.out.size) hkp.size
            have wlt := HW.out.wblt
            have wTB := HTB.out
            have kWf : Keep (fun j => j = wb ∨ D.U wb k j ∨ D.U wb (2 + k) j) W ((wr.setCell ⟨wb, k, none⟩ (.pointer (some ⟨b, 0, none⟩))).setCell ⟨wb, 2 + k, none⟩ (.pointer (some ⟨r, 0, none⟩))) :=
              ((Keep.of_below KW5.out (fun j => j = wb ∨ D.U wb k j ∨ D.U wb (2 + k) j)).trans hkp (fun j hj e => absurd (show j = TB from e) (by omega))).trans kk (fun _ _ e => .inl e)
            have nb1 : ∀ j, BuS b s j → W.heap.size ≤ j := fun j hj => Nat.le_trans KW1.out.size (BGE.out j hj)
            have nb2 : ∀ j, RbS r L j → W.heap.size ≤ j := fun j hj => Nat.le_trans (Nat.le_trans KW1.out.size Z12.out) (G3.out j hj)
            have hEW := EW.put (k := k) (l' := updK (updK D.l (17 + k) (.pointer (some ⟨b, 0, none⟩))) (17 + (2 + k)) (.pointer (some ⟨r, 0, none⟩))) HW.out HK.out kWf p2 (fun i h1 h2 => by unfold updK; rw [if_neg (by omega), if_neg (by omega)])
              (by unfold updK; rw [if_neg (by omega), if_pos rfl]) (by unfold updK; rw [if_pos (by omega)])
              (((hBu.kept kk (fun j hj e => by have := nb1 j hj; have e : j = wb := e; omega)).mono (Nat.le_trans S1.out (Nat.le_refl _)))) (((hRb.keptS kk (fun j hj e => by have := nb2 j hj; have e : j = wb := e; omega)).mono (Nat.le_trans S2.out (Nat.le_refl _)))) PC.out LE.out
              (fun j hj => .inr (nb1 j hj)) (fun j hj => .inr (nb2 j hj))
              (fun j h1 h2 => by have q1 := BL3.out j h1; have q2 := G3.out j h2; omega)
            have BF : Bx (Below base w ((wr.setCell ⟨wb, k, none⟩ (.pointer (some ⟨b, 0, none⟩))).setCell ⟨wb, 2 + k, none⟩ (.pointer (some ⟨r, 0, none⟩)))) := ⟨((B5.out.trans (hkp.below (B := base) S5.out (fun j e => by have e : j = TB := e; have := BS0.out; omega))).setCell HW.out.bw _).setCell HW.out.bw _⟩
            have FIN : Bx (DoesE base w wb (D.bn + hl) (.returned (.bool true)) ((wr.setCell ⟨wb, k, none⟩ (.pointer (some ⟨b, 0, none⟩))).setCell ⟨wb, 2 + k, none⟩ (.pointer (some ⟨r, 0, none⟩)))) := ⟨rfl, ⟨_, hEW, Nat.le_add_right _ _⟩, BF.out⟩
            have cS := HDw.out.cS HK.out
            have fS := frozenC hbk.hb k
            have cT := HDw.out.cR HK.out
            have fT := frozenC hbk.hb (2 + k)
            have cT2 : (wr.setCell ⟨wb, k, none⟩ (.pointer (some ⟨b, 0, none⟩))).cell? ⟨wb, 2 + k, none⟩ = some (.pointer (some ⟨D.r k, 0, none⟩)) := by rw [← cT]; exact cell_setCell_ne wr wb k (2 + k) _ (by omega)
            have fT2 : (wr.setCell ⟨wb, k, none⟩ (.pointer (some ⟨b, 0, none⟩))).frozen? ⟨wb, 2 + k, none⟩ = false := by rw [← fT]; exact frozen_setCell_ne wr wb k (2 + k) _
            have cE := p2.cS HK.out (show updK (updK D.l (17 + k) (.pointer (some ⟨b, 0, none⟩))) (17 + (2 + k)) (.pointer (some ⟨r, 0, none⟩)) (17 + k) = .pointer (some ⟨b, 0, none⟩) by unfold updK; rw [if_neg (by omega), if_pos rfl])
            clear hbk p1 p2 kk kWf nb1 nb2 hEW hBu hRb hTn cT fT wlt wTB szl hkp hth hlt ht
            go_wp2_with fail
            go_ret
            exact FIN.out
    · have f2 : (kd == 2) = false := by simpa using h2
      clear h2
      by_cases h3 : kd = 3
      · subst h3
        have BS := BS0
        obtain ⟨B, hB⟩ : ∃ B, B = W.heap.size := ⟨_, rfl⟩
        have BB := Bx.mk (Nat.le_of_eq hB); have HB := Bx.mk hB
        obtain ⟨cs, hcs⟩ : ∃ cs, W.heap[wb]? = some (.cells cs 47 (0, 0)) := ⟨_, HW.out.bh.bk.hb⟩
        have XB := Bx.mk hcs; have WBL := Bx.mk HW.out.wblt
        have CX : Bx (∀ u : World, u.heap[wb]? = W.heap[wb]? → u.cell? ⟨wb, k, none⟩ = some (.pointer (some ⟨D.s k, 0, none⟩))) := ⟨fun u e => BkP.cS (bn := (D.bn : Int)) (l := D.l) ⟨e.trans HW.out.bh.bk.hb⟩ HK.out (HW.out.ps k HK.out)⟩
        clear hB hcs
        go_upto_region 23 with (fail)
        refine wp_region_own8 (n := 153) VN23mk (fun j => if j = wb then some 6 else none) (VN23 wb k base B cs) (by kernel_rfl) (by kernel_rfl) rfl (fun j hj => if_neg (by have := WBL.out; omega)) (fun j i hj _ => by cases hj) ?_ ?_ ?_
        · exact fun oi oj v own w own' w' hij _ h r1 => VN23_mono wb k base B cs oi oj v own w own' w' hij h r1
        · intro oi o hi f u own hsame hsn hfr hlate hkeep8 hdep
          have hkeep := hkeep8 _ (.inl rfl)
          match oi, hi with
          | 0, hi =>
            cases (show some _ = some o from hi)
            have e0 : f.tmps.getD 0 undef = .pointer (some ⟨wb, 0, none⟩) := hsame.slot 0 (fun i o h => invB2_not 0 (by kernel_rfl) h)
            clear hdep hsame hi hlate hfr hkeep
            exact .inl ⟨wanted_none rfl, showsO_move hsn rfl _ rfl e0⟩
          | 1, hi =>
            cases (show some _ = some o from hi)
            have e5 : f.tmps.getD 5 undef = .int .i64 (k : Int) := hsame.slot 5 (fun i o h => invB2_not 5 (by kernel_rfl) h)
            clear hdep hsame hi hlate hfr hkeep
            exact .inl ⟨wanted_none rfl, showsO_move hsn rfl _ rfl e5⟩
          | 2, hi =>
            cases (show some _ = some o from hi)
            clear hdep hsame hi hlate hfr hkeep
            have c := bnew_any u
            exact .inl ⟨wanted_none rfl, showsO_call (R := fun v w' => ∃ b, v = .pointer (some ⟨b, 0, none⟩) ∧ BuP u.heap.size w' b 0 [] (.slice none 0 0)) hsn rfl 4 #[] (by simp only [execOp, Act.eval]; go_simp) (c.mono fun e w' ⟨b, h1, h2, h3⟩ => ⟨_, h1, ⟨b, rfl, h2⟩, h3⟩) (fun v w' ⟨b, e, h⟩ _ => ⟨b, e, .slice none 0 0, h.mono (Nat.le_trans BS.out hsn.size), fun j hj => ⟨hsn.top j (h.ge j hj), Nat.le_trans (Nat.le_trans BB.out hsn.size) (h.ge j hj)⟩⟩)⟩
          | 3, hi =>
            cases (show some _ = some o from hi)
            have e102 : (f.tmps.getD 102 undef) = .pointer (some ⟨wb, 0, none⟩) := depO (V := (VN23 wb k base B cs)) hdep 0 102 (by kernel_rfl) (by kernel_rfl)
            clear hdep hsame hi hlate hfr hkeep
            exact .inl ⟨wanted_none rfl, showsO_pure hsn rfl (.pointer (some ⟨wb, 0, none⟩)) (by simp only [execOp, Act.eval]; go_simp) rfl⟩
          | 4, hi =>
            cases (show some _ = some o from hi)
            have e105 : (f.tmps.getD 105 undef) = .pointer (some ⟨wb, 0, none⟩) := depO (V := (VN23 wb k base B cs)) hdep 3 105 (by kernel_rfl) (by kernel_rfl)
            clear hdep hsame hi hlate hfr hkeep
            exact .inl ⟨wanted_none rfl, showsO_pure hsn rfl (.pointer (some ⟨wb, 0, none⟩)) (by simp only [execOp, Act.eval]; go_simp) rfl⟩
          | 5, hi =>
            cases (show some _ = some o from hi)
            have e103 : (f.tmps.getD 103 undef) = .int .i64 (k : Int) := depO (V := (VN23 wb k base B cs)) hdep 1 103 (by kernel_rfl) (by kernel_rfl)
            have e106 : (f.tmps.getD 106 undef) = .pointer (some ⟨wb, 0, none⟩) := depO (V := (VN23 wb k base B cs)) hdep 4 106 (by kernel_rfl) (by kernel_rfl)
            clear hdep hsame hi hlate hfr hkeep
            have k1 := K1.out
            have k2 := K2.out
            exact .inl ⟨wanted_none rfl, showsO_pure hsn rfl (.pointer (some ⟨wb, k, none⟩)) (by simp only [execOp, Act.eval]; go_simp) rfl⟩
          | 6, hi =>
            cases (show some _ = some o from hi)
            have e104 : PtV (fun b => NeV own u base B b 0 []) (f.tmps.getD 104 undef) := depO (V := (VN23 wb k base B cs)) hdep 2 104 (by kernel_rfl) (by kernel_rfl)
            have e107 : (f.tmps.getD 107 undef) = .pointer (some ⟨wb, k, none⟩) := depO (V := (VN23 wb k base B cs)) hdep 5 107 (by kernel_rfl) (by kernel_rfl)
            clear hdep hsame hi hlate hfr hkeep
            obtain ⟨b, e104, N104⟩ := e104
            have hbU := (hkeep8 6 (.inl rfl) wb WBL.out (if_pos rfl)).trans XB.out
            have hst := CX.out u (hkeep8 6 (.inl rfl) wb WBL.out (if_pos rfl))
            have hfr2 := frozenC hbU (k)
            exact .inl ⟨wanted_none rfl, showsO_store_cell hsn hkeep8 rfl wb (k) cs 47 XB.out (if_pos rfl) (.pointer (some ⟨b, 0, none⟩)) (by simp only [execOp, Act.eval]; go_simp) (fun h => ⟨b, h, by obtain ⟨s, h1, h2⟩ := N104; exact ⟨s, h1.kept (Keep.setCell u ⟨wb, k, none⟩ _) (fun j hj e => by have e : j = wb := e; have h3 := (h2 j hj).1; rw [e, hsn.owns wb WBL.out, if_pos rfl] at h3; cases h3), h2⟩⟩)⟩
          | n + 7, hi => exact absurd hi (by simp)
        · intro f u1 own hsame hsn hall
          have q102 : f.tmps.getD 102 undef = .pointer (some ⟨wb, 0, none⟩) := finO (V := (VN23 wb k base B cs)) hall 0 102 rfl
          have q103 : f.tmps.getD 103 undef = .int .i64 (k : Int) := finO (V := (VN23 wb k base B cs)) hall 1 103 rfl
          obtain ⟨b104, q104, N104⟩ := finO (V := (VN23 wb k base B cs)) hall 2 104 rfl
          have q105 : f.tmps.getD 105 undef = .pointer (some ⟨wb, 0, none⟩) := finO (V := (VN23 wb k base B cs)) hall 3 105 rfl
          have q106 : f.tmps.getD 106 undef = .pointer (some ⟨wb, 0, none⟩) := finO (V := (VN23 wb k base B cs)) hall 4 106 rfl
          have q107 : f.tmps.getD 107 undef = .pointer (some ⟨wb, k, none⟩) := finO (V := (VN23 wb k base B cs)) hall 5 107 rfl
          obtain ⟨bz, ⟨oz, mz⟩, NZ⟩ := finN (V := (VN23 wb k base B cs)) hall 6 rfl
          obtain rfl := frame_eq hsame [(102, .pointer (some ⟨wb, 0, none⟩)), (103, .int .i64 (k : Int)), (104, (.pointer (some ⟨b104, 0, none⟩))), (105, .pointer (some ⟨wb, 0, none⟩)), (106, .pointer (some ⟨wb, 0, none⟩)), (107, .pointer (some ⟨wb, k, none⟩))] (by kernel_rfl) ⟨q102, q103, q104, q105, q106, q107, trivial⟩
          clear hall hsame q102 q103 q104 q105 q106 q107
          simp only [List.foldl, List.setIfInBounds_toArray, List.set_cons_succ, List.set_cons_zero]
          have kp1 : Keep (fun j => j = wb) W u1 := ⟨hsn.os, hsn.tape, hsn.output, hsn.size, fun j hj hn => hsn.keep j hj (if_neg hn)⟩
          have bp1 := HW.out.bh.bk.set XB.out (k := k) (by have := HK.out; omega) mz
          obtain ⟨s1, hBu, hnb⟩ := NZ
          obtain ⟨b1, hb1⟩ : ∃ b1, b1 = bz := ⟨_, rfl⟩
          rw [← hb1] at hBu hnb bp1
          have KP1 := Bx.mk kp1; have BP1 := Bx.mk bp1; have BU1 := Bx.mk hBu; have NB1 := Bx.mk (fun j hj => (hnb j hj).2)
          have XBr := Bx.mk mz; have WBLr := Bx.mk (Array.getElem?_eq_some_iff.1 mz).1
          have BSr := Bx.mk (Nat.le_trans BS0.out kp1.size)
          obtain ⟨Br, hBr⟩ : ∃ Br, Br = u1.heap.size := ⟨_, rfl⟩
          have BBr := Bx.mk (Nat.le_of_eq hBr); have HBr := Bx.mk hBr
          have CXr : Bx (∀ u : World, u.heap[wb]? = u1.heap[wb]? → u.cell? ⟨wb, 2 + k, none⟩ = some (.pointer (some ⟨D.r k, 0, none⟩))) := ⟨fun u e => BkP.cR (bn := (D.bn : Int)) (l := updK D.l (17 + k) (.pointer (some ⟨b1, 0, none⟩))) ⟨e.trans BP1.out.hb⟩ HK.out (by unfold updK; rw [if_neg (by have := HK.out; omega)]; exact HW.out.pr k HK.out)⟩
          obtain ⟨csr, hcsr⟩ : ∃ c : Array Value, c = cs.setIfInBounds k (.pointer (some ⟨bz, 0, none⟩)) := ⟨_, rfl⟩
          rw [← hcsr] at XBr
          clear kp1 bp1 hBu hnb mz oz hBr hsn CX hcsr hb1
          go_upto_region 24 with (fail)
          refine wp_region_own8 (n := 153) VN24mk (fun j => if j = wb then some 6 else none) (VN24 wb k base Br csr) (by kernel_rfl) (by kernel_rfl) rfl (fun j hj => if_neg (by have := WBLr.out; omega)) (fun j i hj _ => by cases hj) ?_ ?_ ?_
          · exact fun oi oj v own w own' w' hij _ h r1 => VN24_mono wb k base Br csr oi oj v own w own' w' hij h r1
          · intro oi o hi f u own hsame hsn hfr hlate hkeep8 hdep
            have hkeep := hkeep8 _ (.inl rfl)
            match oi, hi with
            | 0, hi =>
              cases (show some _ = some o from hi)
              have e0 : f.tmps.getD 0 undef = .pointer (some ⟨wb, 0, none⟩) := hsame.slot 0 (fun i o h => invB2_not 0 (by kernel_rfl) h)
              clear hdep hsame hi hlate hfr hkeep
              exact .inl ⟨wanted_none rfl, showsO_move hsn rfl _ rfl e0⟩
            | 1, hi =>
              cases (show some _ = some o from hi)
              have e5 : f.tmps.getD 5 undef = .int .i64 (k : Int) := hsame.slot 5 (fun i o h => invB2_not 5 (by kernel_rfl) h)
              clear hdep hsame hi hlate hfr hkeep
              exact .inl ⟨wanted_none rfl, showsO_move hsn rfl _ rfl e5⟩
            | 2, hi =>
              cases (show some _ = some o from hi)
              clear hdep hsame hi hlate hfr hkeep
              have c := rnew10_any u
              exact .inl ⟨wanted_none rfl, showsO_call (R := fun v w' => ∃ b, v = .pointer (some ⟨b, 0, none⟩) ∧ RbM u.heap.size w' b 0 [] (.slice none 0 0)) hsn rfl 5 #[] (by simp only [execOp, Act.eval]; go_simp) (c.mono fun e w' ⟨b, h1, h2, h3⟩ => ⟨_, h1, ⟨b, rfl, h2⟩, h3⟩) (fun v w' ⟨b, e, h⟩ _ => ⟨b, e, .slice none 0 0, h.mono (Nat.le_trans BSr.out hsn.size), fun j hj => ⟨hsn.top j (h.geS j hj), Nat.le_trans (Nat.le_trans BBr.out hsn.size) (h.geS j hj)⟩⟩)⟩
            | 3, hi =>
              cases (show some _ = some o from hi)
              have e108 : (f.tmps.getD 108 undef) = .pointer (some ⟨wb, 0, none⟩) := depO (V := (VN24 wb k base Br csr)) hdep 0 108 (by kernel_rfl) (by kernel_rfl)
              clear hdep hsame hi hlate hfr hkeep
              exact .inl ⟨wanted_none rfl, showsO_pure hsn rfl (.pointer (some ⟨wb, 0, none⟩)) (by simp only [execOp, Act.eval]; go_simp) rfl⟩
            | 4, hi =>
              cases (show some _ = some o from hi)
              have e111 : (f.tmps.getD 111 undef) = .pointer (some ⟨wb, 0, none⟩) := depO (V := (VN24 wb k base Br csr)) hdep 3 111 (by kernel_rfl) (by kernel_rfl)
              clear hdep hsame hi hlate hfr hkeep
              exact .inl ⟨wanted_none rfl, showsO_pure hsn rfl (.pointer (some ⟨wb, 2, none⟩)) (by simp only [execOp, Act.eval]; go_simp) rfl⟩
            | 5, hi =>
              cases (show some _ = some o from hi)
              have e109 : (f.tmps.getD 109 undef) = .int .i64 (k : Int) := depO (V := (VN24 wb k base Br csr)) hdep 1 109 (by kernel_rfl) (by kernel_rfl)
              have e112 : (f.tmps.getD 112 undef) = .pointer (some ⟨wb, 2, none⟩) := depO (V := (VN24 wb k base Br csr)) hdep 4 112 (by kernel_rfl) (by kernel_rfl)
              clear hdep hsame hi hlate hfr hkeep
              have k1 := K1.out
              have k2 := K2.out
              exact .inl ⟨wanted_none rfl, showsO_pure hsn rfl (.pointer (some ⟨wb, 2 + k, none⟩)) (by simp only [execOp, Act.eval]; go_simp) rfl⟩
            | 6, hi =>
              cases (show some _ = some o from hi)
              have e110 : PtV (fun b => RnV own u base Br b 0 []) (f.tmps.getD 110 undef) := depO (V := (VN24 wb k base Br csr)) hdep 2 110 (by kernel_rfl) (by kernel_rfl)
              have e113 : (f.tmps.getD 113 undef) = .pointer (some ⟨wb, 2 + k, none⟩) := depO (V := (VN24 wb k base Br csr)) hdep 5 113 (by kernel_rfl) (by kernel_rfl)
              clear hdep hsame hi hlate hfr hkeep
              obtain ⟨b, e110, N110⟩ := e110
              have hbU := (hkeep8 6 (.inl rfl) wb WBLr.out (if_pos rfl)).trans XBr.out
              have hst := CXr.out u (hkeep8 6 (.inl rfl) wb WBLr.out (if_pos rfl))
              have hfr2 := frozenC hbU (2 + k)
              exact .inl ⟨wanted_none rfl, showsO_store_cell hsn hkeep8 rfl wb (2 + k) csr 47 XBr.out (if_pos rfl) (.pointer (some ⟨b, 0, none⟩)) (by simp only [execOp, Act.eval]; go_simp) (fun h => ⟨b, h, by obtain ⟨s, h1, h2⟩ := N110; exact ⟨s, h1.keptS (Keep.setCell u ⟨wb, 2 + k, none⟩ _) (fun j hj e => by have e : j = wb := e; have h3 := (h2 j hj).1; rw [e, hsn.owns wb WBLr.out, if_pos rfl] at h3; cases h3), h2⟩⟩)⟩
            | n + 7, hi => exact absurd hi (by simp)
          · intro f u2 own hsame hsn hall
            have q108 : f.tmps.getD 108 undef = .pointer (some ⟨wb, 0, none⟩) := finO (V := (VN24 wb k base Br csr)) hall 0 108 rfl
            have q109 : f.tmps.getD 109 undef = .int .i64 (k : Int) := finO (V := (VN24 wb k base Br csr)) hall 1 109 rfl
            obtain ⟨b110, q110, N110⟩ := finO (V := (VN24 wb k base Br csr)) hall 2 110 rfl
            have q111 : f.tmps.getD 111 undef = .pointer (some ⟨wb, 0, none⟩) := finO (V := (VN24 wb k base Br csr)) hall 3 111 rfl
            have q112 : f.tmps.getD 112 undef = .pointer (some ⟨wb, 2, none⟩) := finO (V := (VN24 wb k base Br csr)) hall 4 112 rfl
            have q113 : f.tmps.getD 113 undef = .pointer (some ⟨wb, 2 + k, none⟩) := finO (V := (VN24 wb k base Br csr)) hall 5 113 rfl
            obtain ⟨bz, ⟨oz, mz⟩, NZ⟩ := finN (V := (VN24 wb k base Br csr)) hall 6 rfl
            obtain rfl := frame_eq hsame [(108, .pointer (some ⟨wb, 0, none⟩)), (109, .int .i64 (k : Int)), (110, (.pointer (some ⟨b110, 0, none⟩))), (111, .pointer (some ⟨wb, 0, none⟩)), (112, .pointer (some ⟨wb, 2, none⟩)), (113, .pointer (some ⟨wb, 2 + k, none⟩))] (by kernel_rfl) ⟨q108, q109, q110, q111, q112, q113, trivial⟩
            clear hall hsame q108 q109 q110 q111 q112 q113
            simp only [List.foldl, List.setIfInBounds_toArray, List.set_cons_succ, List.set_cons_zero]
            have kp2 : Keep (fun j => j = wb) u1 u2 := ⟨hsn.os, hsn.tape, hsn.output, hsn.size, fun j hj hn => hsn.keep j hj (if_neg hn)⟩
            have bp2 := BP1.out.set XBr.out (k := 2 + k) (by have := HK.out; omega) mz
            obtain ⟨L1, hRb, hnr⟩ := NZ
            have wlt := HW.out.wblt
            have hEW := EW.put (k := k) (l' := updK (updK D.l (17 + k) (.pointer (some ⟨b1, 0, none⟩))) (17 + (2 + k)) (.pointer (some ⟨bz, 0, none⟩))) HW.out HK.out
              ((KP1.out.trans kp2 (fun _ _ h => h)).mono (fun j _ e => .inl e)) bp2 (fun i h1 h2 => by unfold updK; rw [if_neg (by omega), if_neg (by omega)])
              (by unfold updK; rw [if_neg (by omega), if_pos rfl]) (by unfold updK; rw [if_pos (by omega)])
              (BU1.out.kept kp2 (fun j hj e => by have := NB1.out j hj; have := HB.out; have e : j = wb := e; omega)) hRb rfl (by decide)
              (fun j hj => .inr (HB.out ▸ NB1.out j hj)) (fun j hj => .inr (Nat.le_trans KP1.out.size (HBr.out ▸ (hnr j hj).2)))
              (fun j h1 h2 => by have q1 := BU1.out.lt j h1; have q2 := (hnr j h2).2; have := HBr.out; omega)
            have cE := bp2.cS HK.out (show updK (updK D.l (17 + k) (.pointer (some ⟨b1, 0, none⟩))) (17 + (2 + k)) (.pointer (some ⟨bz, 0, none⟩)) (17 + k) = .pointer (some ⟨b1, 0, none⟩) by unfold updK; rw [if_neg (by omega), if_pos rfl])
            have FIN : Bx (DoesE base w wb (D.bn + hl) (.returned (.bool true)) u2) := ⟨rfl, ⟨_, hEW, Nat.le_add_right _ _⟩, B0.out.trans ((KP1.out.trans kp2 (fun _ _ h => h)).below (B := base) BS0.out (fun j e => by have e : j = wb := e; rw [e]; exact HW.out.bw))⟩
            clear kp2 bp2 hRb hnr wlt hEW mz oz hsn
            go_wp2_with fail
            go_ret
            exact FIN.out
      · have f3 : (kd == 3) = false := by simpa using h3
        clear h3
        by_cases h4 : kd = 4
        · subst h4
          obtain ⟨sk, hsk⟩ : ∃ x, x = D.s k := ⟨_, rfl⟩
          obtain ⟨n, hn⟩ : ∃ x, x = D.n k := ⟨_, rfl⟩
          obtain ⟨ls, hls⟩ : ∃ x, x = D.ls k := ⟨_, rfl⟩
          obtain ⟨m, hm⟩ : ∃ x, x = ls.length := ⟨_, rfl⟩
          have bu0 := HW.out.bu k HK.out
          rw [← hsk, ← hn, ← hls] at bu0
          have pc0 := HW.out.pc k HK.out; have le0 := HW.out.le k HK.out
          rw [← hn] at le0 pc0; rw [← hls] at pc0
          have BU0 := Bx.mk bu0; have HM := Bx.mk hm; have PC := Bx.mk pc0; have LE := Bx.mk le0; have HSK := Bx.mk hsk; have HNN := Bx.mk hn; have HLS := Bx.mk hls
          have M64 := Bx.mk (show m ≤ 64 by rw [hm, pc0]; exact pcnt_le _)
          have BS := BS0
          obtain ⟨B, hB⟩ : ∃ B, B = W.heap.size := ⟨_, rfl⟩
          have BB := Bx.mk (Nat.le_of_eq hB); have HB := Bx.mk hB
          have CX : Bx (∀ u : World, Below W.heap.size W u → u.cell? ⟨wb, k, none⟩ = some (.pointer (some ⟨sk, 0, none⟩))) := ⟨fun u hu => by rw [HSK.out]; exact (HW.out.below hu).cS HK.out⟩
          have CS : Bx (∀ u, Below W.heap.size W u → Calls Tryz.prog 16 #[.pointer (some ⟨sk, 0, none⟩)] u fun e w' => e = .returned (.int .u64 (n : Int)) ∧ Below u.heap.size u w') := ⟨fun u hu => (bsize_any _ u sk _ _ _ (BU0.out.below hu)).mono fun e w' h => ⟨h.1, h.2 ▸ Below.refl _ _⟩⟩
          have CHH : Bx (∀ u, Below W.heap.size W u → Calls Tryz.prog 17 #[.pointer (some ⟨sk, 0, none⟩)] u fun e w' => ∃ v, e = .returned v ∧ (w'.ownsRow 0 66 32 v m (hcells ls) ∧ ∀ k, v.ownBlock = some k → u.heap.size ≤ k) ∧ Below u.heap.size u w') := ⟨fun u hu => bhss_any base u sk n ls (D.sv k) m HM.out (BU0.out.below hu) (by have := M64.out; omega) 0 (Nat.zero_le _)⟩
          have CL : Bx (∀ u, Below W.heap.size W u → ∀ a8 c8, u.ownsRow 0 66 32 (.slice a8 m c8) m (hcells ls) → (a8 = none → c8 = 0 ∧ m = 0) → Calls Tryz.prog 12 #[.int .u64 (n : Int), .slice a8 m c8] u fun e w' => ∃ v, e = .returned v ∧ (∃ b s, v = .tuple #[.pointer (some ⟨b, 0, none⟩), .nilIface] ∧ BuP u.heap.size w' b n ls s) ∧ Below u.heap.size u w') := ⟨fun u hu a8 c8 hr hz => (load_any A u n (by have := LE.out; omega) a8 m c8 ls (hss_own hr BU0.out.h32 HM.out) hz (HE.out u (B0.out.trans (hu.mono BS0.out))).hs).mono fun e w' hh => by
            obtain ⟨h1, h2⟩ := hh
            unfold LoadP at h1
            rw [if_neg (by have := LE.out; omega), if_neg (fun h => h PC.out)] at h1
            obtain ⟨b, s, e, h⟩ := h1
            exact ⟨_, e, ⟨b, s, rfl, h⟩, h2⟩⟩
          clear hsk hn hls hm bu0 pc0 le0 hB
          go_upto_region 26 with (fail)
          refine wp_region_own8 (n := 153) VN26mk (fun _ => none) (VN26 wb k sk n m base B ls) (by kernel_rfl) (by kernel_rfl) rfl (fun _ _ => rfl) (fun j i hj _ => by cases hj) ?_ ?_ ?_
          · exact fun oi oj v own w own' w' hij _ h r1 => VN26_mono wb k sk n m base B ls oi oj v own w own' w' hij h r1
          · intro oi o hi f u own hsame hsn hfr hlate hkeep8 hdep
            have hkeep := hkeep8 _ (.inl rfl)
            have hb6 := hsn.below (B := W.heap.size) (fun _ _ => rfl) (Nat.le_refl _)
            match oi, hi with
            | 0, hi =>
              cases (show some _ = some o from hi)
              have e0 : f.tmps.getD 0 undef = .pointer (some ⟨wb, 0, none⟩) := hsame.slot 0 (fun i o h => invB2_not 0 (by kernel_rfl) h)
              clear hdep hsame hi hlate hfr hkeep
              exact .inl ⟨wanted_none rfl, showsO_move hsn rfl _ rfl e0⟩
            | 1, hi =>
              cases (show some _ = some o from hi)
              have e5 : f.tmps.getD 5 undef = .int .i64 (k : Int) := hsame.slot 5 (fun i o h => invB2_not 5 (by kernel_rfl) h)
              clear hdep hsame hi hlate hfr hkeep
              exact .inl ⟨wanted_none rfl, showsO_move hsn rfl _ rfl e5⟩
            | 2, hi =>
              cases (show some _ = some o from hi)
              have e117 : (f.tmps.getD 117 undef) = .pointer (some ⟨wb, 0, none⟩) := depO (V := (VN26 wb k sk n m base B ls)) hdep 0 117 (by kernel_rfl) (by kernel_rfl)
              clear hdep hsame hi hlate hfr hkeep
              exact .inl ⟨wanted_none rfl, showsO_pure hsn rfl (.pointer (some ⟨wb, 0, none⟩)) (by simp only [execOp, Act.eval]; go_simp) rfl⟩
            | 3, hi =>
              cases (show some _ = some o from hi)
              have e119 : (f.tmps.getD 119 undef) = .pointer (some ⟨wb, 0, none⟩) := depO (V := (VN26 wb k sk n m base B ls)) hdep 2 119 (by kernel_rfl) (by kernel_rfl)
              clear hdep hsame hi hlate hfr hkeep
              exact .inl ⟨wanted_none rfl, showsO_pure hsn rfl (.pointer (some ⟨wb, 0, none⟩)) (by simp only [execOp, Act.eval]; go_simp) rfl⟩
            | 4, hi =>
              cases (show some _ = some o from hi)
              have e118 : (f.tmps.getD 118 undef) = .int .i64 (k : Int) := depO (V := (VN26 wb k sk n m base B ls)) hdep 1 118 (by kernel_rfl) (by kernel_rfl)
              have e120 : (f.tmps.getD 120 undef) = .pointer (some ⟨wb, 0, none⟩) := depO (V := (VN26 wb k sk n m base B ls)) hdep 3 120 (by kernel_rfl) (by kernel_rfl)
              clear hdep hsame hi hlate hfr hkeep
              have k1 := K1.out
              have k2 := K2.out
              exact .inl ⟨wanted_none rfl, showsO_pure hsn rfl (.pointer (some ⟨wb, k, none⟩)) (by simp only [execOp, Act.eval]; go_simp) rfl⟩
            | 5, hi =>
              cases (show some _ = some o from hi)
              have e121 : (f.tmps.getD 121 undef) = .pointer (some ⟨wb, k, none⟩) := depO (V := (VN26 wb k sk n m base B ls)) hdep 4 121 (by kernel_rfl) (by kernel_rfl)
              clear hdep hsame hi hlate hfr hkeep
              have cs0 := CX.out u hb6
              exact .inl ⟨wanted_none rfl, showsO_pure hsn rfl (.pointer (some ⟨sk, 0, none⟩)) (by simp only [execOp, Act.eval]; go_simp) rfl⟩
            | 6, hi =>
              cases (show some _ = some o from hi)
              have e122 : (f.tmps.getD 122 undef) = .pointer (some ⟨sk, 0, none⟩) := depO (V := (VN26 wb k sk n m base B ls)) hdep 5 122 (by kernel_rfl) (by kernel_rfl)
              clear hdep hsame hi hlate hfr hkeep
              have c := CS.out u hb6
              exact .inl ⟨wanted_none rfl, showsO_call1 hsn rfl 16 #[.pointer (some ⟨sk, 0, none⟩)] (by simp only [execOp, Act.eval]; go_simp) (c) (fun _ => rfl)⟩
            | 7, hi =>
              cases (show some _ = some o from hi)
              have e0 : f.tmps.getD 0 undef = .pointer (some ⟨wb, 0, none⟩) := hsame.slot 0 (fun i o h => invB2_not 0 (by kernel_rfl) h)
              clear hdep hsame hi hlate hfr hkeep
              exact .inl ⟨wanted_none rfl, showsO_move hsn rfl _ rfl e0⟩
            | 8, hi =>
              cases (show some _ = some o from hi)
              have e5 : f.tmps.getD 5 undef = .int .i64 (k : Int) := hsame.slot 5 (fun i o h => invB2_not 5 (by kernel_rfl) h)
              clear hdep hsame hi hlate hfr hkeep
              exact .inl ⟨wanted_none rfl, showsO_move hsn rfl _ rfl e5⟩
            | 9, hi =>
              cases (show some _ = some o from hi)
              have e124 : (f.tmps.getD 124 undef) = .pointer (some ⟨wb, 0, none⟩) := depO (V := (VN26 wb k sk n m base B ls)) hdep 7 124 (by kernel_rfl) (by kernel_rfl)
              clear hdep hsame hi hlate hfr hkeep
              exact .inl ⟨wanted_none rfl, showsO_pure hsn rfl (.pointer (some ⟨wb, 0, none⟩)) (by simp only [execOp, Act.eval]; go_simp) rfl⟩
            | 10, hi =>
              cases (show some _ = some o from hi)
              have e126 : (f.tmps.getD 126 undef) = .pointer (some ⟨wb, 0, none⟩) := depO (V := (VN26 wb k sk n m base B ls)) hdep 9 126 (by kernel_rfl) (by kernel_rfl)
              clear hdep hsame hi hlate hfr hkeep
              exact .inl ⟨wanted_none rfl, showsO_pure hsn rfl (.pointer (some ⟨wb, 0, none⟩)) (by simp only [execOp, Act.eval]; go_simp) rfl⟩
            | 11, hi =>
              cases (show some _ = some o from hi)
              have e125 : (f.tmps.getD 125 undef) = .int .i64 (k : Int) := depO (V := (VN26 wb k sk n m base B ls)) hdep 8 125 (by kernel_rfl) (by kernel_rfl)
              have e127 : (f.tmps.getD 127 undef) = .pointer (some ⟨wb, 0, none⟩) := depO (V := (VN26 wb k sk n m base B ls)) hdep 10 127 (by kernel_rfl) (by kernel_rfl)
              clear hdep hsame hi hlate hfr hkeep
              have k1 := K1.out
              have k2 := K2.out
              exact .inl ⟨wanted_none rfl, showsO_pure hsn rfl (.pointer (some ⟨wb, k, none⟩)) (by simp only [execOp, Act.eval]; go_simp) rfl⟩
            | 12, hi =>
              cases (show some _ = some o from hi)
              have e128 : (f.tmps.getD 128 undef) = .pointer (some ⟨wb, k, none⟩) := depO (V := (VN26 wb k sk n m base B ls)) hdep 11 128 (by kernel_rfl) (by kernel_rfl)
              clear hdep hsame hi hlate hfr hkeep
              have cs0 := CX.out u hb6
              exact .inl ⟨wanted_none rfl, showsO_pure hsn rfl (.pointer (some ⟨sk, 0, none⟩)) (by simp only [execOp, Act.eval]; go_simp) rfl⟩
            | 13, hi =>
              cases (show some _ = some o from hi)
              have e129 : (f.tmps.getD 129 undef) = .pointer (some ⟨sk, 0, none⟩) := depO (V := (VN26 wb k sk n m base B ls)) hdep 12 129 (by kernel_rfl) (by kernel_rfl)
              clear hdep hsame hi hlate hfr hkeep
              have c := CHH.out u hb6
              exact .inl ⟨wanted_none rfl, showsO_call (R := fun v w' => w'.ownsRow 0 66 32 v m (hcells ls) ∧ ∀ k, v.ownBlock = some k → u.heap.size ≤ k) hsn rfl 17 #[.pointer (some ⟨sk, 0, none⟩)] (by simp only [execOp, Act.eval]; go_simp) c (fun v w' ⟨h1, h2⟩ _ => ⟨h1, fun j hj => hsn.top j (h2 j hj)⟩)⟩
            | 14, hi =>
              cases (show some _ = some o from hi)
              have e123 : (f.tmps.getD 123 undef) = .int .u64 (n : Int) := depO (V := (VN26 wb k sk n m base B ls)) hdep 6 123 (by kernel_rfl) (by kernel_rfl)
              have e130 : RowN own u (f.tmps.getD 130 undef) 0 66 32 m (hcells ls) := depO (V := (VN26 wb k sk n m base B ls)) hdep 13 130 (by kernel_rfl) (by kernel_rfl)
              clear hdep hsame hi hlate hfr hkeep
              obtain ⟨hr1, _⟩ := e130
              obtain ⟨a8, c8, e130, hc1, hc2, hc3⟩ := own_shape hr1
              rw [e130] at hr1
              have c := CL.out u hb6 a8 c8 hr1 hc3
              exact .inl ⟨wanted_none rfl, showsO_call (R := fun v w' => ∃ b s, v = .tuple #[.pointer (some ⟨b, 0, none⟩), .nilIface] ∧ BuP u.heap.size w' b n ls s) hsn rfl 12 #[.int .u64 (n : Int), .slice a8 m c8] (by simp only [execOp, Act.eval]; go_simp) c (fun v w' ⟨b, s, e, h⟩ _ => ⟨b, e, s, h.mono (Nat.le_trans BS.out hsn.size), fun j hj => ⟨hsn.top j (h.ge j hj), Nat.le_trans (Nat.le_trans BB.out hsn.size) (h.ge j hj)⟩⟩)⟩
            | 15, hi =>
              cases (show some _ = some o from hi)
              have e131 : TpV (fun b => NeV own u base B b n ls) (f.tmps.getD 131 undef) := depO (V := (VN26 wb k sk n m base B ls)) hdep 14 131 (by kernel_rfl) (by kernel_rfl)
              clear hdep hsame hi hlate hfr hkeep
              exact .inl ⟨wanted_none rfl, showsO_move hsn rfl _ rfl e131⟩
            | 16, hi =>
              cases (show some _ = some o from hi)
              have e116 : TpV (fun b => NeV own u base B b n ls) (f.tmps.getD 116 undef) := depO (V := (VN26 wb k sk n m base B ls)) hdep 15 116 (by kernel_rfl) (by kernel_rfl)
              clear hdep hsame hi hlate hfr hkeep
              obtain ⟨b, e116, N116⟩ := e116
              exact .inl ⟨wanted_none rfl, showsO_pure hsn rfl (.pointer (some ⟨b, 0, none⟩)) (by simp only [execOp, Act.eval]; go_simp) ⟨b, rfl, N116⟩⟩
            | 17, hi =>
              cases (show some _ = some o from hi)
              have e116 : TpV (fun b => NeV own u base B b n ls) (f.tmps.getD 116 undef) := depO (V := (VN26 wb k sk n m base B ls)) hdep 15 116 (by kernel_rfl) (by kernel_rfl)
              clear hdep hsame hi hlate hfr hkeep
              obtain ⟨b, e116, N116⟩ := e116
              exact .inl ⟨wanted_none rfl, showsO_pure hsn rfl (.nilIface) (by simp only [execOp, Act.eval]; go_simp) rfl⟩
            | 18, hi =>
              cases (show some _ = some o from hi)
              have e132 : PtV (fun b => NeV own u base B b n ls) (f.tmps.getD 132 undef) := depO (V := (VN26 wb k sk n m base B ls)) hdep 16 132 (by kernel_rfl) (by kernel_rfl)
              clear hdep hsame hi hlate hfr hkeep
              exact .inl ⟨wanted_none rfl, showsO_assign hsn rfl _ rfl e132⟩
            | 19, hi =>
              cases (show some _ = some o from hi)
              have e133 : (f.tmps.getD 133 undef) = .nilIface := depO (V := (VN26 wb k sk n m base B ls)) hdep 17 133 (by kernel_rfl) (by kernel_rfl)
              clear hdep hsame hi hlate hfr hkeep
              exact .inl ⟨wanted_none rfl, showsO_assign hsn rfl _ rfl e133⟩
            | n + 20, hi => exact absurd hi (by simp)
          · intro f u1 own hsame hsn hall
            have q117 : f.tmps.getD 117 undef = .pointer (some ⟨wb, 0, none⟩) := finO (V := (VN26 wb k sk n m base B ls)) hall 0 117 rfl
            have q118 : f.tmps.getD 118 undef = .int .i64 (k : Int) := finO (V := (VN26 wb k sk n m base B ls)) hall 1 118 rfl
            have q119 : f.tmps.getD 119 undef = .pointer (some ⟨wb, 0, none⟩) := finO (V := (VN26 wb k sk n m base B ls)) hall 2 119 rfl
            have q120 : f.tmps.getD 120 undef = .pointer (some ⟨wb, 0, none⟩) := finO (V := (VN26 wb k sk n m base B ls)) hall 3 120 rfl
            have q121 : f.tmps.getD 121 undef = .pointer (some ⟨wb, k, none⟩) := finO (V := (VN26 wb k sk n m base B ls)) hall 4 121 rfl
            have q122 : f.tmps.getD 122 undef = .pointer (some ⟨sk, 0, none⟩) := finO (V := (VN26 wb k sk n m base B ls)) hall 5 122 rfl
            have q123 : f.tmps.getD 123 undef = .int .u64 (n : Int) := finO (V := (VN26 wb k sk n m base B ls)) hall 6 123 rfl
            have q124 : f.tmps.getD 124 undef = .pointer (some ⟨wb, 0, none⟩) := finO (V := (VN26 wb k sk n m base B ls)) hall 7 124 rfl
            have q125 : f.tmps.getD 125 undef = .int .i64 (k : Int) := finO (V := (VN26 wb k sk n m base B ls)) hall 8 125 rfl
            have q126 : f.tmps.getD 126 undef = .pointer (some ⟨wb, 0, none⟩) := finO (V := (VN26 wb k sk n m base B ls)) hall 9 126 rfl
            have q127 : f.tmps.getD 127 undef = .pointer (some ⟨wb, 0, none⟩) := finO (V := (VN26 wb k sk n m base B ls)) hall 10 127 rfl
            have q128 : f.tmps.getD 128 undef = .pointer (some ⟨wb, k, none⟩) := finO (V := (VN26 wb k sk n m base B ls)) hall 11 128 rfl
            have q129 : f.tmps.getD 129 undef = .pointer (some ⟨sk, 0, none⟩) := finO (V := (VN26 wb k sk n m base B ls)) hall 12 129 rfl
            have m130 := finO (V := (VN26 wb k sk n m base B ls)) hall 13 130 rfl
            obtain ⟨r130, q130⟩ : ∃ r, f.tmps.getD 130 undef = r := ⟨_, rfl⟩
            rw [q130] at m130
            obtain ⟨b131, q131, N131⟩ := finO (V := (VN26 wb k sk n m base B ls)) hall 14 131 rfl
            obtain ⟨b116, q116, N116⟩ := finO (V := (VN26 wb k sk n m base B ls)) hall 15 116 rfl
            obtain ⟨b132, q132, N132⟩ := finO (V := (VN26 wb k sk n m base B ls)) hall 16 132 rfl
            have q133 : f.tmps.getD 133 undef = .nilIface := finO (V := (VN26 wb k sk n m base B ls)) hall 17 133 rfl
            obtain ⟨b13, q13, N13⟩ := finO (V := (VN26 wb k sk n m base B ls)) hall 18 13 rfl
            have q14 : f.tmps.getD 14 undef = .nilIface := finO (V := (VN26 wb k sk n m base B ls)) hall 19 14 rfl
            obtain rfl := frame_eq hsame [(117, .pointer (some ⟨wb, 0, none⟩)), (118, .int .i64 (k : Int)), (119, .pointer (some ⟨wb, 0, none⟩)), (120, .pointer (some ⟨wb, 0, none⟩)), (121, .pointer (some ⟨wb, k, none⟩)), (122, .pointer (some ⟨sk, 0, none⟩)), (123, .int .u64 (n : Int)), (124, .pointer (some ⟨wb, 0, none⟩)), (125, .int .i64 (k : Int)), (126, .pointer (some ⟨wb, 0, none⟩)), (127, .pointer (some ⟨wb, 0, none⟩)), (128, .pointer (some ⟨wb, k, none⟩)), (129, .pointer (some ⟨sk, 0, none⟩)), (130, r130), (131, (.tuple #[.pointer (some ⟨b131, 0, none⟩), .nilIface])), (116, (.tuple #[.pointer (some ⟨b116, 0, none⟩), .nilIface])), (132, (.pointer (some ⟨b132, 0, none⟩))), (133, .nilIface), (13, (.pointer (some ⟨b13, 0, none⟩))), (14, .nilIface)] (by kernel_rfl) ⟨q117, q118, q119, q120, q121, q122, q123, q124, q125, q126, q127, q128, q129, q130, q131, q116, q132, q133, q13, q14, trivial⟩
            clear hall hsame q117 q118 q119 q120 q121 q122 q123 q124 q125 q126 q127 q128 q129 q130 q131 q116 q132 q133 q13 q14
            simp only [List.foldl, List.setIfInBounds_toArray, List.set_cons_succ, List.set_cons_zero]
            have hb := hsn.below (B := W.heap.size) (fun _ _ => rfl) (Nat.le_refl _)
            obtain ⟨s1, hBu, hnb⟩ := N13
            have hbk := (HW.out.below hb).bh.bk
            have p1 := hbk.put (k := k) (by have := HK.out; omega) (.pointer (some ⟨b13, 0, none⟩))
            have kk : Keep (fun j => j = wb) u1 (u1.setCell ⟨wb, k, none⟩ (.pointer (some ⟨b13, 0, none⟩))) := Keep.setCell u1 ⟨wb, k, none⟩ _
            have wlt := HW.out.wblt
            have hr0 := (HW.out.below hb).rb k HK.out
            have hEW := EW.put (k := k) (l' := updK D.l (17 + k) (.pointer (some ⟨b13, 0, none⟩))) HW.out HK.out
              (((Keep.of_below hb (fun j => j = wb)).trans kk (fun _ _ h => h)).mono (fun j _ e => .inl e)) p1 (fun i h1 h2 => by unfold updK; rw [if_neg (by omega)])
              (by unfold updK; rw [if_pos rfl]) (by unfold updK; rw [if_neg (by omega)]; exact HW.out.pr k HK.out)
              (hBu.kept kk (fun j hj e => by have := (hnb j hj).2; have := HB.out; have e : j = wb := e; omega)) (show RbM base (u1.setCell ⟨wb, k, none⟩ (.pointer (some ⟨b13, 0, none⟩))) (D.r k) n ls (D.L k) from by
                have hr1 := hr0.keptS kk (fun j hj e => HW.out.dn (2 + k) 5 (by have := HK.out; omega) (by decide) (by omega) j ((ED.Ur HK.out j).2 hj) e)
                rw [← HNN.out, ← HLS.out] at hr1
                exact hr1) PC.out LE.out
              (fun j hj => .inr (HB.out ▸ (hnb j hj).2)) (fun j hj => .inl ((ED.Ur HK.out j).2 hj))
              (fun j h1 h2 => by have q1 := (hnb j h1).2; have q2 := HW.out.lt (2 + k) j ((ED.Ur HK.out j).2 h2); have := HB.out; omega)
            have cE := p1.cS HK.out (show updK D.l (17 + k) (.pointer (some ⟨b13, 0, none⟩)) (17 + k) = .pointer (some ⟨b13, 0, none⟩) by unfold updK; rw [if_pos rfl])
            have BF : Bx (Below base w (u1.setCell ⟨wb, k, none⟩ (.pointer (some ⟨b13, 0, none⟩)))) := ⟨(B0.out.trans (hb.mono BS0.out)).setCell HW.out.bw _⟩
            have FIN : Bx (DoesE base w wb (D.bn + hl) (.returned (.bool true)) (u1.setCell ⟨wb, k, none⟩ (.pointer (some ⟨b13, 0, none⟩)))) := ⟨rfl, ⟨_, hEW, Nat.le_add_right _ _⟩, BF.out⟩
            have cS := (HW.out.below hb).cS HK.out
            have fS := frozenC hbk.hb k
            clear hbk p1 kk wlt hr0 hEW hb hBu hnb hsn N131 N116 N132 m130
            go_wp2_with fail
            go_ret
            exact FIN.out
        · have f4 : (kd == 4) = false := by simpa using h4
          clear h4
          have c0 := HW.out.cS HK.out
          have FIN : Bx (DoesE base w wb (D.bn + hl) (.returned (.bool true)) W) := ⟨rfl, ⟨D, HW.out, Nat.le_add_right _ _⟩, B0.out⟩
          go_wp2_with fail
          go_ret
          exact FIN.out
end Go.Proofs.YtbhcaalelfaceaaGreatDoor
