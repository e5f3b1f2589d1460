/- cartularylaw01.SameCoords. -/
import Derived.Test.YtifnmidecjmmnaaGreatDoorCoF
namespace Go.Proofs.YtifnmidecjmmnaaGreatDoor
open Go.RowKit
/-- a value that reads as trees -/
def Coords (w : World) (v : Value) (l : List (Nat × Nat)) : Prop :=
  ∃ (a : Option Addr) (cap : Nat), v = .slice a l.length cap ∧ l.length ≤ cap ∧ cap ≤ maxLen ∧
    (l ≠ [] → ∃ B off, a = some ⟨B, off, none⟩ ∧ B < w.heap.size ∧ ∀ i, (h : i < l.length) → w.cell? ⟨B, off + i * 2, none⟩ = some (.int .u8 (l[i].1 : Int)) ∧ w.cell? ⟨B, off + i * 2 + 1, none⟩ = some (.int .u64 (l[i].2 : Int)))
set_option maxHeartbeats 1600000 in
theorem same_any (w : World) (va vb : Value) (la lb : List (Nat × Nat)) (ha : Coords w va la) (hb : Coords w vb lb) :
    Calls Tryz.prog 7 #[va, vb] w fun e w' => e = .returned (.bool (decide (la = lb))) ∧ Below w.heap.size w w' := by
  obtain ⟨a1, c1, rfl, h1, h2, h3⟩ := ha
  obtain ⟨a2, c2, rfl, h4, h5, h6⟩ := hb
  have H3 := Bx.mk h3; have H6 := Bx.mk h6
  unfold maxLen at h2 h5
  clear h3 h6
  by_cases hl : la.length = lb.length
  · have hl' : ((la.length : Int) != (lb.length : Int)) = false := by simp; omega
    have HL := Bx.mk hl; clear hl
    go_enter Tryz.func7, Tryz.ntmps7
    go_wp2_with fail
    go_loopg [5] la.length (fun k i wr => ∃ t : Nat, k = la.length - t ∧ t ≤ la.length ∧ i = .int .i64 (t : Int) ∧ la.take t = lb.take t ∧ Below w.heap.size w wr)
    case atStart => exact ⟨0, rfl, Nat.zero_le _, rfl, by simp, Below.refl _ _⟩
    case round =>
      obtain ⟨t, hk, ht, rfl, heq, hb⟩ := hrel
      have HK := Bx.mk hk; have HQ := Bx.mk heq; have HB := Bx.mk hb
      clear hk heq hb
      by_cases hlt : t < la.length
      · have hlt' : t < lb.length := by have := HL.out; omega
        obtain ⟨B1, o1, rfl, hB1, hc1⟩ := H3.out (by rintro rfl; simp at hlt)
        obtain ⟨B2, o2, rfl, hB2, hc2⟩ := H6.out (by rintro rfl; simp at hlt')
        obtain ⟨x1, x2⟩ := hc1 t hlt
        obtain ⟨y1, y2⟩ := hc2 t hlt'
        have p1 := (HB.out.cell (p := ⟨B1, o1 + t * 2, none⟩) hB1).trans x1
        have p2 := (HB.out.cell (p := ⟨B1, o1 + t * 2 + 1, none⟩) hB1).trans x2
        have p3 := (HB.out.cell (p := ⟨B2, o2 + t * 2, none⟩) hB2).trans y1
        have p4 := (HB.out.cell (p := ⟨B2, o2 + t * 2 + 1, none⟩) hB2).trans y2
        have hn := fun u => cv_neq u la[t].1 la[t].2 lb[t].1 lb[t].2
        have hstep : la[t] = lb[t] → la.take (t + 1) = lb.take (t + 1) := fun h => by
          rw [List.take_succ_eq_append_getElem hlt, List.take_succ_eq_append_getElem hlt', HQ.out, h]
        have hstop : la[t] ≠ lb[t] → decide (la = lb) = false := fun h => decide_eq_false (fun e => h (by simp [e]))
        have HSTEP := Bx.mk hstep; have HSTOP := Bx.mk hstop
        clear x1 x2 y1 y2 hc1 hc2 hstep hstop H3 H6
        generalize la[t] = x at *
        generalize lb[t] = y at *
        by_cases hxy : x = y
        · rw [decide_eq_true ⟨by rw [hxy], by rw [hxy]⟩] at hn
          have HXY := Bx.mk hxy; clear hxy
          go_wp2_with fail
          go_quiet (fail)
          go_wp2_with fail
          go_roundg (la.length - (t + 1))
          case measure => have := HK.out; omega
          case rel => exact ⟨t + 1, rfl, hlt, by simp, HSTEP.out HXY.out, below_drewN HB.out _⟩
        · rw [decide_eq_false (fun h => hxy (Prod.ext h.1 h.2))] at hn
          have HXY := Bx.mk hxy; clear hxy
          go_wp2_with fail
          go_quiet (fail)
          go_wp2_with fail
          go_ret
          exact ⟨by rw [HSTOP.out HXY.out]; rfl, below_drewN HB.out _⟩
      · obtain rfl : t = la.length := by omega
        have hd : decide (la = lb) = true := decide_eq_true (by
          have h := HQ.out
          have hl := HL.out
          rw [List.take_length] at h
          rw [h, hl, List.take_length])
        have HD := Bx.mk hd; clear hd
        go_wp2_with fail
        go_ret
        exact ⟨by rw [HD.out]; rfl, HB.out⟩
  · have hl' : ((la.length : Int) != (lb.length : Int)) = true := by simp; omega
    have hd : decide (la = lb) = false := decide_eq_false (fun h => hl (by rw [h]))
    have HD := Bx.mk hd
    clear hl hd
    go_enter Tryz.func7, Tryz.ntmps7
    go_wp2_with fail
    go_ret
    exact ⟨by rw [HD.out]; rfl, Below.refl _ _⟩
end Go.Proofs.YtifnmidecjmmnaaGreatDoor
