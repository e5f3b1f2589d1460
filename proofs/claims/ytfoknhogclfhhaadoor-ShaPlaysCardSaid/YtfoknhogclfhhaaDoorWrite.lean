/- (*sha.Digest).Write: some bytes more. -/
import Derived.Test.YtfoknhogclfhhaaDoorDig
import Derived.Deep.DeepFit
namespace Go.Proofs.YtfoknhogclfhhaaDoor
set_option maxRecDepth 100000
open Go.RowKit
/-- what holds behind the first step of Write, and at each round: m1 is taken, l1 is still to come -/
structure Mid (base : Nat) (w : World) (p H : Nat) (rv bv : Value) (all : List UInt8) (v : Value) (wr : World) (m1 l1 : List UInt8) (rv1 : Value) : Prop where
  eq : all = m1 ++ l1
  len : m1.length % 64 = 0
  dig : DigN base wr p H rv1 m1 all.length
  src : Src wr v l1
  keep : Keep (DigS p H rv) w wr
  own : rv1.ownBlock = rv.ownBlock ∨ ∀ k, rv1.ownBlock = some k → w.heap.size ≤ k
  blk : ∀ k, v.ownBlock = some k → bv.ownBlock = some k
def MidE (base : Nat) (w : World) (p H : Nat) (rv bv : Value) (all : List UInt8) (v : Value) (wr : World) : Prop :=
  ∃ m1 l1 rv1, Mid base w p H rv bv all v wr m1 l1 rv1
def WPost (base : Nat) (w : World) (p H : Nat) (rv : Value) (all : List UInt8) (w' : World) : Prop :=
  ∃ rv', Dig base w' p H rv' all ∧ Keep (DigS p H rv) w w' ∧ (rv'.ownBlock = rv.ownBlock ∨ ∀ k, rv'.ownBlock = some k → w.heap.size ≤ k)
set_option maxHeartbeats 1600000 in
set_option maxRecDepth 100000 in
theorem write_any (base : Nat) (w : World) (p H : Nat) (rv bv : Value) (m l : List UInt8) (hD : Dig base w p H rv m) (hT : Tab w) (hg : 0 < base)
    (hS : Src w bv l) (hne : ∀ k, bv.ownBlock = some k → k ≠ p ∧ k ≠ H ∧ rv.ownBlock ≠ some k) (hlen : m.length + l.length < 1152921504606846976) (hbase : base ≤ w.heap.size) :
    Calls Tryd.prog 15 #[.pointer (some ⟨p, 0, none⟩), bv] w fun e w' => e = .returned (.tuple #[]) ∧ WPost base w p H rv (m ++ l) w' := by
  obtain ⟨ra, rc, hrv, hrc, hrc2⟩ := hD.shape
  obtain ⟨ba, bc, hbv, hbc, hbc2, hbn, hcells⟩ := id hS
  have c0 := cell_at hD.hp 0 _ rfl
  have c1 := cell_at hD.hp 1 _ rfl
  have c2 := cell_at hD.hp 2 _ rfl
  have f0 := frozen_of_row w p 0 _ _ hD.hp
  have f1 := frozen_of_row w p 1 _ _ hD.hp
  have f2 := frozen_of_row w p 2 _ _ hD.hp
  have HRV := Bx.mk hrv; have HBV := Bx.mk hbv
  have HD := Bx.mk hD; have HS := Bx.mk hS; have HT := Bx.mk hT; have HNE := Bx.mk hne; have HC := Bx.mk hcells
  clear hD hS hT hne hcells
  unfold maxLen at hrc2 hbc2
  rw [hrv] at c1
  subst hbv
  clear hrv
  go_enter Tryd.func15, Tryd.ntmps15
  go_upto_if 29 with (fail)
  generalize hW0 : w.setCell ⟨p, 2, none⟩ (.int .u64 ((m.length : Int) + (l.length : Int))) = W0
  have d0 : DigN base W0 p H rv m (m ++ l).length := by
    rw [← hW0]
    refine ⟨?_, ?_, ?_, HD.out.bp, HD.out.bH⟩
    · rw [heap_setCell_same _ _ _ _ _ _ HD.out.hp]; simp
    · rw [heap_setCell_other _ _ _ _ (Ne.symm HD.out.p_ne_H)]; exact HD.out.hH
    · exact HD.out.hr.kept (row := some p) ⟨rfl, rfl, rfl, by simp [World.setCell], fun k _ hn => heap_setCell_other _ _ _ _ (by intro e; exact hn (by simp [e]))⟩ (by
        cases hb : rv.ownBlock with
        | none => exact .inl rfl
        | some j => exact .inr (by intro e; exact (HD.out.r_ne j hb).1 (Option.some.inj e)))
  have k0 : Keep (DigS p H rv) w W0 := by rw [← hW0]; exact (Keep.setCell _ _ _).mono fun k _ hk => .inl hk
  have s0 : Src W0 (.slice ba l.length bc) l := HS.out.kept k0 (fun j hj => by
    obtain ⟨a1, a2, a3⟩ := HNE.out j hj
    rintro (h | h | h)
    · exact a1 h
    · exact a2 h
    · exact a3 h)
  have D0 := Bx.mk d0; have S0 := Bx.mk s0; have K0 := Bx.mk k0
  clear d0 s0 k0 hW0 c0 c1 c2 f0 f1 f2
  have c0 := cell_at D0.out.hp 0 _ rfl
  have c1 := cell_at D0.out.hp 1 _ rfl
  have f1 := frozen_of_row W0 p 1 _ _ D0.out.hp
  rw [HRV.out] at c1
  go_cut [1] (fun v wc => MidE base w p H rv (.slice ba l.length bc) (m ++ l) v wc)
  case first =>
    by_cases h0 : m.length % 64 = 0
    · have h1 : (m.length : Int) % 64 ≤ 0 := by omega
      have H0 := Bx.mk h0; clear h0
      go_wp2_with fail
      go_meet
      case rel => exact ⟨m, l, rv, rfl, H0.out, D0.out, S0.out, K0.out, .inl rfl, fun _ h => h⟩
    · have h1 : 0 < (m.length : Int) % 64 := by omega
      have h2 : (m.length : Int) % 64 < 64 := by omega
      have H0 := Bx.mk h0; clear h0
      by_cases hb : m.length % 64 + l.length < 64
      · have hb1 : (m.length : Int) % 64 + l.length < 64 := by omega
        have HB := Bx.mk hb; clear hb
        have hroom : m.length % 64 + l.length ≤ maxLen := by unfold maxLen; omega
        have hby : (m.length % 64 + l.length) * 1 ≤ 140737488355328 := by omega
        have hbw : base ≤ W0.heap.size := Nat.le_trans hbase K0.out.size
        obtain ⟨i0, hi, hz0, hz1, hz2⟩ := info_parts info8
        have hown := D0.out.hr
        have hnil : ba = none → bc = 0 ∧ l.length = 0 := fun h => ⟨(S0.out.nil h).1, by have := (S0.out.nil h).2; simp [this]⟩
        have hnews : ∀ ad, ba = some ad → ∀ j u, (bcells l)[j]? = some u → W0.cell? (ad.add j) = some u := S0.out.cells'
        have hpf := fun (w1 : World) (hgw : W0.grownBy w1 rv.ownBlock) => cell_at (D0.out.grown_p hgw) 1 _ rfl
        have hpz := fun (w1 : World) (hgw : W0.grownBy w1 rv.ownBlock) => frozen_of_row w1 p 1 _ _ (D0.out.grown_p hgw)
        rw [HRV.out] at hown hpf hpz
        have R1 := Bx.mk hroom; have R2 := Bx.mk hby; have R3 := Bx.mk hbw; have RI := Bx.mk (And.intro hi (And.intro hz0 (And.intro hz1 hz2))); have RO := Bx.mk hown
        have RN := Bx.mk hnil; have RS := Bx.mk hnews; have RP := Bx.mk hpf; have RZ := Bx.mk hpz
        clear hroom hby hbw hi hz0 hz1 hz2 hown hnil hnews hpf hpz
        go_upto_region 4 with (fail)
        go_region_law (refine step_append_src rfl (.tmp 43) (.tmp 46) 30 rfl base 5 i0 (.int .u8 0) 1 1 underB RI.out.1 RI.out.2.1 RI.out.2.2.1 RI.out.2.2.2 rfl (by decide) (.slice ra (m.length % 64) rc) _ _ rfl RO.out ba l.length bc (bcells l) rfl RN.out (by simp [bcells]) RS.out (bcells_one _) R1.out R2.out R3.out ?_; intro v' w1 hown' hgrow hfr; replace hgrow := grownBy_undrew hgrow; have G1 := Bx.mk hgrow; have F1 := Bx.mk hfr; have O1 := Bx.mk hown'; obtain ⟨va, vc, hv', hn1, hn2, hn3⟩ := own_shape hown'; clear hgrow hfr hown'; have q0 := RP.out w1 G1.out; have q1 := RZ.out w1 G1.out; subst hv')
        go_wp2_with fail
        all_goals
          refine bodyPost_ret (results_none rfl _ _ _) rfl ?_
          obtain ⟨a1, a2, a3, a4⟩ := D0.out.appended (by rw [HRV.out]; exact G1.out) O1.out (by rw [HRV.out]; exact F1.out)
          exact ⟨rfl, _, dig_small rfl rfl HB.out HD.out.bp HD.out.bH a1 a2 a3, K0.out.trans a4 (fun _ _ h => h), by rw [HRV.out]; exact F1.out.imp_right fun h k hk => Nat.le_trans K0.out.size (h k hk)⟩
      · have hb1 : 64 ≤ (m.length : Int) % 64 + l.length := by omega
        have HB := Bx.mk hb; clear hb
        have hroom : m.length % 64 + (64 - m.length % 64) ≤ maxLen := by unfold maxLen; omega
        have hby : (m.length % 64 + (64 - m.length % 64)) * 1 ≤ 140737488355328 := by omega
        have hbw : base ≤ W0.heap.size := Nat.le_trans hbase K0.out.size
        obtain ⟨i0, hi, hz0, hz1, hz2⟩ := info_parts info8
        have hown := D0.out.hr
        have hnil : ba = none → bc = 0 ∧ (64 - m.length % 64) = 0 := fun h => absurd ((S0.out.nil h).2) (by rintro rfl; simp at hb1; omega)
        have hnews : ∀ ad, ba = some ad → ∀ j u, (bcells (l.take (64 - m.length % 64)))[j]? = some u → W0.cell? (ad.add j) = some u := (S0.out.take (64 - m.length % 64) (by omega)).cells'
        have hpf := fun (w1 : World) (hgw : W0.grownBy w1 rv.ownBlock) => cell_at (D0.out.grown_p hgw) 1 _ rfl
        have hpz := fun (w1 : World) (hgw : W0.grownBy w1 rv.ownBlock) => frozen_of_row w1 p 1 _ _ (D0.out.grown_p hgw)
        rw [HRV.out] at hown hpf hpz
        have R1 := Bx.mk hroom; have R2 := Bx.mk hby; have R3 := Bx.mk hbw; have RI := Bx.mk (And.intro hi (And.intro hz0 (And.intro hz1 hz2))); have RO := Bx.mk hown
        have RN := Bx.mk hnil; have RS := Bx.mk hnews; have RP := Bx.mk hpf; have RZ := Bx.mk hpz
        clear hroom hby hbw hi hz0 hz1 hz2 hown hnil hnews hpf hpz
        have e64 : m.length % 64 + (64 - m.length % 64) = 64 := by omega
        have R64 := Bx.mk e64; clear e64
        have hx1 : (m.length : Int) % 64 ≤ 64 := by omega
        have hx2 : 64 - (m.length : Int) % 64 ≤ bc := by omega
        have hx3 : (64 - (m.length : Int) % 64).toNat = 64 - m.length % 64 := by omega
        have X3 := Bx.mk hx3; clear hx3
        go_upto_region 4 with (fail)
        have hx3 := X3.out
        go_region_law (refine step_append_src rfl (.tmp 43) (.tmp 46) 30 rfl base 5 i0 (.int .u8 0) 1 1 underB RI.out.1 RI.out.2.1 RI.out.2.2.1 RI.out.2.2.2 rfl (by decide) (.slice ra (m.length % 64) rc) _ _ rfl RO.out ba (64 - m.length % 64) bc (bcells (l.take (64 - m.length % 64))) rfl RN.out (by simp [bcells]; omega) RS.out (bcells_one _) R1.out R2.out R3.out ?_; intro v' w1 hown' hgrow hfr; replace hgrow := grownBy_undrew hgrow; have G1 := Bx.mk hgrow; have F1 := Bx.mk hfr; rw [R64.out] at hown'; have O1 := Bx.mk hown'; obtain ⟨va, vc, hv', hn1, hn2, hn3⟩ := own_shape hown'; clear hgrow hfr hown'; have q0 := RP.out w1 G1.out; have q1 := RZ.out w1 G1.out; subst hv')
        clear hx3
        obtain ⟨a1, a2, a3, a4⟩ := D0.out.appended (by rw [HRV.out]; exact G1.out) O1.out (by rw [HRV.out]; exact F1.out)
        go_upto_region 5 with (fail)
        generalize hW2 : w1.setCell ⟨p, 1, none⟩ (.slice va 64 vc) = W2 at a1 a2 a3 a4 ⊢
        clear hW2
        rw [← bcells_append] at a3
        obtain ⟨g, rfl, hg1, hg2, hg3, hg4, hg5⟩ := own64 a3
        have b0 := cell_at a1 0 _ rfl
        have b1 := cell_at a1 1 _ rfl
        have kw := K0.out.trans a4 (fun _ _ h => h)
        have hT2 : Tab W2 := HT.out.kept kw (by omega) (fun h => by have := HD.out.ge _ h; omega)
        have hsz2 : 0 < W2.heap.size := by have := kw.size; omega
        have hc := fun n => block_any (W2.drewN n) H g 0 vc _ _ _ hT2 hsz2 hg5 hg3 hg1 a2
        have hsrc : Src W2 (.slice ba l.length bc) l := S0.out.kept a4 (fun j hj => by
          obtain ⟨a1, a2, a3⟩ := HNE.out j hj
          rintro (h | h | h)
          · exact a1 h
          · exact a2 h
          · exact a3 h)
        have hsrc2 := hsrc.drop (64 - m.length % 64) (by omega) (by omega)
        have HC2 := Bx.mk hc; have A1 := Bx.mk a1; have A2 := Bx.mk a2; have A3 := Bx.mk a3; have KW := Bx.mk kw; have SR := Bx.mk hsrc2
        clear hc a1 a2 a3 a4 kw hT2 hsz2 hg5 c0 c1 f1 q0 q1 hsrc hsrc2
        go_cut [1] (fun v wc => W2 = wc ∧ v = .slice (if bc = (64 - m.length % 64) then ba else ba.map fun x => x.add (64 - m.length % 64)) (l.length - (64 - m.length % 64)) (bc - (64 - m.length % 64)))
        case first =>
          go_wp2_with fail
          all_goals go_meet
          all_goals (case rel => exact ⟨rfl, by simp [*]⟩)
        case rest =>
         obtain ⟨rfl, rfl⟩ := hcut
         have hblk := fun j => Src.block_drop (a := ba) (n := l.length) (cap := bc) (k := (64 - m.length % 64)) (n' := l.length - (64 - m.length % 64)) (cap' := bc - (64 - m.length % 64)) j
         generalize hV5 : Value.slice (if bc = (64 - m.length % 64) then ba else ba.map fun x => x.add (64 - m.length % 64)) (l.length - (64 - m.length % 64)) (bc - (64 - m.length % 64)) = v5 at hblk SR ⊢
         clear hV5
         go_upto_region 7 with (fail)
         refine wp_region_quiet_tail (C := fun w' => ∃ n, w' = W2.drewN n) 8 (by kernel_rfl) (by kernel_rfl) ⟨1, rfl⟩ ?_
         simp only [List.take_succ_cons, List.take_zero, List.drop_succ_cons, List.drop_zero]
         repeat go_big_quiet_step (fail)
         refine wpQuiet_nil ?_
         intro _ hw'
         obtain ⟨nr, hw''⟩ := hw'
         subst hw''
         go_wp2_with fail
         refine (HC2.out nr).mono ?_
         rintro e w3 ⟨rfl, hbp⟩
         have n1 : Keep (fun k => k = H) W2 w3 := (Keep.drewN (fun k => k = H) W2 nr).trans hbp.keep (fun _ _ h => h)
         have n2 := hbp.heap (T := 61) A2.out
         have hpH : p ≠ H := HD.out.p_ne_H
         have n3 := (n1.block p (Array.getElem?_eq_some_iff.1 A1.out).1 hpH).trans A1.out
         have N1 := Bx.mk n1; have N2 := Bx.mk n2; have N3 := Bx.mk n3
         have e0 := cell_at n3 1 _ rfl
         have e1 := frozen_of_row w3 p 1 _ _ n3
         clear hbp n1 n2 n3 b0 b1
         go_wp2_with fail
         go_meet
         case rel =>
           have hl : (m ++ l.take (64 - m.length % 64)).length = m.length + (64 - m.length % 64) := by simp; omega
           obtain ⟨cur, hcur⟩ := own_block A3.out
           have hgp : g ≠ p := by rintro rfl; have := hcur.symm.trans A1.out; simp at this
           have hgH : g ≠ H := by rintro rfl; have := hcur.symm.trans A2.out; simp at this
           have ks : Keep (DigS p H rv) W2 (w3.setCell ⟨p, 1, none⟩ (.slice (some ⟨g, 0, none⟩) 0 vc)) :=
             (N1.out.mono fun k _ h => .inr (.inl h)).trans (Keep.setCell _ _ _) fun k _ h => .inl h
           refine ⟨m ++ l.take (64 - m.length % 64), l.drop (64 - m.length % 64), .slice (some ⟨g, 0, none⟩) 0 vc, by rw [List.append_assoc, List.take_append_drop], by rw [hl]; omega, ⟨?_, ?_, ?_, HD.out.bp, HD.out.bH⟩, ?_, KW.out.trans ks (fun _ _ h => h), ?_, hblk⟩
           · rw [heap_setCell_same _ _ _ _ _ _ N3.out]; simp
           · rw [heap_setCell_other _ _ _ _ (Ne.symm hpH), fold_whole _ _ (by simp; omega)]; exact N2.out
           · have h0 : (m ++ l.take (64 - m.length % 64)).length % 64 = 0 := by rw [hl]; omega
             have h1 : 64 * ((m ++ l.take (64 - m.length % 64)).length / 64) = (m ++ l.take (64 - m.length % 64)).length := by omega
             rw [h0, h1, List.drop_length]
             exact ownsRow_setCell_ne (own_zero (own_keep A3.out N1.out (by intro j hj; have : g = j := (by simpa [Value.ownBlock] using hj); omega))) _ _ (by intro j hj; have : g = j := (by simpa [Value.ownBlock] using hj); simp only [ne_eq]; omega)
           · refine SR.out.kept ks (fun j hj => ?_)
             obtain ⟨a1, a2, a3⟩ := HNE.out j (hblk j hj)
             rintro (h | h | h)
             · exact a1 h
             · exact a2 h
             · exact a3 h
           · rw [HRV.out]; exact F1.out.imp (fun h => h) fun h k hk => Nat.le_trans K0.out.size (h k hk)
  case rest =>
    have HCUT := Bx.mk hcut
    clear hcut c0 c1 f1 hrc hrc2
    go_wp2_with fail
    go_loopw [1] (fun v wr => MidE base w p H rv (.slice ba l.length bc) (m ++ l) v wr) (fun v _ => lenOf v)
    case atStart => exact HCUT.out
    case round =>
      obtain ⟨m1, l1, rv1, M⟩ := hrel
      obtain ⟨a1, e1, hsh, he1, he2, he3, he4⟩ := id M.src
      subst hsh
      obtain ⟨ra1, rc1, hrv1, hr1, hr2⟩ := M.dig.shape
      have b0 := cell_at M.dig.hp 0 _ rfl
      have b1 := cell_at M.dig.hp 1 _ rfl
      rw [hrv1] at b1
      have R1 := Bx.mk hrv1; clear hrv1
      have hz := M.len
      have HZ := Bx.mk hz; clear hz
      have hml : m.length + l.length = m1.length + l1.length := by have := congrArg List.length M.eq; simpa using this
      unfold maxLen at he2 hr2
      have MM := Bx.mk M; have E3 := Bx.mk he3; have E4 := Bx.mk he4; have HML := Bx.mk hml
      clear M he3 he4 hml HCUT
      by_cases h64 : 64 ≤ l1.length
      · obtain ⟨B, off, rfl, hB, hcs⟩ := E4.out (by rintro rfl; simp at h64)
        have hT2 : Tab wr := HT.out.kept MM.out.keep (by omega) (fun h => by have := HD.out.ge _ h; omega)
        have hsz2 : 0 < wr.heap.size := by have := MM.out.keep.size; omega
        have hcb : ∀ i, i < 64 → wr.cell? ⟨B, off + i, none⟩ = some (.int .u8 ((ints (l1.take 64)).getD i 0)) := fun i hi => by
          rw [hcs i (by omega), ints_getD _ _ (by simp; omega)]; simp [bcell]
        have hc := fun n => block_any (wr.drewN n) H B off e1 _ _ _ hT2 hsz2 hcb hB (by omega) MM.out.dig.hH
        have HC := Bx.mk hc
        clear hc hT2 hsz2 hcb hcs hB
        go_wp2_with fail
        refine wp_region_quiet_tail (C := fun w' => ∃ n, w' = wr.drewN n) 6 (by kernel_rfl) (by kernel_rfl) ⟨1, rfl⟩ ?_
        simp only [List.take_succ_cons, List.take_zero, List.drop_succ_cons, List.drop_zero]
        repeat go_big_quiet_step (fail)
        refine wpQuiet_nil ?_
        intro _ hw'
        obtain ⟨nr, hw''⟩ := hw'
        subst hw''
        go_wp2_with fail
        refine (HC.out nr).mono ?_
        rintro e w3 ⟨rfl, hbp⟩
        have n1 : Keep (fun k => k = H) wr w3 := (Keep.drewN (fun k => k = H) wr nr).trans hbp.keep (fun _ _ h => h)
        have n2 := hbp.heap (T := 61) MM.out.dig.hH
        have N1 := Bx.mk n1; have N2 := Bx.mk n2
        clear hbp n1 n2 b0 b1
        have hfin : ∀ v5, v5 = Value.slice (if e1 = 64 then some ⟨B, off, none⟩ else (some (⟨B, off, none⟩ : Addr)).map fun x => x.add 64) (l1.length - 64) (e1 - 64) →
            MidE base w p H rv (.slice ba l.length bc) (m ++ l) v5 w3 := by
          intro v5 hv5
          have MO := MM.out
          have h64' : (l1.take 64).length = 64 := by simp; omega
          have hl : (m1 ++ l1.take 64).length = m1.length + 64 := by rw [List.length_append, h64']
          have hz := HZ.out
          have kd := MO.dig
          refine ⟨m1 ++ l1.take 64, l1.drop 64, rv1, by rw [List.append_assoc, List.take_append_drop]; exact MO.eq, by rw [hl]; omega, ⟨?_, ?_, ?_, HD.out.bp, HD.out.bH⟩, ?_, MO.keep.trans N1.out fun k _ h => .inr (.inl h), MO.own, ?_⟩
          · exact (N1.out.block p (Array.getElem?_eq_some_iff.1 kd.hp).1 kd.p_ne_H).trans kd.hp
          · rw [fold_whole _ _ (by rw [h64']; omega)]
            have hd : m1.drop (64 * (m1.length / 64)) = [] := List.drop_eq_nil_of_le (by omega)
            rw [hd, List.nil_append]; exact N2.out
          · have h0 : (m1 ++ l1.take 64).length % 64 = m1.length % 64 := by rw [hl]; omega
            have h1 : 64 * ((m1 ++ l1.take 64).length / 64) = (m1 ++ l1.take 64).length := by omega
            have hd : m1.drop (64 * (m1.length / 64)) = [] := List.drop_eq_nil_of_le (by omega)
            rw [h0, h1, List.drop_length, ← hd]
            exact own_keep kd.hr N1.out fun j hj e => (kd.r_ne j hj).2 e
          · rw [hv5]
            refine (MO.src.drop 64 h64 (by omega)).kept N1.out fun j hj e => ?_
            have := MO.blk j (Src.block_drop j hj)
            exact (HNE.out j this).2.1 e
          · intro k hk
            rw [hv5] at hk
            exact MO.blk k (Src.block_drop k hk)
        have HF := Bx.mk hfin; clear hfin
        by_cases hc : e1 = 64
        · subst hc
          go_wp2_with fail
          go_roundw
          case rel => exact HF.out _ (by simp; omega)
          case measure => simp [lenOf]; omega
        · have hc2 : (e1 == 64) = false := by simpa using hc
          go_wp2_with fail
          go_roundw
          case rel => exact HF.out _ (by simp [hc, Addr.add])
          case measure => simp [lenOf]; omega
      · have hroom : m1.length % 64 + l1.length ≤ maxLen := by unfold maxLen; omega
        have hby : (m1.length % 64 + l1.length) * 1 ≤ 140737488355328 := by omega
        have hbw : base ≤ wr.heap.size := Nat.le_trans hbase MM.out.keep.size
        obtain ⟨i0, hi, hz0, hz1, hz2⟩ := info_parts info8
        have hown := MM.out.dig.hr
        have hnil : a1 = none → e1 = 0 ∧ l1.length = 0 := fun h => ⟨(MM.out.src.nil h).1, by have := (MM.out.src.nil h).2; simp [this]⟩
        have hnews : ∀ ad, a1 = some ad → ∀ j u, (bcells l1)[j]? = some u → wr.cell? (ad.add j) = some u := MM.out.src.cells'
        have hpf := fun (w1 : World) (hgw : wr.grownBy w1 rv1.ownBlock) => cell_at (MM.out.dig.grown_p hgw) 1 _ rfl
        have hpz := fun (w1 : World) (hgw : wr.grownBy w1 rv1.ownBlock) => frozen_of_row w1 p 1 _ _ (MM.out.dig.grown_p hgw)
        rw [R1.out] at hown hpf hpz
        have Q1 := Bx.mk hroom; have Q2 := Bx.mk hby; have Q3 := Bx.mk hbw; have RI := Bx.mk (And.intro hi (And.intro hz0 (And.intro hz1 hz2))); have RO := Bx.mk hown
        have RN := Bx.mk hnil; have RS := Bx.mk hnews; have RP := Bx.mk hpf; have RZ := Bx.mk hpz
        clear hroom hby hbw hi hz0 hz1 hz2 hown hnil hnews hpf hpz
        go_wp2_with (refine wpList_append_src rfl (.tmp 92) (.tmp 93) 30 rfl base 5 i0 (.int .u8 0) 1 1 underB RI.out.1 RI.out.2.1 RI.out.2.2.1 RI.out.2.2.2 rfl (by decide) (.slice ra1 (m1.length % 64) rc1) _ _ rfl RO.out a1 l1.length e1 (bcells l1) rfl RN.out (by simp [bcells]) RS.out (bcells_one _) Q1.out Q2.out Q3.out ?_; intro v' w1 hown' hgrow hfr; have G1 := Bx.mk hgrow; have F1 := Bx.mk hfr; have O1 := Bx.mk hown'; obtain ⟨va, vc, hv', hn1, hn2, hn3⟩ := own_shape hown'; clear hgrow hfr hown'; have q0 := RP.out w1 G1.out; have q1 := RZ.out w1 G1.out; subst hv')
        go_end0
        have MO := MM.out
        obtain ⟨c1, c2, c3, c4⟩ := MO.dig.appended (by rw [R1.out]; exact G1.out) O1.out (by rw [R1.out]; exact F1.out)
        have hz := HZ.out
        rw [MO.eq] at c1 ⊢
        refine ⟨rfl, _, dig_small rfl rfl (by omega) HD.out.bp HD.out.bH c1 c2 c3, MO.keep.trans c4 (fun k hk h => ?_), ?_⟩
        · rcases h with h | h | h
          · exact .inl h
          · exact .inr (.inl h)
          · rcases MO.own with o | o
            · exact .inr (.inr (o ▸ h))
            · exact absurd (o k h) (by omega)
        · have f := F1.out
          rw [← R1.out] at f
          rcases f with f | f
          · rcases MO.own with o | o
            · exact .inl (f.trans o)
            · exact .inr fun k hk => o k (f ▸ hk)
          · exact .inr fun k hk => Nat.le_trans MO.keep.size (f k hk)
end Go.Proofs.YtfoknhogclfhhaaDoor
