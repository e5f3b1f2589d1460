/- cartulary/coord, walked: Cover (of a stretch that may be). -/
import Derived.Test.YtifnmidecjmmnaaGreatDoorCoE
import Derived.Laws.OwnMore
namespace Go.Proofs.YtifnmidecjmmnaaGreatDoor
open Go.RowKit
theorem cover_len_lim (n : Nat) : ∀ {b e : Nat}, e - b ≤ n → e ≤ 2 ^ 63 → (Lim b e → (coverN b e).length ≤ lvl b e + 1) ∧ (b < e → (coverN b e).length ≤ 128 - lvl b e) := by
  induction n with
  | zero =>
    intro b e h1 _
    rw [coverN_nil (by omega)]
    exact ⟨fun _ => by simp, fun h => by omega⟩
  | succ n ih =>
    intro b e h1 h3
    by_cases hlt : b < e
    · obtain ⟨a1, a2, a3, a4⟩ := lvl_spec hlt h3
      have hp := Nat.two_pow_pos (lvl b e)
      obtain ⟨i1, i2⟩ := ih (b := b + 2 ^ lvl b e) (e := e) (by omega) h3
      rw [coverN_cons hlt, List.length_cons]
      by_cases hn : b + 2 ^ lvl b e < e
      · obtain ⟨c1, _⟩ := lvl_spec hn h3
        have hl : Lim b e → lvl (b + 2 ^ lvl b e) e < lvl b e ∧ Lim (b + 2 ^ lvl b e) e := fun h => lim_next hlt h3 h hn
        have hf : lvl (b + 2 ^ lvl b e) e ≤ lvl b e → Lim (b + 2 ^ lvl b e) e := fun h => lim_falls hlt h3 hn h
        refine ⟨fun h => ?_, fun _ => ?_⟩
        · obtain ⟨x, y⟩ := hl h
          have := i1 y
          omega
        · by_cases hle : lvl (b + 2 ^ lvl b e) e ≤ lvl b e
          · have := i1 (hf hle)
            omega
          · have := i2 hn
            omega
      · rw [coverN_nil hn]
        simp
        omega
    · rw [coverN_nil hlt]
      exact ⟨fun _ => by simp, fun h => by omega⟩
theorem cover_le {b e : Nat} (h : e ≤ 2 ^ 63) : (coverN b e).length ≤ 128 := by
  by_cases hlt : b < e
  · have := (cover_len_lim _ (Nat.le_refl _) h).2 hlt
    omega
  · rw [coverN_nil hlt]; simp
/-- the cells of a row of trees -/
def ccells (l : List (Nat × Nat)) : List Value := l.flatMap fun x => [.int .u8 (x.1 : Int), .int .u64 (x.2 : Int)]
theorem ccells_append (l l' : List (Nat × Nat)) : ccells (l ++ l') = ccells l ++ ccells l' := by simp [ccells]
theorem ccells_length (l : List (Nat × Nat)) : (ccells l).length = l.length * 2 := by
  induction l with
  | nil => rfl
  | cons x l ih => simp [ccells] at ih ⊢; omega
theorem infoC : (Tryz.prog.info? 59).map (fun i => (i.zero, i.size, i.bytes)) = some (some (.agg #[.int .u8 0, .int .u64 0]), 2, 16) := by kernel_rfl
theorem info_parts {P : Program} {t : TypeId} {z : Value} {s b : Nat} (h : (P.info? t).map (fun i => (i.zero, i.size, i.bytes)) = some (some z, s, b)) : ∃ i, P.info? t = some i ∧ i.zero = some z ∧ i.size = s ∧ i.bytes = b := by
  cases hi : P.info? t with
  | none => simp [hi] at h
  | some i => simp [hi] at h; exact ⟨i, rfl, h.1, h.2.1, h.2.2⟩
theorem underCs : Tryz.prog.underlying 25 = some (.slice 59) := by kernel_rfl
theorem lvl_log {a E : Nat} (h : a = 0) : lvl a E = Nat.log2 (E - a) := by unfold lvl; rw [if_pos h]
theorem lvl_min {a E : Nat} (h : a ≠ 0) : lvl a E = min (Nat.log2 (E - a)) (Lib.ctz 64 a) := by unfold lvl; rw [if_neg h]
theorem own_keepC {w w' : World} {base : Nat} {e : TypeId} {size : Nat} {v : Value} {n : Nat} {xs : List Value} (h : w.ownsRow base e size v n xs) (k : ∀ j, v.ownBlock = some j → w'.heap[j]? = w.heap[j]?) : w'.ownsRow base e size v n xs := by
  refine ⟨h.1, ?_⟩
  rcases h.2 with hn | ⟨g, cap, cur, rfl, hb, hg, rest⟩
  · exact .inl hn
  · exact .inr ⟨g, cap, cur, rfl, hb, (k g rfl).trans hg, rest⟩
theorem own_monoC {w : World} {base base' : Nat} {e : TypeId} {size : Nat} {v : Value} {n : Nat} {xs : List Value} (h : w.ownsRow base e size v n xs) (hb : base' ≤ base) : w.ownsRow base' e size v n xs := by
  refine ⟨h.1, ?_⟩
  rcases h.2 with hn | ⟨g, cap, cur, rfl, hg, rest⟩
  · exact .inl hn
  · exact .inr ⟨g, cap, cur, rfl, Nat.le_trans hb hg, rest⟩
theorem own_ltC {w : World} {base : Nat} {e : TypeId} {size : Nat} {v : Value} {n : Nat} {xs : List Value} (h : w.ownsRow base e size v n xs) (j : Nat) (hj : v.ownBlock = some j) : base ≤ j ∧ j < w.heap.size := by
  rcases h.2 with ⟨rfl, _⟩ | ⟨g, cap, cur, rfl, hb, hg, rest⟩
  · cases hj
  · obtain rfl : g = j := by simpa [Value.ownBlock] using hj
    exact ⟨hb, (Array.getElem?_eq_some_iff.1 hg).1⟩
theorem own_belowC {w w' : World} {base : Nat} {e : TypeId} {size : Nat} {v : Value} {n : Nat} {xs : List Value} (h : w.ownsRow base e size v n xs) (k : Below w.heap.size w w') : w'.ownsRow base e size v n xs :=
  own_keepC h fun j hj => k.block j (own_ltC h j hj).2
/-- what Cover hands back -/
structure CoverR (W w' : World) (v : Value) (l : List (Nat × Nat)) : Prop where
  own : w'.ownsRow W.heap.size 59 2 v l.length (ccells l)
  below : Below W.heap.size W w'
set_option maxHeartbeats 3200000 in
theorem cover_any (w : World) (B E : Nat) (hBE : B ≤ E) (hE : E ≤ 2 ^ 63) (hT : TabZ w) (hg : 1 < w.heap.size) :
    Calls Tryz.prog 5 #[sv B E] w fun e w' => ∃ v, e = .returned (.tuple #[v, .nilIface]) ∧ CoverR w w' v (coverN B E) := by
  have k0 := below_new w (.cells #[.int .u64 (B : Int), .int .u64 (E : Int)] 24)
  have h0 := heap_alloc_new w (.cells #[.int .u64 (B : Int), .int .u64 (E : Int)] 24)
  obtain ⟨a1, a2, a3, a4⟩ := two_cells h0
  have K0 := Bx.mk k0; have H0 := Bx.mk h0; have HT := Bx.mk hT; have HG := Bx.mk hg
  clear k0 h0 hT hg
  obtain ⟨i0, hi, hz0, hz1, hz2⟩ := info_parts infoC
  have HI := Bx.mk hi; have HZ := Bx.mk hz0
  clear hi hz0
  have hd1 : decide (E < B) = false := decide_eq_false (by omega)
  have hd2 : decide ((9223372036854775808 : Int) < (E : Int)) = false := decide_eq_false (by omega)
  unfold sv
  go_enter Tryz.func5, Tryz.ntmps5
  go_wp2_with fail
  go_loopg [4, 5] (E - B) (fun k v at' wr => ∃ (a : Nat) (cs : List (Nat × Nat)), k = E - a ∧ a ≤ E ∧ at' = .int .u64 (a : Int) ∧ cs ++ coverN a E = coverN B E ∧ wr.ownsRow (w.heap.size + 1) 59 2 v cs.length (ccells cs) ∧ Below (w.heap.size + 1) (w.alloc (.cells #[.int .u64 (B : Int), .int .u64 (E : Int)] 24)) wr)
  case atStart => exact ⟨B, [], rfl, hBE, rfl, rfl, World.ownsRow_nil _ _ _ _, Below.refl _ _⟩
  case round =>
    obtain ⟨a, cs, hk, ha, rfl, hcs, hown, hb⟩ := hrel
    have HK := Bx.mk hk; have HC := Bx.mk hcs; have HO := Bx.mk hown; have HB := Bx.mk hb
    have c1 := (hb.cell (p := ⟨w.heap.size, 0, none⟩) (by simp)).trans a1
    have c2 := (hb.cell (p := ⟨w.heap.size, 1, none⟩) (by simp)).trans a2
    have tz := HT.out.below HG.out (K0.out.trans (hb.mono (by omega)))
    have TZ := Bx.mk tz
    clear hk hcs hown hb tz a1 a2 a3 a4
    by_cases hlt : a < E
    · have e1 : IntKind.u64.wrap ((E : Int) - (a : Int)) = ((E - a : Nat) : Int) := sub_nat (by omega) (by omega)
      have hl := len_any (E - a) wr (by omega)
      have hlog : Nat.log2 (E - a) < 64 := (Nat.log2_lt (by omega)).2 (by omega)
      rw [bitLen_log (by omega) (by omega)] at hl
      have e2 : (((Nat.log2 (E - a) + 1 : Nat) : Int) - 1) = (Nat.log2 (E - a) : Int) := by omega
      have HL := Bx.mk hl; clear hl
      go_wp2_with fail
      refine HL.out.mono ?_
      rintro e w1 ⟨rfl, hw1⟩
      obtain rfl := hw1.symm
      go_upto_if 31 with (fail)
      go_cut [6] (fun v wc => v = .int .i64 (lvl a E : Int) ∧ wc = wr)
      case first =>
        by_cases h0 : a = 0
        · have hlv := lvl_log (E := E) h0
          have h0' : ¬ (0 : Int) < (a : Int) := by omega
          clear h0
          go_wp2_with fail
          go_meet
          case rel => exact ⟨by rw [hlv], rfl⟩
        · have hlv := lvl_min (E := E) h0
          have HLV := Bx.mk hlv; clear hlv
          have h0' : (0 : Int) < (a : Int) := by omega
          have htz := tz_any a wr (by omega) TZ.out
          have HTZ := Bx.mk htz; clear htz h0
          go_wp2_with fail
          refine HTZ.out.mono ?_
          rintro e w1 ⟨rfl, hw1⟩
          obtain rfl := hw1.symm
          go_wp2_with fail
          go_meet
          case rel => exact ⟨by rw [HLV.out]; simp; omega, rfl⟩
      case rest =>
      obtain ⟨rfl, rfl⟩ := hcut
      obtain ⟨l1, l2, l3, _⟩ := lvl_spec hlt hE
      generalize hlv : lvl a E = k at l1 l2 l3 ⊢
      have HLV := Bx.mk hlv; clear hlv
      have hlen : cs.length + 1 ≤ 128 := by
        have h1 := cover_le (b := B) hE
        rw [← HC.out, coverN_cons hlt, List.length_append, List.length_cons] at h1
        omega
      have L2 := Bx.mk l2; clear l2
      have hpk : 2 ^ k ≤ 2 ^ 63 := Nat.pow_le_pow_right (by decide) l1
      have e4 : IntKind.u64.wrap ((2 : Int) ^ k) = (2 : Int) ^ k := (wrap_nat (n := 2 ^ k) (by simp) (by omega)).trans (by simp)
      have e5 : IntKind.u64.wrap ((a : Int) + (2 : Int) ^ k) = (a : Int) + (2 : Int) ^ k := (wrap_nat (n := a + 2 ^ k) (by simp) (by omega)).trans (by simp)
      go_wp2_with ((at_builtin; refine wpList_append_own _ rfl _ _ 25 rfl (w.heap.size + 1) 59 i0 (.agg #[.int .u8 0, .int .u64 0]) 2 16 underCs HI.out HZ.out hz1 hz2 rfl (by decide) _ _ _ rfl (own_belowC HO.out (below_new _ _)) ⟨wc.heap.size, 0, none⟩ 1 1 [.int .u8 (k : Int), .int .u64 ((a : Int) / 2 ^ k)] rfl rfl ?c1 ?c2 ?c3 ?c4 ?c5 ?_))
      case c1 =>
        intro j u hj
        match j, hj with
        | 0, hj => simp at hj; subst hj; simp [Addr.add]
        | 1, hj => simp at hj; subst hj; simp [Addr.add]
      case c2 => intro u hu; simp at hu; rcases hu with rfl | rfl <;> rfl
      case c3 => unfold maxLen; omega
      case c4 => omega
      case c5 => have := HB.out.size; simp at this ⊢; omega
      intro v' w2 hown' hgrow _
      have HO' := Bx.mk hown'; have HG' := Bx.mk hgrow
      clear hown' hgrow
      go_wp2_with fail
      go_roundg (E - (a + 2 ^ k))
      case measure => have := HK.out; have := Nat.two_pow_pos k; omega
      case rel =>
        have hs := HB.out.size
        have hs' : (w.alloc (.cells #[.int .u64 (B : Int), .int .u64 (E : Int)] 24)).heap.size = w.heap.size + 1 := by simp
        rw [hs'] at hs
        refine ⟨a + 2 ^ k, cs ++ [(k, a / 2 ^ k)], rfl, l3, by simp, ?_, ?_, ?_⟩
        · rw [List.append_assoc, ← HC.out, coverN_cons hlt, HLV.out]; rfl
        · rw [ccells_append, List.length_append, show ccells [(k, a / 2 ^ k)] = [.int .u8 (k : Int), .int .u64 ((a : Int) / 2 ^ k)] by rw [div_pow_nat]; rfl]
          exact HO'.out
        · refine (HB.out.alloc hs _).grown HG'.out (by simp; omega) (fun j hj => (own_ltC HO.out j hj).1)
    · obtain rfl : a = E := by omega
      go_wp2_with fail
      have hn : coverN a a = [] := coverN_nil (by omega)
      have hcs := HC.out
      rw [hn, List.append_nil] at hcs
      subst hcs
      go_ret2
      exact ⟨_, rfl, ⟨own_monoC HO.out (Nat.le_succ _), K0.out.trans (HB.out.mono (Nat.le_succ _))⟩⟩
end Go.Proofs.YtifnmidecjmmnaaGreatDoor
