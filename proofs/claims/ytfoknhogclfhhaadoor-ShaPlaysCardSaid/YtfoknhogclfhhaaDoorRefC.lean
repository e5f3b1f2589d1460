/- The document's answer, part three: the padded text. -/
import Derived.Test.YtfoknhogclfhhaaDoorOwnF
namespace Go.Proofs.YtfoknhogclfhhaaDoor
set_option maxRecDepth 100000
open Go.RowKit
theorem wpList_append_F {P : Program} {ops : Array Oper} {rest : List Oper} {o : Oper} {a : Act} {w : World} {Q : Exit → Act → World → Prop} (hgd : o.guard = none) (s x : Operand) (t : TypeId)
    (ho : o.op = .call { callee := .builtin .append, args := #[s, x], argTypes := #[t, t] })
    (base : Nat) (e : TypeId) (i : TypeInfo) (z : Value) (ht : P.underlying t = some (.slice e)) (hi : P.info? e = some i) (hz : i.zero = some z)
    (hsize : i.size = 1) (hby : i.bytes = 1) (hzs : z.cells.size = 1) (he : e = 5)
    (v : Value) (l : List UInt8) (hs : a.eval s = v) (hown : OwnF base w v l)
    (xa : Option Addr) (c m : Nat) (l' : List UInt8) (hm : l'.length = m) (hx : a.eval x = .slice xa m c) (hnil : xa = none → c = 0 ∧ l'.length = 0)
    (hnews : ∀ ad, xa = some ad → ∀ j u, (bcells l')[j]? = some u → w.cell? (ad.add j) = some u)
    (hlen : l.length + l'.length ≤ 140737488355328) (hbase : base ≤ w.heap.size)
    (h : ∀ v' w', OwnF base w' v' (l ++ l') → w.grownBy w' v.ownBlock → (v'.ownBlock = v.ownBlock ∨ ∀ k, v'.ownBlock = some k → w.heap.size ≤ k) → wpList P ops Q rest (a.put o.dst v') w') : wpList P ops Q (o :: rest) a w :=
  wpList_plain hgd fun K hK => by
    subst hm
    obtain ⟨v', w', hrun, a2, a3, a4⟩ := run_append_F (P := P) (w := w) t o.type base e i z ht hi hz hsize hby hzs he v l hown xa c l' hnil hnews hlen hbase
    unfold Oper.wp
    simp [execOp, ho, resolve, invoke, builtin, hs, hx, hrun, Result.andThen]
    exact hK _ _ (h v' w' a2 a3 a4)
/-- a string's bytes -/
def sb (s : ByteArray) : List UInt8 := s.data.toList
theorem sb_length (s : ByteArray) : (sb s).length = s.size := by
  show s.data.toList.length = s.data.size
  exact Array.length_toList
/-- the row that '[]byte(s)' makes -/
theorem bytesRow_own (w : World) (s : ByteArray) (cap : Nat) (h : s.size ≤ cap) (h2 : cap ≤ maxLen) (fr : Nat × Nat) (hfr : cap ≤ fr.1) :
    OwnF w.heap.size ((w.alloc (.cells (bytesRow s cap) 5 fr)).drew) (.slice (some ⟨w.heap.size, 0, none⟩) s.size cap) (sb s) := by
  have hg : ((w.alloc (.cells (bytesRow s cap) 5 fr)).drew).heap[w.heap.size]? = some (.cells (bytesRow s cap) 5 fr) := heap_alloc_new w _
  have hds : s.data.size = s.size := rfl
  have hsz : (bytesRow s cap).size = cap := by
    unfold bytesRow
    rw [Array.size_append, Array.size_map, Array.size_replicate]
    omega
  refine .inr ⟨w.heap.size, cap, by rw [sb_length], Nat.le_refl _, by simp, by rw [sb_length]; exact h, h2, fun i hi => ?_, fun i hi => ⟨?_, ?_⟩⟩
  · rw [cell_of_row _ _ _ _ _ _ hg]
    have hi' : i < s.data.size := by rw [sb_length] at hi; omega
    unfold bytesRow
    rw [Array.getElem?_append_left (by simpa using hi'), Array.getElem?_map, Array.getElem?_eq_getElem hi']
    rfl
  · rw [cell_of_row _ _ _ _ _ _ hg, Array.getElem?_eq_getElem (by omega)]; rfl
  · have : ¬ fr.1 ≤ i := by omega
    simp only [World.frozen?, hg]
    simp [this]
theorem one_cell (w : World) (u : Value) (_hu : u.oneCell' = true) (n : Nat) (hn : n = w.heap.size) :
    ∀ ad, some (⟨n, 0, none⟩ : Addr) = some ad → ∀ j x, [u][j]? = some x → (w.alloc (.cells #[u] 5)).cell? (ad.add j) = some x := by
  rintro ad had j x hj
  cases had
  subst hn
  match j, hj with
  | 0, hj => simp at hj; subst hj; simp [Addr.add]
set_option maxHeartbeats 1600000 in
set_option maxRecDepth 100000 in
theorem padded_any (w : World) (s : ByteArray) (hs : s.size < 70368744177664) :
    Calls Tryd.prog 26 #[.string s] w fun e w' => ∃ v, e = .returned v ∧ OwnF w.heap.size w' v (pad (sb s)) ∧ Below w.heap.size w w' := by
  have hb0 : Below w.heap.size w ((w.alloc (.cells (bytesRow s (grownCap w s.size 0 5)) 5 ((bytesRow s (grownCap w s.size 0 5)).size, (bytesRow s (grownCap w s.size 0 5)).size + 1))).drew) := ((Below.refl _ _).alloc (Nat.le_refl _) _).drew
  have ho0 := bytesRow_own w s (grownCap w s.size 0 5) (grownCap_ge _ _ _ _) (grownCap_le_maxLen _ _ _ _ (by unfold maxLen; omega)) ((bytesRow s (grownCap w s.size 0 5)).size, (bytesRow s (grownCap w s.size 0 5)).size + 1) (by
    have hds : s.data.size = s.size := rfl
    unfold bytesRow
    rw [Array.size_append, Array.size_map, Array.size_replicate]
    omega)
  have hsl := sb_length s
  obtain ⟨i0, hi, hz0, hz1, hz2⟩ := info_parts info8
  have RI := Bx.mk (And.intro hi (And.intro hz0 (And.intro hz1 (And.intro hz2 hs))))
  have HB0 := Bx.mk hb0; have HO0 := Bx.mk ho0; have HSL := Bx.mk hsl
  clear hi hz0 hz1 hz2 hb0 ho0 hsl
  have kc := fun (w : World) => run_bytes_of_string (P := Tryd.prog) w 9 30 5 s (by kernel_rfl) underB (by kernel_rfl)
  go_enter Tryd.func26, Tryd.ntmps26
  go_upto_region 2 with (fail)
  clear kc
  generalize ((w.alloc (.cells (bytesRow s (grownCap w s.size 0 5)) 5 ((bytesRow s (grownCap w s.size 0 5)).size, (bytesRow s (grownCap w s.size 0 5)).size + 1))).drew) = W at HB0 HO0 ⊢
  generalize grownCap w s.size 0 5 = gc at HO0 ⊢
  have q3 := HO0.out.kept (Keep.alloc (fun _ => False) W (.cells #[.int .u8 128] 5)) (fun _ _ h => h)
  have q4 : w.heap.size ≤ (W.alloc (.cells #[.int .u8 128] 5)).heap.size := by have := HB0.out.size; simp; omega
  have q5 := one_cell W (.int .u8 128) rfl W.heap.size rfl
  have q6 : (sb s).length + 1 ≤ 140737488355328 := by rw [HSL.out]; omega
  have Q3 := Bx.mk q3; have Q4 := Bx.mk q4; have Q5 := Bx.mk q5; have Q6 := Bx.mk q6
  clear q3 q4 q5 q6
  go_wp2_with (refine wpList_append_F rfl (.tmp 8) (.tmp 9) 30 rfl w.heap.size 5 i0 (.int .u8 0) underB RI.out.1 RI.out.2.1 RI.out.2.2.1 RI.out.2.2.2.1 rfl rfl (.slice (some ⟨w.heap.size, 0, none⟩) s.size gc) (sb s) rfl Q3.out (some ⟨W.heap.size, 0, none⟩) 1 1 [128] rfl rfl (by simp) Q5.out Q6.out Q4.out ?_; intro v' w1 ho1 hg1 hf1; have O1 := Bx.mk ho1; have B1 := Bx.mk ((HB0.out.alloc HB0.out.size _).grown hg1 (by have := HB0.out.size; simp; omega) (fun k hk => (HO0.out.fresh k hk).1)); clear ho1 hg1 hf1)
  go_loopw [3] (fun v wr => ∃ t, t ≤ zerosOf s.size ∧ Below w.heap.size w wr ∧ OwnF w.heap.size wr v (sb s ++ (128 :: List.replicate t 0))) (fun v _ => s.size + 1 + zerosOf s.size - lenOf v)
  case atStart => exact ⟨0, Nat.zero_le _, B1.out, O1.out⟩
  case round =>
    obtain ⟨t, ht, hb, ho⟩ := hrel
    obtain ⟨a3, c3, hv3, q1, q2, q3⟩ := ho.shape
    have hln : (sb s ++ (128 :: List.replicate t 0)).length = s.size + 1 + t := by simp [HSL.out]; omega
    rw [hln] at hv3 q1
    subst hv3
    have HB := Bx.mk hb; have HO := Bx.mk ho; have HLN := Bx.mk hln
    have hz := zerosOf_lt s.size
    clear hb ho hln q3
    by_cases hlt : t < zerosOf s.size
    · have hne := zeros_test s.size t hlt
      have hne2 : ((((s.size : Int) + 1 + (t : Int)) % 64) != 56) = true := by rw [bne_iff_ne]; omega
      have NE := Bx.mk hne; clear hne
      have q3 := HO.out.kept (Keep.alloc (fun _ => False) wr (.cells #[.int .u8 0] 5)) (fun _ _ h => h)
      have q4 : w.heap.size ≤ (wr.alloc (.cells #[.int .u8 0] 5)).heap.size := by have := HB.out.size; simp; omega
      have q5 := one_cell wr (.int .u8 0) rfl wr.heap.size rfl
      have q6 : (sb s ++ (128 :: List.replicate t 0)).length + 1 ≤ 140737488355328 := by rw [HLN.out]; omega
      have Q3 := Bx.mk q3; have Q4 := Bx.mk q4; have Q5 := Bx.mk q5; have Q6 := Bx.mk q6
      clear q3 q4 q5 q6
      go_wp2_with (refine wpList_append_F rfl (.tmp 15) (.tmp 16) 30 rfl w.heap.size 5 i0 (.int .u8 0) underB RI.out.1 RI.out.2.1 RI.out.2.2.1 RI.out.2.2.2.1 rfl rfl (.slice a3 (s.size + 1 + t) c3) (sb s ++ (128 :: List.replicate t 0)) rfl Q3.out (some ⟨wr.heap.size, 0, none⟩) 1 1 [0] rfl rfl (by simp) Q5.out Q6.out Q4.out ?_; intro v' w2 ho1 hg1 hf1; have G1 := Bx.mk hg1; have O1 := Bx.mk ho1; clear ho1 hg1 hf1)
      go_roundw
      case rel =>
        refine ⟨t + 1, hlt, (HB.out.alloc HB.out.size _).grown G1.out (by have := HB.out.size; simp; omega) (fun k hk => (HO.out.fresh k hk).1), ?_⟩
        have := O1.out
        rw [List.append_assoc] at this
        rw [show (128 : UInt8) :: List.replicate (t + 1) 0 = 128 :: List.replicate t 0 ++ [0] by rw [List.replicate_succ']; simp]
        exact this
      case measure =>
        obtain ⟨a6, c6, hv6, _⟩ := O1.out.shape
        rw [hv6]; simp only [lenOf, List.length_append]; simp [HSL.out]; omega
    · obtain rfl : t = zerosOf s.size := by omega
      have hne := zeros_end s.size
      have hne2 : ((((s.size : Int) + 1 + (zerosOf s.size : Int)) % 64) != 56) = false := by rw [bne_eq_false_iff_eq]; omega
      have NE := Bx.mk hne; clear hne
      go_wp2_with fail
      go_loopw [3, 5] (fun v i wr => ∃ t : Nat, t ≤ 8 ∧ i = .int .i64 t ∧ Below w.heap.size w wr ∧ OwnF w.heap.size wr v (sb s ++ (128 :: List.replicate (zerosOf s.size) 0) ++ be8 (s.size * 8) t)) (fun _ i _ => 8 - (intOf i).toNat)
      case atStart => exact ⟨0, Nat.zero_le _, rfl, HB.out, by simpa [be8] using HO.out⟩
      case round =>
        clear q1 q2
        obtain ⟨t, ht, rfl, hb, ho⟩ := hrel
        obtain ⟨a4, c4, hv4, q1, q2, q3⟩ := ho.shape
        have hln : (sb s ++ (128 :: List.replicate (zerosOf s.size) 0) ++ be8 (s.size * 8) t).length = s.size + 1 + zerosOf s.size + t := by simp [HSL.out, be8_length]; omega
        rw [hln] at hv4 q1
        subst hv4
        have HB2 := Bx.mk hb; have HO2 := Bx.mk ho; have HLN2 := Bx.mk hln
        clear hb ho hln q3
        by_cases hlt : t < 8
        · have hu : byteOf (((s.size * 8 : Nat) : Int) / 2 ^ (56 - 8 * t)) = byteOf (((s.size : Int) * 8) / 2 ^ (56 - 8 * t)) := by push_cast; rfl
          have hval := bcell_byteOf (((s.size : Int) * 8) / 2 ^ (56 - 8 * t))
          have q3 := fun u => HO2.out.kept (Keep.alloc (fun _ => False) wr (.cells #[u] 5)) (fun _ _ h => h)
          have q4 : ∀ u, w.heap.size ≤ (wr.alloc (.cells #[u] 5)).heap.size := fun u => by have := HB2.out.size; simp; omega
          have q5 := one_cell wr (.int .u8 (((s.size : Int) * 8) / 2 ^ (56 - 8 * t) % 256)) rfl wr.heap.size rfl
          rw [← hval, ← hu] at q5
          have q6 : (sb s ++ (128 :: List.replicate (zerosOf s.size) 0) ++ be8 (s.size * 8) t).length + 1 ≤ 140737488355328 := by rw [HLN2.out]; omega
          have hvv : Value.int .u8 (((s.size : Int) * 8) / 2 ^ (56 - 8 * t) % 256) = bcell (byteOf (((s.size * 8 : Nat) : Int) / 2 ^ (56 - 8 * t))) := by rw [hu, hval]
          have h0t : 0 ≤ 56 - 8 * (t : Int) := by omega
          have h1t : 56 - 8 * (t : Int) ≤ 64 := by omega
          have Q3 := Bx.mk q3; have Q4 := Bx.mk q4; have Q5 := Bx.mk q5; have Q6 := Bx.mk q6; have QV := Bx.mk hvv
          clear q3 q4 q5 q6 hu hval hvv
          go_wp2_with (rw [QV.out]; refine wpList_append_F rfl (.tmp 26) (.tmp 33) 30 rfl w.heap.size 5 i0 (.int .u8 0) underB RI.out.1 RI.out.2.1 RI.out.2.2.1 RI.out.2.2.2.1 rfl rfl (.slice a4 (s.size + 1 + zerosOf s.size + t) c4) (sb s ++ (128 :: List.replicate (zerosOf s.size) 0) ++ be8 (s.size * 8) t) rfl (Q3.out _) (some ⟨wr.heap.size, 0, none⟩) 1 1 [byteOf (((s.size * 8 : Nat) : Int) / 2 ^ (56 - 8 * t))] rfl rfl (by simp) Q5.out Q6.out (Q4.out _) ?_; intro v' w2 ho1 hg1 hf1; have G2 := Bx.mk hg1; have O2 := Bx.mk ho1; clear ho1 hg1 hf1)
          go_roundw
          case rel =>
            refine ⟨t + 1, hlt, by go_num, (HB2.out.alloc HB2.out.size _).grown G2.out (by have := HB2.out.size; simp; omega) (fun k hk => (HO2.out.fresh k hk).1), ?_⟩
            have := O2.out
            rw [List.append_assoc] at this
            exact this
          case measure => simp [intOf]; omega
        · obtain rfl : t = 8 := by omega
          go_wp2_with fail
          go_ret
          refine ⟨_, rfl, ?_, HB2.out⟩
          have := HO2.out
          rw [List.append_assoc, ← HSL.out] at this
          exact this
end Go.Proofs.YtfoknhogclfhhaaDoor
