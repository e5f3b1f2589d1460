/- strings.Builder: copyCheck, WriteByte (the shelf's contracts do not fit this dump: copyCheck's panic is cut). -/
import Derived.Test.YtecdaokgnkhgiaaDoorHe
import Derived.Lib.Builder
import Derived.Laws.Externs
namespace Go.Proofs.YtecdaokgnkhgiaaDoor
set_option maxRecDepth 100000
open Go.RowKit
theorem ptrBld : Tryd.prog.underlying 87 = some (.pointer 89) := by kernel_rfl
theorem underU : Tryd.prog.underlying 92 = some .unsafePointer := by kernel_rfl
theorem infoBld : (Tryd.prog.info? 89).map (·.size) = some 2 := by kernel_rfl
theorem liesBld : liesAt Tryd.prog Tryd.prog.depth 89 (2 / Tryd.prog.cellsOf 89) 0 89 1 = true := by kernel_rfl
set_option maxHeartbeats 800000 in
theorem check_used (b : Nat) (w : World) (h0 : w.cell? ⟨b, 0, none⟩ = some (.pointer (some ⟨b, 0, none⟩))) :
    Calls Tryd.prog 66 #[.pointer (some ⟨b, 0, none⟩)] w fun e w' => e = .returned (.tuple #[]) ∧ w' = w := by
  obtain ⟨j, hj, _⟩ := Option.map_eq_some_iff.1 infoBld
  have hn := fun u => Lib.run_neq_ptr_same (P := Tryd.prog) (w := u) ⟨b, 0, none⟩ ptrBld hj
  go_enter Tryd.func66, Tryd.ntmps66
  go_wp2
  go_end0
  exact ⟨rfl, rfl⟩
set_option maxHeartbeats 800000 in
theorem check_fresh (b : Nat) (w : World) (h0 : w.cell? ⟨b, 0, none⟩ = some (.pointer none)) (hsh : w.shape? b = some (89, 2)) (hfz : w.frozen? ⟨b, 0, none⟩ = false) :
    Calls Tryd.prog 66 #[.pointer (some ⟨b, 0, none⟩)] w fun e w' => e = .returned (.tuple #[]) ∧ w' = w.setCell ⟨b, 0, none⟩ (.pointer (some ⟨b, 0, none⟩)) := by
  obtain ⟨j, hj, hjs⟩ := Option.map_eq_some_iff.1 infoBld
  have h1 := Lib.run_to_unsafe (P := Tryd.prog) (w := w) ⟨b, 0, none⟩ ptrBld underU hj (by rw [hjs]; decide) hsh (Nat.zero_lt_succ 1)
  have h2 := run_callFunc_extern (P := Tryd.prog) Tryd.func69 (by kernel_rfl) (by kernel_rfl) (by kernel_rfl) (e := Extern.AbiNoEscape.same) (by kernel_rfl) #[.pointer (some ⟨b, 0, none⟩)] w
  rw [Lib.run_noEscape] at h2
  have h3 := Lib.run_from_unsafe (P := Tryd.prog) (w := w) ⟨b, 0, none⟩ underU ptrBld hj hsh liesBld
  simp only [Result.andThen] at h2
  clear hj hjs
  go_enter Tryd.func66, Tryd.ntmps66
  go_wp2
  go_end0
  exact ⟨rfl, rfl⟩
/-- copyCheck of a builder: it is used behind it -/
theorem check_any (B b : Nat) (bs : List Value) (w : World) (h : Lib.IsBuilder 89 5 B b bs w) :
    Calls Tryd.prog 66 #[.pointer (some ⟨b, 0, none⟩)] w fun e w' => e = .returned (.tuple #[]) ∧ Lib.BuilderAt 89 5 B b (.pointer (some ⟨b, 0, none⟩)) bs w' ∧ Below B w w' := by
  rcases h with h | h
  · refine (check_fresh b w h.cell0 h.shape h.frozen0).mono ?_
    rintro e w' ⟨rfl, rfl⟩
    exact ⟨rfl, h.used _, (Below.refl B w).setCell (p := ⟨b, 0, none⟩) h.1 _⟩
  · refine (check_used b w h.cell0).mono ?_
    rintro e w' ⟨rfl, rfl⟩
    exact ⟨rfl, h, Below.refl B _⟩
set_option maxHeartbeats 1600000 in
theorem byte_any (B b : Nat) (bs : List Value) (c : Int) (w : World) (h : Lib.IsBuilder 89 5 B b bs w) (hlen : bs.length + 1 ≤ 140737488355328) (hBw : B ≤ w.heap.size) :
    Calls Tryd.prog 55 #[.pointer (some ⟨b, 0, none⟩), .int .u8 c] w fun e w' => e = .returned .nilIface ∧ Lib.IsBuilder 89 5 B b (bs ++ [.int .u8 c]) w' ∧ Below B w w' := by
  have hck := check_any B b bs w h
  have HCK := Bx.mk hck
  clear hck h
  obtain ⟨i0, hi, hz0, hz1, hz2⟩ := info_parts info8
  have RI := Bx.mk (And.intro hi (And.intro hz0 (And.intro hz1 hz2)))
  clear hi hz0 hz1 hz2
  go_enter Tryd.func55, Tryd.ntmps55
  go_wp2_with fail
  refine HCK.out.mono ?_
  rintro e w1 ⟨rfl, hba, hb1⟩
  obtain ⟨hB, v, hbk, hown, hne⟩ := hba
  obtain ⟨av, cv, rfl, hv1, hv2, hv3⟩ := own_shape hown
  have c1 : w1.cell? ⟨b, 1, none⟩ = some (.slice av bs.length cv) := by rw [Lib.cell_of_heap hbk]; rfl
  have hlt : b < w1.heap.size := (Array.getElem?_eq_some_iff.1 hbk).1
  have ka : Below w1.heap.size w1 (w1.alloc (.cells #[.int .u8 c] 5)) := (Below.refl _ _).alloc (Nat.le_refl _) _
  have hown2 := own_keep hown (Keep.of_below ka (fun _ => False)) (fun _ _ h => h)
  have hsrc : ∀ ad, some (⟨w1.heap.size, 0, none⟩ : Addr) = some ad → ∀ j u, [Value.int .u8 c][j]? = some u → (w1.alloc (.cells #[.int .u8 c] 5)).cell? (ad.add j) = some u := by
    rintro ad had j u hj
    cases had
    match j, hj with
    | 0, hj => simp at hj; subst hj; simp [Addr.add]
  have hm1 : bs.length + 1 ≤ maxLen := by unfold maxLen; omega
  have hm2 : (bs.length + 1) * 1 ≤ 140737488355328 := by omega
  have hbw : B ≤ (w1.alloc (.cells #[.int .u8 c] 5)).heap.size := Nat.le_trans hBw (Nat.le_trans hb1.size ka.size)
  have hb2 : (w1.alloc (.cells #[.int .u8 c] 5)).heap[b]? = some (.cells #[.pointer (some ⟨b, 0, none⟩), .slice av bs.length cv] 89 (0, 0)) := (ka.block b hlt).trans hbk
  have hg : ∀ w2 : World, (w1.alloc (.cells #[.int .u8 c] 5)).grownBy w2 (Value.slice av bs.length cv).ownBlock → w2.heap[b]? = some (.cells #[.pointer (some ⟨b, 0, none⟩), .slice av bs.length cv] 89 (0, 0)) := fun w2 g =>
    (g.block b (Nat.lt_of_lt_of_le hlt ka.size) (fun e => hne e.symm)).trans hb2
  have Q1 := Bx.mk hown2; have Q2 := Bx.mk hsrc; have Q3 := Bx.mk hm1; have Q4 := Bx.mk hm2; have Q5 := Bx.mk hbw; have Q6 := Bx.mk hg; have Q7 := Bx.mk hbk; have Q8 := Bx.mk hown; have HB1 := Bx.mk hb1; have KA := Bx.mk ka; have HB := Bx.mk hB
  clear hown2 hsrc hm1 hm2 hbw hg hbk hown hb1 ka hB hb2 hne hv3
  go_wp2_with (refine wpList_append_src rfl (.tmp 11) (.tmp 13) 56 rfl B 5 i0 (.int .u8 0) 1 1 underB RI.out.1 RI.out.2.1 RI.out.2.2.1 RI.out.2.2.2 rfl (by decide) (.slice av bs.length cv) _ _ rfl Q1.out (some ⟨w1.heap.size, 0, none⟩) 1 1 [Value.int .u8 c] rfl (by simp) rfl Q2.out (by simp [Value.oneCell']) Q3.out Q4.out Q5.out ?_; intro v' w2 ho1 hg1 hf1; have O1 := Bx.mk ho1; have G1 := Bx.mk hg1; have z1 := Lib.frozen_of_heap (Q6.out w2 hg1) 1; have z2 : w2.cell? ⟨b, 1, none⟩ = some (.slice av bs.length cv) := (by rw [Lib.cell_of_heap (Q6.out w2 hg1)]; rfl); obtain ⟨va, vc, hv', _, _, _⟩ := own_shape ho1; clear ho1 hg1 hf1; subst hv')
  go_ret
  refine ⟨rfl, .inr (Lib.BuilderAt.put HB.out (Q6.out _ G1.out) ?_ (by decide)), ?_⟩
  · have := O1.out
    rw [List.length_append]
    exact this
  · refine Below.setCell (p := ⟨b, 1, none⟩) ?_ HB.out _
    exact (HB1.out.trans (KA.out.mono (Nat.le_trans hBw HB1.out.size))).grown G1.out (Nat.le_trans hBw (Nat.le_trans HB1.out.size KA.out.size)) (fun k hk => ownsRow_fresh Q8.out k hk)
end Go.Proofs.YtecdaokgnkhgiaaDoor
