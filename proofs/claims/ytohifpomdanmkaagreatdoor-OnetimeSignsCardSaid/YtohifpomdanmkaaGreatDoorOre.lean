/- onetime.Public: 67 chains to their ends; a slice of hashes that is being filled. -/
import Derived.Test.YtohifpomdanmkaaGreatDoorOrd
namespace Go.Proofs.YtohifpomdanmkaaGreatDoor
set_option maxRecDepth 100000
open Go.RowKit
/-- a new row of 67 hashes of which the first ones are laid -/
structure SlP (w : World) (g : Nat) (ls : List (List UInt8)) : Prop where
  at' : ∀ j (h : j < ls.length), w.rangeAt g (j * 32) (bcells ls[j])
  len : ∀ x ∈ ls, x.length = 32
  the : w.there g 0 2144
  lt : g < w.heap.size
  blk : ∃ cur : Array Value, w.heap[g]? = some (.cells cur 23 (0, 0)) ∧ cur.size = 2144
theorem blk_setCells {T : TypeId} {n g : Nat} : ∀ (vs : List Value) (o : Nat) (w : World), (∃ cur : Array Value, w.heap[g]? = some (.cells cur T (0, 0)) ∧ cur.size = n) → ∃ cur : Array Value, (w.setCells g o vs).heap[g]? = some (.cells cur T (0, 0)) ∧ cur.size = n
  | [], _, _, h => h
  | v :: vs, o, w, ⟨cur, h1, h2⟩ => blk_setCells vs (o + 1) (w.setCell ⟨g, o, none⟩ v) ⟨cur.setIfInBounds o v, by simp [World.setCell, Array.getElem?_modify, h1], by rw [Array.size_setIfInBounds]; exact h2⟩
theorem SlP.below {w w' : World} {g : Nat} {ls : List (List UInt8)} (h : SlP w g ls) (k : Below w.heap.size w w') : SlP w' g ls :=
  ⟨fun j hj => rangeAt_below (h.at' j hj) h.lt k, h.len, fun j hj => by
    have e1 := k.cell (p := ⟨g, 0 + j, none⟩) h.lt
    have e2 := k.frozen (p := ⟨g, 0 + j, none⟩) h.lt
    exact ⟨by rw [e1]; exact (h.the j hj).1, by rw [e2]; exact (h.the j hj).2⟩, Nat.lt_of_lt_of_le h.lt k.size, by
    obtain ⟨cur, h1, h2⟩ := h.blk
    exact ⟨cur, (k.block g h.lt).trans h1, h2⟩⟩
theorem SlP.room {w : World} {g : Nat} {ls : List (List UInt8)} (h : SlP w g ls) (hl : ls.length < 67) {c : List UInt8} (hc : c.length = 32) : w.there g (ls.length * 32) (ocells c).size := fun j hj => by
  have := h.the (ls.length * 32 + j) (by rw [ocells_size, hc] at hj; omega)
  rwa [Nat.zero_add] at this
theorem SlP.push {w : World} {g : Nat} {ls : List (List UInt8)} (h : SlP w g ls) (hl : ls.length < 67) {c : List UInt8} (hc : c.length = 32) : SlP (w.setCells g (ls.length * 32) (ocells c).toList) g (ls ++ [c]) := by
  refine ⟨fun j hj => ?_, fun x hx => ?_, World.there_setCells h.the _ _ _, by rw [size_setCells]; exact h.lt, blk_setCells _ _ _ h.blk⟩
  · by_cases hjl : j < ls.length
    · rw [List.getElem_append_left hjl]
      refine World.rangeAt_setCells_apart (h.at' j hjl) g _ _ (.inr (.inl ?_))
      rw [bcells_length, h.len _ (List.getElem_mem hjl)]
      omega
    · have hj' : j = ls.length := by simp at hj; omega
      subst hj'
      rw [List.getElem_append_right (Nat.le_refl _)]
      simp only [Nat.sub_self, List.getElem_cons_zero]
      have := World.rangeAt_setCells_same w g (ls.length * 32) (ocells c).toList (by have := h.room hl hc; rwa [← Array.length_toList] at this)
      exact this
  · rcases List.mem_append.1 hx with hx | hx
    · exact h.len x hx
    · obtain rfl : x = c := by simpa using hx
      exact hc
theorem SlP.hss {w : World} {g : Nat} {ls : List (List UInt8)} (h : SlP w g ls) (hl : ls.length = 67) : Hss w (.slice (some ⟨g, 0, none⟩) 67 67) ls :=
  ⟨h.len, _, 67, by rw [hl], by omega, by unfold maxLen; decide, fun _ => ⟨g, 0, rfl, h.lt, fun i hi => by rw [Nat.zero_add]; exact h.at' i hi⟩⟩
theorem make67 (u : World) : (Instr.makeSlice 24 (.int .i64 67) (.int .i64 67)).run Tryz.prog u = .ok (.slice (some ⟨u.heap.size, 0, none⟩) 67 67) (u.alloc (.cells (madeCells zeros32 2144) 23)) := by
  obtain ⟨im, hi1, hi2⟩ := Option.map_eq_some_iff.1 infoH
  simp only [Prod.mk.injEq] at hi2
  obtain ⟨hz, hsz, hby⟩ := hi2
  have := run_make (P := Tryz.prog) u 24 23 im (.agg zeros32) underHs hi1 hz .i64 .i64 67 67 (by decide) (Int.le_refl _) (by rw [hby]; decide) (by decide)
  rw [this, hsz]
  rfl
theorem SlP.new (u : World) : SlP (u.alloc (.cells (madeCells zeros32 2144) 23)) u.heap.size [] :=
  ⟨fun j h => absurd h (Nat.not_lt_zero _), (fun x h => by cases h), by
    have := there_row (heap_alloc_new u (.cells (madeCells zeros32 2144) 23))
    rwa [size_madeCells] at this, by simp, ⟨_, heap_alloc_new _ _, size_madeCells _ _⟩⟩
/-- so many hashes by their number -/
def rowOf (f : Nat → List UInt8) (t : Nat) : List (List UInt8) := (List.range t).map f
theorem rowOf_length (f : Nat → List UInt8) (t : Nat) : (rowOf f t).length = t := by simp [rowOf]
theorem rowOf_succ (f : Nat → List UInt8) (t : Nat) : rowOf f (t + 1) = rowOf f t ++ [f t] := by simp [rowOf, List.range_succ]
theorem beginB_length (s : List UInt8) (i : Nat) : (beginB s i).length = 32 := sha_length _
/-- the public hash of a secret -/
def publicB (s : List UInt8) : List UInt8 := sha (4 :: (rowOf (fun i => chainN (beginB s i) 15) 67).flatten)
set_option maxHeartbeats 3200000 in
theorem public_any (w : World) (s : List UInt8) (hs : s.length = 32) (hT : TabS w) :
    Calls Tryz.prog 7 #[hv s] w fun e w' => e = .returned (hv (publicB s)) ∧ Below w.heap.size w w' := by
  have x0 := (HashAt.new w s hs).below (er_al (Below.refl _ _) (.cells zeros32 23))
  have x1 : ((w.alloc (.cells (ocells s) 23)).alloc (.cells zeros32 23)).heap[w.heap.size + 1]? = some (.cells zeros32 23 (0, 0)) := by
    simpa using heap_alloc_new (w.alloc (.cells (ocells s) 23)) (.cells zeros32 23)
  have kb : Below w.heap.size w ((w.alloc (.cells (ocells s) 23)).alloc (.cells zeros32 23)) := er_al (er_al (Below.refl _ _) _) _
  have SL := Bx.mk hs; have HT := Bx.mk hT
  clear hs hT
  unfold hv
  go_enter Tryz.func7, Tryz.ntmps7
  go_upto_region 1 with (fail)
  change Code.wp _ _ _ _ ((w.alloc (.cells (ocells s) 23)).alloc (.cells zeros32 23))
  generalize (w.alloc (.cells (ocells s) 23)).alloc (.cells zeros32 23) = W at x0 x1 kb ⊢
  obtain ⟨N, hN⟩ : ∃ N, N = w.heap.size := ⟨_, rfl⟩
  rw [← hN] at x0 x1 ⊢
  have mk := make67 W
  have sl := SlP.new W
  have b2 := er_al (Below.refl W.heap.size W) (.cells (madeCells zeros32 2144) 23)
  have X0 := Bx.mk x0; have X1 := Bx.mk x1; have KB := Bx.mk kb; have HN := Bx.mk hN
  clear x0 x1 kb hN
  go_upto_region 2 with (fail)
  clear mk
  generalize W.alloc (.cells (madeCells zeros32 2144) 23) = W2 at sl b2 ⊢
  obtain ⟨g, hg⟩ : ∃ g, g = W.heap.size := ⟨_, rfl⟩
  rw [← hg] at sl ⊢
  have S2 := Bx.mk sl; have B2 := Bx.mk b2; have HG := Bx.mk hg
  clear sl b2 hg
  go_wp2_with fail
  go_loopw [4, 8] (fun _ iv wr => ∃ t : Nat, t ≤ 67 ∧ iv = .int .i64 (t : Int) ∧ SlP wr g (rowOf (fun i => chainN (beginB s i) 15) t) ∧ Below W.heap.size W wr) (fun _ iv _ => 67 - (intOf iv).toNat)
  case atStart => exact ⟨0, by decide, rfl, S2.out, B2.out⟩
  case round =>
    obtain ⟨t, ht, rfl, hsl, hb⟩ := hrel
    have S3 := Bx.mk hsl; have B3 := Bx.mk hb
    have x0 := X0.out.below hb
    have Y0 := Bx.mk x0
    clear hsl hb S2 B2 x0
    have kw : ∀ u, Below W.heap.size W u → Below w.heap.size w u := fun u h => KB.out.trans (h.mono KB.out.size)
    have KW := Bx.mk kw
    clear kw
    by_cases hlt : t < 67
    · have cb := fun u hu => begin_any u s SL.out t hlt hu
      have cn := fun u hu => on_any u (beginB s t) (beginB_length s t) 15 (by decide) hu
      have hcl := chainN_length (beginB_length s t) 15
      simp only [hv_agg] at cb cn
      have hrow := rowOf_succ (fun i => chainN (beginB s i) 15) t
      have hlen := rowOf_length (fun i => chainN (beginB s i) 15) t
      generalize chainN (beginB s t) 15 = c at cn hcl hrow
      have CB := Bx.mk cb; have CN := Bx.mk cn; have CL := Bx.mk hcl; have RW := Bx.mk hrow; have RL := Bx.mk hlen
      clear cb cn hcl hrow hlen
      go_wp2_with (guard_target =~ wpList _ _ _ (⟨some 13, _, _, _, _, _⟩ :: _) _ _; refine wpList_load_row rfl 23 (.tmp 1) rfl N rfl _ _ _ _ Y0.out.1 underH rfl (hszL SL.out) ?_)
      refine (CB.out wr (HT.out.below (KW.out _ B3.out))).mono ?_
      rintro e w3 ⟨rfl, hb⟩
      have S4 := Bx.mk (S3.out.below hb); have B4 := Bx.mk (B3.out.trans (hb.mono B3.out.size))
      clear hb
      go_wp2_with fail
      refine (CN.out w3 (HT.out.below (KW.out _ B4.out))).mono ?_
      rintro e w4 ⟨rfl, hb⟩
      have S5 := Bx.mk (S4.out.below hb); have B5 := Bx.mk (B4.out.trans (hb.mono B4.out.size))
      clear hb
      have hroom := S5.out.room (c := c) (by rw [RL.out]; exact hlt) CL.out
      have hpush := S5.out.push (c := c) (by rw [RL.out]; exact hlt) CL.out
      have hbs := below_setCells (Nat.le_of_eq HG.out.symm) (ocells c).toList (t * 32) w4 B5.out
      rw [RL.out] at hroom hpush
      rw [← RW.out] at hpush
      have RM := Bx.mk hroom; have PS := Bx.mk hpush; have BS := Bx.mk hbs
      clear hroom hpush hbs
      go_wp2_with (guard_target =~ wpList _ _ _ (⟨none, _, _, _, _, _⟩ :: _) _ _; refine wpList_store_mid rfl 23 (.tmp 17) (.tmp 16) rfl g (t * 32) (ocells c) rfl rfl RM.out (hszL CL.out) (ocells_one _) ?_)
      go_roundw
      case rel => exact ⟨t + 1, hlt, by go_num, PS.out, BS.out⟩
      case measure => simp [intOf]; omega
    · obtain rfl : t = 67 := by omega
      have ce := end_any wr (some ⟨g, 0, none⟩) 67 67 _ (S3.out.hss (rowOf_length _ _)) (by rw [rowOf_length]; decide) (HT.out.below (KW.out _ B3.out))
      rw [hv_agg] at ce
      have x1 := (B3.out.block _ (Array.getElem?_eq_some_iff.1 X1.out).1).trans X1.out
      have CE := Bx.mk ce; have Y1 := Bx.mk x1
      have hpl : (publicB s).length = 32 := sha_length _
      have PL := Bx.mk hpl
      clear ce x1 hlt ht hpl
      go_wp2_with fail
      refine CE.out.mono ?_
      rintro e w5 ⟨rfl, hb⟩
      have hb5 := B3.out.trans (hb.mono B3.out.size)
      have z1 := (hb.block _ (Array.getElem?_eq_some_iff.1 Y1.out).1).trans Y1.out
      have Z1 := Bx.mk z1; have KZ := Bx.mk (KW.out _ hb5)
      clear hb hb5 z1
      go_wp2_with (guard_target =~ wpList _ _ _ (⟨none, _, _, _, _, _⟩ :: _) _ _; refine wpList_store_row rfl 23 (.tmp 2) (.tmp 20) rfl (N + 1) (ocells (publicB s)) rfl rfl _ _ Z1.out (hszL PL.out) (hsoL PL.out) (ocells_one _) ?_)
      exact bodyPost_ret (results_cell_row rfl _ _ (N + 1) _ (ocells (publicB s)) _ _ rfl (setRow_heap _ _ _ _ _ _ Z1.out) underH rfl (hszL PL.out)) rfl ⟨rfl, below_setRow KZ.out (by have := HN.out; omega) _⟩
end Go.Proofs.YtohifpomdanmkaaGreatDoor
