/- Caches of string, int: Drop, Len. -/
import Derived.Test.YtdepmjgibenejaaDoorCaSC
namespace Go.Proofs.YtdepmjgibenejaaDoor
set_option maxRecDepth 100000
open Go.RowKit Go.Maps
set_option maxHeartbeats 1600000 in
theorem drop_missS (base : Nat) (w : World) (r most : Nat) (es : List (ByteArray × Int)) (B : Nat → Prop) (hbase : base ≤ w.heap.size) (h : CaXS base w r most es B) (k : ByteArray) (hk : kwS k) (hx : k ∉ es.map (·.1)) :
    Calls Tryd.prog 15 #[.pointer (some ⟨r, 0, none⟩), .string k] w fun e w' => e = .returned (.bool false) ∧ Below w.heap.size w w' := by
  obtain ⟨h0, bm, its, g, n, c, cur, fr, sf, D, o, m, v, hB⟩ := h
  have HKEY := Bx.mk (keyS hk)
  have c1 := er_cellAt m.hb 1 _ rfl
  have hmn := fun w => run_eql_map_nil (P := Tryd.prog) w 50 9 3 (some bm) Tryd.underlying50
  have HM := Bx.mk m.map; have HMM := Bx.mk m; have HV := Bx.mk v; have HB := Bx.mk hB; have HBS := Bx.mk hbase; have H1024 := Bx.mk h0
  have hh : Maps.has D (klS k) = false := by
    cases e : Maps.has D (klS k) with
    | false => rfl
    | true => exact absurd ((v.has k hk).1 e) hx
  clear m v hB hx hk h0 hbase
  go_enter Tryd.func15, Tryd.ntmps15
  go_wp2_with (at_lookup; refine wpList_lookup_own_ok_int _ rfl _ _ 50 rfl 9 3 .i64 lawS Tryd.underlying50 Tryd.underlying3 (zeroES _) bm (Maps.size D) D rfl HM.out _ _ rfl HKEY.out ?_; intro ci hat hwc; have HAT := Bx.mk hat; clear hat hwc)
  go_ret
  exact ⟨rfl, Below.refl _ _⟩
set_option maxHeartbeats 1600000 in
theorem drop_hitS (base : Nat) (w : World) (r most : Nat) (es : List (ByteArray × Int)) (B : Nat → Prop) (hbase : base ≤ w.heap.size) (h : CaXS base w r most es B) (k : ByteArray) (hk : kwS k) (t : Nat) (ht : t < es.length) (hke : es[t].1 = k) :
    Calls Tryd.prog 15 #[.pointer (some ⟨r, 0, none⟩), .string k] w fun e w' => e = .returned (.bool true) ∧ CaTS base w w' r most (es.eraseIdx t) B := by
  obtain ⟨h0, bm, its, g, n, c, cur, fr, sf, D, o, m, v, hB⟩ := h
  have HKEY := Bx.mk (keyS hk)
  have c1 := er_cellAt m.hb 1 _ rfl
  have hmn := fun w => run_eql_map_nil (P := Tryd.prog) w 50 9 3 (some bm) Tryd.underlying50
  have HM := Bx.mk m.map; have HMM := Bx.mk m; have HV := Bx.mk v; have HB := Bx.mk hB; have HBS := Bx.mk hbase; have H1024 := Bx.mk h0
  have hto : t < o.length := by rw [v.len]; exact ht
  have hh : Maps.has D (klS k) = true := (v.has k hk).2 (hke ▸ List.mem_map.2 ⟨_, List.getElem_mem ht, rfl⟩)
  have hat0 := v.at' _ (List.getElem_mem hto) _ (v.kvt ht) (.lit (.int .i64 0))
  rw [hke] at hat0
  obtain ⟨i, hi⟩ : ∃ i, i = o[t] := ⟨_, rfl⟩
  have cr := remove_anyS base w r bm most its g n c cur fr sf D m o es h0 v t ht hto hbase
  rw [← hi] at hat0 cr
  have AT := Bx.mk hat0; have CR := Bx.mk cr
  clear m v hB hk h0 hat0 hi hke cr hbase
  go_enter Tryd.func15, Tryd.ntmps15
  go_wp2_with (at_lookup; refine wpList_lookup_own_ok_int _ rfl _ _ 50 rfl 9 3 .i64 lawS Tryd.underlying50 Tryd.underlying3 (zeroES _) bm (Maps.size D) D rfl HM.out _ _ rfl HKEY.out ?_; intro ci hat hwc; have HAT := Bx.mk hat; clear hat hwc)
  obtain rfl : ci = (i : Int) := by
    have h1 := HAT.out
    rw [AT.out] at h1
    injection h1 with h1; injection h1 with _ h1; exact h1.symm
  clear c1
  refine CR.out.mono ?_
  rintro e w1 ⟨rfl, cur1, sf1, m1, v1, k1, hs1⟩
  have M1 := Bx.mk m1; have V1 := Bx.mk v1; have K1 := Bx.mk k1; have S1 := Bx.mk hs1
  clear m1 v1 k1 hs1 CR
  go_wp2_with fail
  go_ret
  refine ⟨rfl, CaB r bm g sf1, ⟨H1024.out, bm, _, g, n, c, cur1, _, sf1, _, _, M1.out, V1.out, fun k => Iff.rfl⟩, K1.out.mono (fun j _ hj => (HB.out j).2 hj), fun k hk => ?_⟩
  rcases hk with h | h | h | h
  · exact .inl ((HB.out k).2 (.inl h))
  · exact .inl ((HB.out k).2 (.inr (.inl h)))
  · exact .inl ((HB.out k).2 (.inr (.inr (.inl h))))
  · exact (S1.out k h).imp (fun h => (HB.out k).2 (.inr (.inr (.inr h)))) id
set_option maxHeartbeats 800000 in
theorem len_anyS (base : Nat) (w : World) (r most : Nat) (es : List (ByteArray × Int)) (B : Nat → Prop) (h : CaXS base w r most es B) : Calls Tryd.prog 16 #[.pointer (some ⟨r, 0, none⟩)] w fun e w' => e = .returned (.int .i64 (es.length : Int)) ∧ w' = w := by
  obtain ⟨h0, bm, its, g, n, c, cur, fr, sf, D, o, m, v, hB⟩ := h
  have c1 := er_cellAt m.hb 1 _ rfl
  have hs := v.size
  have HM := Bx.mk m.map
  clear m v hB h0
  go_enter Tryd.func16, Tryd.ntmps16
  go_wp2_with (at_len; refine wpList_len_own _ rfl _ 50 rfl 9 3 Tryd.underlying50 _ bm (Maps.size D) D rfl HM.out ?_)
  go_ret
  exact ⟨rfl, rfl⟩
set_option maxHeartbeats 800000 in
theorem get_deadS (w : World) (v : Value) (h : DeadXS w v) (k : ByteArray) : Calls Tryd.prog 14 #[v, .string k] w fun e w' => e = .returned (.tuple #[.int .i64 0, .bool false]) ∧ w' = w := by
  rcases h with rfl | ⟨b, rfl, hb⟩
  · go_enter Tryd.func14, Tryd.ntmps14
    go_wp2_with fail
    go_ret2
    exact ⟨rfl, rfl⟩
  · have c1 := er_cellAt hb 1 _ rfl
    have hmn := fun w => run_eql_map_nil (P := Tryd.prog) w 50 9 3 none Tryd.underlying50
    clear hb
    go_enter Tryd.func14, Tryd.ntmps14
    go_wp2_with fail
    go_ret2
    exact ⟨rfl, rfl⟩
set_option maxHeartbeats 800000 in
theorem put_deadS (w : World) (v : Value) (h : DeadXS w v) (k : ByteArray) (x : Int) : Calls Tryd.prog 13 #[v, .string k, .int .i64 x] w fun e w' => e = .returned (.tuple #[.string ⟨#[]⟩, .bool false]) ∧ w' = w := by
  rcases h with rfl | ⟨b, rfl, hb⟩
  · go_enter Tryd.func13, Tryd.ntmps13
    go_wp2_with fail
    go_ret2
    exact ⟨rfl, rfl⟩
  · have c1 := er_cellAt hb 1 _ rfl
    have hmn := fun w => run_eql_map_nil (P := Tryd.prog) w 50 9 3 none Tryd.underlying50
    clear hb
    go_enter Tryd.func13, Tryd.ntmps13
    go_wp2_with fail
    go_ret2
    exact ⟨rfl, rfl⟩
set_option maxHeartbeats 800000 in
theorem drop_deadS (w : World) (v : Value) (h : DeadXS w v) (k : ByteArray) : Calls Tryd.prog 15 #[v, .string k] w fun e w' => e = .returned (.bool false) ∧ w' = w := by
  rcases h with rfl | ⟨b, rfl, hb⟩
  · go_enter Tryd.func15, Tryd.ntmps15
    go_wp2_with fail
    go_ret
    exact ⟨rfl, rfl⟩
  · have c1 := er_cellAt hb 1 _ rfl
    have hmn := fun w => run_eql_map_nil (P := Tryd.prog) w 50 9 3 none Tryd.underlying50
    clear hb
    go_enter Tryd.func15, Tryd.ntmps15
    go_wp2_with fail
    go_ret
    exact ⟨rfl, rfl⟩
set_option maxHeartbeats 800000 in
theorem keys_deadS (w : World) (v : Value) (h : DeadXS w v) : Calls Tryd.prog 17 #[v] w fun e w' => e = .returned (.slice none 0 0) ∧ w' = w := by
  rcases h with rfl | ⟨b, rfl, hb⟩
  · go_enter Tryd.func17, Tryd.ntmps17
    go_wp2_with fail
    go_ret
    exact ⟨rfl, rfl⟩
  · have c1 := er_cellAt hb 1 _ rfl
    have hmn := fun w => run_eql_map_nil (P := Tryd.prog) w 50 9 3 none Tryd.underlying50
    clear hb
    go_enter Tryd.func17, Tryd.ntmps17
    go_wp2_with fail
    go_ret
    exact ⟨rfl, rfl⟩
set_option maxHeartbeats 800000 in
theorem len_deadS (w : World) (v : Value) (h : DeadXS w v) : Calls Tryd.prog 16 #[v] w fun e w' => e = .returned (.int .i64 0) ∧ w' = w := by
  rcases h with rfl | ⟨b, rfl, hb⟩
  · go_enter Tryd.func16, Tryd.ntmps16
    go_wp2_with fail
    go_ret
    exact ⟨rfl, rfl⟩
  · have c1 := er_cellAt hb 1 _ rfl
    have hmn := fun w => run_eql_map_nil (P := Tryd.prog) w 50 9 3 none Tryd.underlying50
    have hln := fun ty => Maps.len_nil (P := Tryd.prog) (w := w) Tryd.underlying50 ty
    clear hb
    go_enter Tryd.func16, Tryd.ntmps16
    go_wp2_with fail
    go_ret
    exact ⟨rfl, rfl⟩
end Go.Proofs.YtdepmjgibenejaaDoor
