/- Contracts of Go functions that the law FnOctaves reaches. Sections as the kit's print.sh wrote them for this seat, put together by a program of this session (own.py); impl_simplest, spec_l01New and the law itself are this session's. -/
import Derived.Test.YtfimodphnfejdaaQFnOctavesy4
namespace Go.Proofs.Ytfimodphnfejdaa.PFnOctaves
open Go.RowKit Go.Proofs.YtfimodphnfejdaaW.PrintWords Go.Proofs.YtfimodphnfejdaaW.PrintLast Go.Proofs.YtfimodphnfejdaaW.PrintMore
attribute [local go_sem] max2_int min2_int max_two min_two max_three min_three max_four min_four
set_option linter.unusedVariables false
set_option linter.unusedSimpArgs false

attribute [local go_sem high] eqA25
/-! ### impl_minus: function 51 -/
def impl_minus.f (k : Nat) (a0_0 : Int) (a0_1 : Int) (a0_2 : Int) (a0_3 : Int) (a1_0 : Int) (a1_1 : Int) (a1_2 : Int) (a1_3 : Int) : Option (Int × Int × Int × Int × Bool) := (impl_negated.f a1_0 a1_1 a1_2 a1_3).bind fun bt280 => ((impl_AddIntervals.f k a0_0 a0_1 a0_2 a0_3 bt280.1 bt280.2.1 bt280.2.2.1 bt280.2.2.2).bind fun bt284 => (some (bt284.1, bt284.2.1, bt284.2.2.1, bt284.2.2.2.1, bt284.2.2.2.2)))
def impl_minus.T1 : Bool × List (List Nat × List Nat) := (true, [([], []), ([], []), ([1], [1]), ([0, 2, 2], [0, 2]), ([3], [3]), ([4], [4]), ([4], [4]), ([], []), ([7, 5, 3, 0, 1, 2, 3, 4, 5, 7], [5, 7]), ([6, 8, 0, 1, 2, 3, 4, 5, 6, 7, 8], [6])])
def impl_minus.B1 : List Nat := [0, 0, 2, 7, 15, 31, 31, 0, 191, 511]
theorem impl_minus.tab1 : rtab .any (opsOf Try.f51 1) = impl_minus.T1 := by kernel_rfl
theorem impl_minus.bits1 : waitsOk impl_minus.T1.2 impl_minus.B1 = true := by kernel_rfl
set_option maxHeartbeats 8000000 in
set_option maxRecDepth 100000 in
theorem impl_minus.calls (k : Nat) (a0_0 : Int) (a0_1 : Int) (a0_2 : Int) (a0_3 : Int) (a1_0 : Int) (a1_1 : Int) (a1_2 : Int) (a1_3 : Int) (r1 : Int) (r2 : Int) (r3 : Int) (r4 : Int) (r5 : Bool) (w : World) (h : impl_minus.f k a0_0 a0_1 a0_2 a0_3 a1_0 a1_1 a1_2 a1_3 = some (r1, r2, r3, r4, r5)) :
    Calls Try.prog 51 #[.agg #[.int .i64 a0_0, .int .i64 a0_1, .int .i64 a0_2, .int .i64 a0_3], .agg #[.int .i64 a1_0, .int .i64 a1_1, .int .i64 a1_2, .int .i64 a1_3]] w fun e w' => e = .returned (.tuple #[.agg #[.int .i64 r1, .int .i64 r2, .int .i64 r3, .int .i64 r4], .bool r5]) ∧ Below w.heap.size w w' := by
  have hu25 := Try.underlying25
  have HB := mA (Below.refl w.heap.size w)
  have H : ((impl_negated.f a1_0 a1_1 a1_2 a1_3).bind fun bt280 => ((impl_AddIntervals.f k a0_0 a0_1 a0_2 a0_3 bt280.1 bt280.2.1 bt280.2.2.1 bt280.2.2.2).bind fun bt284 => (some (bt284.1, bt284.2.1, bt284.2.2.1, bt284.2.2.2.1, bt284.2.2.2.2)))) = some (r1, r2, r3, r4, r5) := h
  clear h
  replace H := Option.bind_eq_some_iff.mp H
  obtain ⟨⟨t280, t281, t282, t283⟩, A30, H⟩ := H
  replace H : ((impl_AddIntervals.f k a0_0 a0_1 a0_2 a0_3 t280 t281 t282 t283).bind fun bt284 => (some (bt284.1, bt284.2.1, bt284.2.2.1, bt284.2.2.2.1, bt284.2.2.2.2))) = some (r1, r2, r3, r4, r5) := H
  have A3 := mA A30
  clear A30
  replace H := Option.bind_eq_some_iff.mp H
  obtain ⟨⟨t284, t285, t286, t287, t288⟩, A40, H⟩ := H
  replace H : (some (t284, t285, t286, t287, t288)) = some (r1, r2, r3, r4, r5) := H
  have A4 := mA A40
  clear A40
  simp only [Option.some.injEq, Prod.mk.injEq] at H
  obtain ⟨rfl, rfl, rfl, rfl, rfl⟩ := H
  go_enter Try.func51, Try.ntmps51
  try go_wp2_with (first | ((with_reducible refine gate_dst (N := 2) rfl ?_); refine box_event ?hg (N := 2) ?hd (cs := #[.int .i64 a0_0, .int .i64 a0_1, .int .i64 a0_2, .int .i64 a0_3]) (t := 25) ?hr ?_; (case hd => rfl); (case hg => rfl); (case hr => first | (go_simp; done) | (go_simp; rfl)); intro Za hg w5 hbox hb; have n0_ := mA (below_step (by repeat (first | (with_reducible first | exact HB.out | apply below_alloc | apply pw_below_drewN | apply below_drew1) | exact HB.out)) hb); have n1_ := mA (hbox); have n2_ := mA ((by rw [hg]; exact (below_size (by repeat (first | (with_reducible first | exact HB.out | apply below_alloc | apply pw_below_drewN | apply below_drew1) | exact HB.out))) : w.heap.size ≤ Za)); have n3_ := mA ((by rw [hg]; exact (below_size (by repeat (first | (with_reducible first | exact HB.out | apply below_alloc | apply pw_below_drewN | apply below_drew1) | exact HB.out))) : w.heap.size ≤ Za)); clear HB; have HB := n0_; have Zb := n1_; have Zc := n2_; have Zd := n3_; clear n0_ n1_ n2_ n3_; clear hb hbox hg) | ((with_reducible refine gate_dst (N := 3) rfl ?_); refine box_event ?hg (N := 3) ?hd (cs := #[.int .i64 a1_0, .int .i64 a1_1, .int .i64 a1_2, .int .i64 a1_3]) (t := 25) ?hr ?_; (case hd => rfl); (case hg => rfl); (case hr => first | (go_simp; done) | (go_simp; rfl)); intro Ze hg w6 hbox hb; have n0_ := mA (blk_below (g := Za) (o := cQ25 a0_0 a0_1 a0_2 a0_3) Zb.out hb); have n1_ := mA (below_step (by repeat (first | (with_reducible first | exact HB.out | apply below_alloc | apply pw_below_drewN | apply below_drew1 | refine below_set ?_ Zd.out) | exact HB.out)) hb); have n2_ := mA (hbox); have n3_ := mA ((by rw [hg]; exact (below_size (by repeat (first | (with_reducible first | exact HB.out | apply below_alloc | apply pw_below_drewN | apply below_drew1 | refine below_set ?_ Zd.out) | exact HB.out))) : w.heap.size ≤ Ze)); have n4_ := mA ((by rw [hg]; exact (below_size (by repeat (first | (with_reducible first | exact HB.out | apply below_alloc | apply pw_below_drewN | apply below_drew1 | refine below_set ?_ Zd.out) | exact HB.out))) : w.heap.size ≤ Ze)); have n5_ := mA ((by rw [hg]; exact Nat.ne_of_lt (blk_lt (g := Za) (o := cQ25 a0_0 a0_1 a0_2 a0_3) Zb.out) : Za ≠ Ze)); have n6_ := mA ((by rw [hg]; exact Nat.ne_of_gt (blk_lt (g := Za) (o := cQ25 a0_0 a0_1 a0_2 a0_3) Zb.out) : Ze ≠ Za)); clear Zb; clear HB; have Zb := n0_; have HB := n1_; have Zf := n2_; have Zg := n3_; have Zh := n4_; have Zi := n5_; have Zj := n6_; clear n0_ n1_ n2_ n3_ n4_ n5_ n6_; clear hb hbox hg) | ((with_reducible refine gate_dst (N := 4) rfl ?_); refine box_event ?hg (N := 4) ?hd (cs := #[.int .i64 0, .int .i64 0, .int .i64 0, .int .i64 0]) (t := 25) ?hr ?_; (case hd => rfl); (case hg => rfl); (case hr => first | (go_simp; done) | (go_simp; rfl)); intro Zk hg w7 hbox hb; have n0_ := mA (blk_below (g := Za) (o := cQ25 a0_0 a0_1 a0_2 a0_3) Zb.out hb); have n1_ := mA (blk_below (g := Ze) (o := cQ25 a1_0 a1_1 a1_2 a1_3) Zf.out hb); have n2_ := mA (below_step (by repeat (first | (with_reducible first | exact HB.out | apply below_alloc | apply pw_below_drewN | apply below_drew1 | refine below_set ?_ Zd.out | refine below_set ?_ Zh.out) | exact HB.out)) hb); have n3_ := mA (hbox); have n4_ := mA ((by rw [hg]; exact (below_size (by repeat (first | (with_reducible first | exact HB.out | apply below_alloc | apply pw_below_drewN | apply below_drew1 | refine below_set ?_ Zd.out | refine below_set ?_ Zh.out) | exact HB.out))) : w.heap.size ≤ Zk)); have n5_ := mA ((by rw [hg]; exact (below_size (by repeat (first | (with_reducible first | exact HB.out | apply below_alloc | apply pw_below_drewN | apply below_drew1 | refine below_set ?_ Zd.out | refine below_set ?_ Zh.out) | exact HB.out))) : w.heap.size ≤ Zk)); have n6_ := mA ((by rw [hg]; exact Nat.ne_of_lt (blk_lt (g := Za) (o := cQ25 a0_0 a0_1 a0_2 a0_3) Zb.out) : Za ≠ Zk)); have n7_ := mA ((by rw [hg]; exact Nat.ne_of_gt (blk_lt (g := Za) (o := cQ25 a0_0 a0_1 a0_2 a0_3) Zb.out) : Zk ≠ Za)); have n8_ := mA ((by rw [hg]; exact Nat.ne_of_lt (blk_lt (g := Ze) (o := cQ25 a1_0 a1_1 a1_2 a1_3) Zf.out) : Ze ≠ Zk)); have n9_ := mA ((by rw [hg]; exact Nat.ne_of_gt (blk_lt (g := Ze) (o := cQ25 a1_0 a1_1 a1_2 a1_3) Zf.out) : Zk ≠ Ze)); clear Zb; clear Zf; clear HB; have Zb := n0_; have Zf := n1_; have HB := n2_; have Zm := n3_; have Zn := n4_; have Zp := n5_; have Zq := n6_; have Zr := n7_; have Zs := n8_; have Zt := n9_; clear n0_ n1_ n2_ n3_ n4_ n5_ n6_ n7_ n8_ n9_; clear hb hbox hg))
  have n0_ := mA (blk_drew Zb.out)
  have n1_ := mA (blk_drew Zf.out)
  have n2_ := mA (blk_drew Zm.out)
  have n3_ := mA (below_drew1 HB.out)
  clear Zb
  clear Zf
  clear Zm
  clear HB
  have Zb := n0_
  have Zf := n1_
  have Zm := n2_
  have HB := n3_
  clear n0_ n1_ n2_ n3_
  refine start_ (n := 10) (S := fun w' => w'.cell? ⟨Za, 0, none⟩ = some (.int .i64 a0_0) ∧ w'.cell? ⟨Za, 1, none⟩ = some (.int .i64 a0_1) ∧ w'.cell? ⟨Za, 2, none⟩ = some (.int .i64 a0_2) ∧ w'.cell? ⟨Za, 3, none⟩ = some (.int .i64 a0_3) ∧ w'.cell? ⟨Ze, 0, none⟩ = some (.int .i64 a1_0) ∧ w'.cell? ⟨Ze, 1, none⟩ = some (.int .i64 a1_1) ∧ w'.cell? ⟨Ze, 2, none⟩ = some (.int .i64 a1_2) ∧ w'.cell? ⟨Ze, 3, none⟩ = some (.int .i64 a1_3)) (ds := []) #[false, false, false, false, false, false, false, false, false, false] (by kernel_rfl) rfl rfl ⟨(blk_cell Zb.out 0).trans rfl, (blk_cell Zb.out 1).trans rfl, (blk_cell Zb.out 2).trans rfl, (blk_cell Zb.out 3).trans rfl, (blk_cell Zf.out 0).trans rfl, (blk_cell Zf.out 1).trans rfl, (blk_cell Zf.out 2).trans rfl, (blk_cell Zf.out 3).trans rfl⟩ (fun hHeld => ?_); refine with_tabW impl_minus.tab1 impl_minus.bits1 (fun HT_ HW_ => ?_)
  generalize w7.drew = w8 at Zb Zf Zm HB hHeld ⊢
  refine take_ (i := 0) (N := some 9) (v := ?_) (a' := ?_) #[true, false, false, false, false, false, false, false, false, false] rfl rfl (take_ofW HT_.out HW_.out (by kernel_rfl)) (fun _ _ _ h => h) (Or.inl ⟨by rfl, ?_⟩) hHeld ?_ ?_
  rotate_left
  · rintro w' ⟨s0, s1, s2, s3, s4, s5, s6, s7⟩
    go_simp
    with_reducible rfl
  rotate_left
  · simp only [Act.put, List.setIfInBounds_toArray, List.set_cons_zero, List.set_cons_succ, i64_w, i32_w]
    rfl
  refine take_ (i := 1) (N := some 10) (v := ?_) (a' := ?_) #[true, true, false, false, false, false, false, false, false, false] rfl rfl (take_ofW HT_.out HW_.out (by kernel_rfl)) (fun _ _ _ h => h) (Or.inl ⟨by rfl, ?_⟩) hHeld ?_ ?_
  rotate_left
  · rintro w' ⟨s0, s1, s2, s3, s4, s5, s6, s7⟩
    go_simp
    with_reducible rfl
  rotate_left
  · simp only [Act.put, List.setIfInBounds_toArray, List.set_cons_zero, List.set_cons_succ, i64_w, i32_w]
    rfl
  refine join_ (σ := Nat) 2 #[true, true, true, true, true, true, true, true, false, false] (fun s_ => [(11, .agg #[.int .i64 t280, .int .i64 t281, .int .i64 t282, .int .i64 t283]), (12, .tuple #[.agg #[.int .i64 t284, .int .i64 t285, .int .i64 t286, .int .i64 t287], .bool t288]), (6, .pointer (some ⟨s_, 0, none⟩)), (8, .tuple #[.agg #[.int .i64 t284, .int .i64 t285, .int .i64 t286, .int .i64 t287], .bool t288]), (13, .agg #[.int .i64 t284, .int .i64 t285, .int .i64 t286, .int .i64 t287]), (14, .bool t288)]) (fun s_ w' => (w'.cell? ⟨Za, 0, none⟩ = some (.int .i64 a0_0) ∧ w'.cell? ⟨Za, 1, none⟩ = some (.int .i64 a0_1) ∧ w'.cell? ⟨Za, 2, none⟩ = some (.int .i64 a0_2) ∧ w'.cell? ⟨Za, 3, none⟩ = some (.int .i64 a0_3) ∧ w'.cell? ⟨Ze, 0, none⟩ = some (.int .i64 a1_0) ∧ w'.cell? ⟨Ze, 1, none⟩ = some (.int .i64 a1_1) ∧ w'.cell? ⟨Ze, 2, none⟩ = some (.int .i64 a1_2) ∧ w'.cell? ⟨Ze, 3, none⟩ = some (.int .i64 a1_3)) ∧ (w'.heap[Za]? = some (.cells #[.int .i64 a0_0, .int .i64 a0_1, .int .i64 a0_2, .int .i64 a0_3] 25 (0, 0))) ∧ (w'.heap[Ze]? = some (.cells #[.int .i64 a1_0, .int .i64 a1_1, .int .i64 a1_2, .int .i64 a1_3] 25 (0, 0))) ∧ (w'.heap[Zk]? = some (.cells #[.int .i64 0, .int .i64 0, .int .i64 0, .int .i64 0] 25 (0, 0))) ∧ (w'.heap[s_]? = some (.cells #[.int .i64 0, .int .i64 0, .int .i64 0, .int .i64 0] 25 (0, 0))) ∧ (w.heap.size ≤ s_) ∧ (w.heap.size ≤ s_) ∧ (Za ≠ s_) ∧ (s_ ≠ Za) ∧ (Ze ≠ s_) ∧ (s_ ≠ Ze) ∧ (Zk ≠ s_) ∧ (s_ ≠ Zk) ∧ (Below w.heap.size w w')) ?_ ?_
  rotate_left
  · intro hCont
    refine two_ (i := 2) (j := 7) (Ni := some 11) (Nj := some 6) #[true, true, true, false, false, false, false, false, false, false] #[true, true, false, false, false, false, false, true, false, false] rfl rfl rfl rfl (two_of HT_.out (by kernel_rfl)) (by decide) (by decide) (fun K hK => ?_) (fun K hK => ?_)
    · skip
      refine goes_ Try.func65 (by kernel_rfl) rfl #[.agg #[.int .i64 a1_0, .int .i64 a1_1, .int .i64 a1_2, .int .i64 a1_3]] (by rfl) rfl rfl (by (try simp only [List.map_toArray, List.map_cons, List.map_nil]); first | done | rfl | (simp only [List.length_drop, List.length_take]; rfl)) ?_
      with_reducible refine (impl_negated.calls a1_0 a1_1 a1_2 a1_3 t280 t281 t282 t283 _ A3.out).mono ?_
      rintro e w9 ⟨rfl, hb⟩
      refine ⟨_, rfl, ?_⟩
      have n0_ := mA (blk_below (g := Za) (o := cQ25 a0_0 a0_1 a0_2 a0_3) Zb.out hb)
      have n1_ := mA (blk_below (g := Ze) (o := cQ25 a1_0 a1_1 a1_2 a1_3) Zf.out hb)
      have n2_ := mA (blk_below (g := Zk) (o := cQ25 0 0 0 0) Zm.out hb)
      have n3_ := mA (below_step (by repeat (first | (with_reducible first | exact HB.out | apply below_alloc | apply pw_below_drewN | apply below_drew1 | refine below_set ?_ Zd.out | refine below_set ?_ Zh.out | refine below_set ?_ Zp.out) | exact HB.out)) hb)
      clear Zb
      clear Zf
      clear Zm
      clear HB
      have Zb := n0_
      have Zf := n1_
      have Zm := n2_
      have HB := n3_
      clear n0_ n1_ n2_ n3_
      (try clear hb)
      (try clear hb2)
      (try clear hk)
      (try clear hi)
      refine hK.out _ _ ⟨(blk_cell Zb.out 0).trans rfl, (blk_cell Zb.out 1).trans rfl, (blk_cell Zb.out 2).trans rfl, (blk_cell Zb.out 3).trans rfl, (blk_cell Zf.out 0).trans rfl, (blk_cell Zf.out 1).trans rfl, (blk_cell Zf.out 2).trans rfl, (blk_cell Zf.out 3).trans rfl⟩ (fun hHeld => ?_)
      clear hK K
      refine norm_ (a' := ?_) ?_ ?_
      rotate_left
      · show Act.put _ (some 11) _ = _
        simp only [Act.put, List.setIfInBounds_toArray, List.set_cons_zero, List.set_cons_succ, i64_w, i32_w]
        rfl
      refine two_ (i := 3) (j := 7) (Ni := some 12) (Nj := some 6) #[true, true, true, true, false, false, false, false, false, false] #[true, true, true, false, false, false, false, true, false, false] rfl rfl rfl rfl (two_of HT_.out (by kernel_rfl)) (by decide) (by decide) (fun K hK => ?_) (fun K hK => ?_)
      · skip
        refine goes_ Try.func24 (by kernel_rfl) rfl #[.agg #[.int .i64 a0_0, .int .i64 a0_1, .int .i64 a0_2, .int .i64 a0_3], .agg #[.int .i64 t280, .int .i64 t281, .int .i64 t282, .int .i64 t283]] (by rfl) rfl rfl (by (try simp only [List.map_toArray, List.map_cons, List.map_nil]); first | done | rfl | (simp only [List.length_drop, List.length_take]; rfl)) ?_
        with_reducible refine (impl_AddIntervals.calls k a0_0 a0_1 a0_2 a0_3 t280 t281 t282 t283 t284 t285 t286 t287 t288 _ A4.out).mono ?_
        rintro e w10 ⟨rfl, hb⟩
        refine ⟨_, rfl, ?_⟩
        have n0_ := mA (blk_below (g := Za) (o := cQ25 a0_0 a0_1 a0_2 a0_3) Zb.out hb)
        have n1_ := mA (blk_below (g := Ze) (o := cQ25 a1_0 a1_1 a1_2 a1_3) Zf.out hb)
        have n2_ := mA (blk_below (g := Zk) (o := cQ25 0 0 0 0) Zm.out hb)
        have n3_ := mA (below_step (by repeat (first | (with_reducible first | exact HB.out | apply below_alloc | apply pw_below_drewN | apply below_drew1 | refine below_set ?_ Zd.out | refine below_set ?_ Zh.out | refine below_set ?_ Zp.out) | exact HB.out)) hb)
        clear Zb
        clear Zf
        clear Zm
        clear HB
        have Zb := n0_
        have Zf := n1_
        have Zm := n2_
        have HB := n3_
        clear n0_ n1_ n2_ n3_
        (try clear hb)
        (try clear hb2)
        (try clear hk)
        (try clear hi)
        refine hK.out _ _ ⟨(blk_cell Zb.out 0).trans rfl, (blk_cell Zb.out 1).trans rfl, (blk_cell Zb.out 2).trans rfl, (blk_cell Zb.out 3).trans rfl, (blk_cell Zf.out 0).trans rfl, (blk_cell Zf.out 1).trans rfl, (blk_cell Zf.out 2).trans rfl, (blk_cell Zf.out 3).trans rfl⟩ (fun hHeld => ?_)
        clear hK K
        refine norm_ (a' := ?_) ?_ ?_
        rotate_left
        · show Act.put _ (some 12) _ = _
          simp only [Act.put, List.setIfInBounds_toArray, List.set_cons_zero, List.set_cons_succ, i64_w, i32_w]
          rfl
        refine pure_ (i := 4) (N := some 8) (v := ?_) (a' := ?_) #[true, true, true, true, true, false, false, false, false, false] rfl rfl (any_of HT_.out (by kernel_rfl)) (fun _ _ _ h => h) (Or.inl ⟨by rfl, ?_⟩) ?_ ?_
        rotate_left
        · intro w'
          go_simp
          with_reducible rfl
        rotate_left
        · simp only [Act.put, List.setIfInBounds_toArray, List.set_cons_zero, List.set_cons_succ, i64_w, i32_w]
          rfl
        refine pure_ (i := 5) (N := some 13) (v := ?_) (a' := ?_) #[true, true, true, true, true, true, false, false, false, false] rfl rfl (any_of HT_.out (by kernel_rfl)) (fun _ _ _ h => h) (Or.inl ⟨by rfl, ?_⟩) ?_ ?_
        rotate_left
        · intro w'
          go_simp
          with_reducible rfl
        rotate_left
        · simp only [Act.put, List.setIfInBounds_toArray, List.set_cons_zero, List.set_cons_succ, i64_w, i32_w]
          rfl
        refine pure_ (i := 6) (N := some 14) (v := ?_) (a' := ?_) #[true, true, true, true, true, true, true, false, false, false] rfl rfl (any_of HT_.out (by kernel_rfl)) (fun _ _ _ h => h) (Or.inl ⟨by rfl, ?_⟩) ?_ ?_
        rotate_left
        · intro w'
          go_simp
          with_reducible rfl
        rotate_left
        · simp only [Act.put, List.setIfInBounds_toArray, List.set_cons_zero, List.set_cons_succ, i64_w, i32_w]
          rfl
        refine one_ (i := 7) (N := some 6) #[true, true, true, true, true, true, true, true, false, false] rfl rfl (one_of HT_.out (by kernel_rfl)) (by decide) (fun K hK => ?_)
        refine box_step ?hg (N := 6) ?hd (cs := #[.int .i64 0, .int .i64 0, .int .i64 0, .int .i64 0]) (t := 25) ?hr ?_; (case hd => rfl); (case hg => rfl); (case hr => first | (go_simp; done) | (go_simp; rfl))
        intro Zu hg w11 hbox hb
        have n0_ := mA (blk_below (g := Za) (o := cQ25 a0_0 a0_1 a0_2 a0_3) Zb.out hb)
        have n1_ := mA (blk_below (g := Ze) (o := cQ25 a1_0 a1_1 a1_2 a1_3) Zf.out hb)
        have n2_ := mA (blk_below (g := Zk) (o := cQ25 0 0 0 0) Zm.out hb)
        have n3_ := mA (below_step (by repeat (first | (with_reducible first | exact HB.out | apply below_alloc | apply pw_below_drewN | apply below_drew1 | refine below_set ?_ Zd.out | refine below_set ?_ Zh.out | refine below_set ?_ Zp.out) | exact HB.out)) hb)
        have n4_ := mA (hbox)
        have n5_ := mA ((by rw [hg]; exact (below_size (by repeat (first | (with_reducible first | exact HB.out | apply below_alloc | apply pw_below_drewN | apply below_drew1 | refine below_set ?_ Zd.out | refine below_set ?_ Zh.out | refine below_set ?_ Zp.out) | exact HB.out))) : w.heap.size ≤ Zu))
        have n6_ := mA ((by rw [hg]; exact (below_size (by repeat (first | (with_reducible first | exact HB.out | apply below_alloc | apply pw_below_drewN | apply below_drew1 | refine below_set ?_ Zd.out | refine below_set ?_ Zh.out | refine below_set ?_ Zp.out) | exact HB.out))) : w.heap.size ≤ Zu))
        have n7_ := mA ((by rw [hg]; exact Nat.ne_of_lt (blk_lt (g := Za) (o := cQ25 a0_0 a0_1 a0_2 a0_3) Zb.out) : Za ≠ Zu))
        have n8_ := mA ((by rw [hg]; exact Nat.ne_of_gt (blk_lt (g := Za) (o := cQ25 a0_0 a0_1 a0_2 a0_3) Zb.out) : Zu ≠ Za))
        have n9_ := mA ((by rw [hg]; exact Nat.ne_of_lt (blk_lt (g := Ze) (o := cQ25 a1_0 a1_1 a1_2 a1_3) Zf.out) : Ze ≠ Zu))
        have n10_ := mA ((by rw [hg]; exact Nat.ne_of_gt (blk_lt (g := Ze) (o := cQ25 a1_0 a1_1 a1_2 a1_3) Zf.out) : Zu ≠ Ze))
        have n11_ := mA ((by rw [hg]; exact Nat.ne_of_lt (blk_lt (g := Zk) (o := cQ25 0 0 0 0) Zm.out) : Zk ≠ Zu))
        have n12_ := mA ((by rw [hg]; exact Nat.ne_of_gt (blk_lt (g := Zk) (o := cQ25 0 0 0 0) Zm.out) : Zu ≠ Zk))
        clear Zb
        clear Zf
        clear Zm
        clear HB
        have Zb := n0_
        have Zf := n1_
        have Zm := n2_
        have HB := n3_
        have Zv := n4_
        have Zw := n5_
        have Zx := n6_
        have Zy := n7_
        have Zz := n8_
        have Zba := n9_
        have Zbb := n10_
        have Zbc := n11_
        have Zbd := n12_
        clear n0_ n1_ n2_ n3_ n4_ n5_ n6_ n7_ n8_ n9_ n10_ n11_ n12_
        clear hb hbox hg
        refine hK.out _ _ ⟨(blk_cell Zb.out 0).trans rfl, (blk_cell Zb.out 1).trans rfl, (blk_cell Zb.out 2).trans rfl, (blk_cell Zb.out 3).trans rfl, (blk_cell Zf.out 0).trans rfl, (blk_cell Zf.out 1).trans rfl, (blk_cell Zf.out 2).trans rfl, (blk_cell Zf.out 3).trans rfl⟩ (fun hHeld => ?_)
        clear hK K
        refine norm_ (a' := ?_) ?_ ?_
        rotate_left
        · show Act.put _ (some 6) _ = _
          simp only [Act.put, List.setIfInBounds_toArray, List.set_cons_zero, List.set_cons_succ, i64_w, i32_w]
          rfl
        exact norm_ (by simp only [putAll, Act.put, List.setIfInBounds_toArray, List.set_cons_zero, List.set_cons_succ]) (hCont (Zu) _ ⟨hHeld, Zb.out, Zf.out, Zm.out, Zv.out, Zw.out, Zx.out, Zy.out, Zz.out, Zba.out, Zbb.out, Zbc.out, Zbd.out, (by repeat (first | (with_reducible first | exact HB.out | apply below_alloc | apply pw_below_drewN | apply below_drew1 | refine below_set ?_ Zd.out | refine below_set ?_ Zh.out | refine below_set ?_ Zp.out | refine below_set ?_ Zx.out) | exact HB.out))⟩)
      · skip
        refine box_step ?hg (N := 6) ?hd (cs := #[.int .i64 0, .int .i64 0, .int .i64 0, .int .i64 0]) (t := 25) ?hr ?_; (case hd => rfl); (case hg => rfl); (case hr => first | (go_simp; done) | (go_simp; rfl))
        intro Zu hg w10 hbox hb
        have n0_ := mA (blk_below (g := Za) (o := cQ25 a0_0 a0_1 a0_2 a0_3) Zb.out hb)
        have n1_ := mA (blk_below (g := Ze) (o := cQ25 a1_0 a1_1 a1_2 a1_3) Zf.out hb)
        have n2_ := mA (blk_below (g := Zk) (o := cQ25 0 0 0 0) Zm.out hb)
        have n3_ := mA (below_step (by repeat (first | (with_reducible first | exact HB.out | apply below_alloc | apply pw_below_drewN | apply below_drew1 | refine below_set ?_ Zd.out | refine below_set ?_ Zh.out | refine below_set ?_ Zp.out) | exact HB.out)) hb)
        have n4_ := mA (hbox)
        have n5_ := mA ((by rw [hg]; exact (below_size (by repeat (first | (with_reducible first | exact HB.out | apply below_alloc | apply pw_below_drewN | apply below_drew1 | refine below_set ?_ Zd.out | refine below_set ?_ Zh.out | refine below_set ?_ Zp.out) | exact HB.out))) : w.heap.size ≤ Zu))
        have n6_ := mA ((by rw [hg]; exact (below_size (by repeat (first | (with_reducible first | exact HB.out | apply below_alloc | apply pw_below_drewN | apply below_drew1 | refine below_set ?_ Zd.out | refine below_set ?_ Zh.out | refine below_set ?_ Zp.out) | exact HB.out))) : w.heap.size ≤ Zu))
        have n7_ := mA ((by rw [hg]; exact Nat.ne_of_lt (blk_lt (g := Za) (o := cQ25 a0_0 a0_1 a0_2 a0_3) Zb.out) : Za ≠ Zu))
        have n8_ := mA ((by rw [hg]; exact Nat.ne_of_gt (blk_lt (g := Za) (o := cQ25 a0_0 a0_1 a0_2 a0_3) Zb.out) : Zu ≠ Za))
        have n9_ := mA ((by rw [hg]; exact Nat.ne_of_lt (blk_lt (g := Ze) (o := cQ25 a1_0 a1_1 a1_2 a1_3) Zf.out) : Ze ≠ Zu))
        have n10_ := mA ((by rw [hg]; exact Nat.ne_of_gt (blk_lt (g := Ze) (o := cQ25 a1_0 a1_1 a1_2 a1_3) Zf.out) : Zu ≠ Ze))
        have n11_ := mA ((by rw [hg]; exact Nat.ne_of_lt (blk_lt (g := Zk) (o := cQ25 0 0 0 0) Zm.out) : Zk ≠ Zu))
        have n12_ := mA ((by rw [hg]; exact Nat.ne_of_gt (blk_lt (g := Zk) (o := cQ25 0 0 0 0) Zm.out) : Zu ≠ Zk))
        clear Zb
        clear Zf
        clear Zm
        clear HB
        have Zb := n0_
        have Zf := n1_
        have Zm := n2_
        have HB := n3_
        have Zv := n4_
        have Zw := n5_
        have Zx := n6_
        have Zy := n7_
        have Zz := n8_
        have Zba := n9_
        have Zbb := n10_
        have Zbc := n11_
        have Zbd := n12_
        clear n0_ n1_ n2_ n3_ n4_ n5_ n6_ n7_ n8_ n9_ n10_ n11_ n12_
        clear hb hbox hg
        refine hK.out _ _ ⟨(blk_cell Zb.out 0).trans rfl, (blk_cell Zb.out 1).trans rfl, (blk_cell Zb.out 2).trans rfl, (blk_cell Zb.out 3).trans rfl, (blk_cell Zf.out 0).trans rfl, (blk_cell Zf.out 1).trans rfl, (blk_cell Zf.out 2).trans rfl, (blk_cell Zf.out 3).trans rfl⟩ (fun hHeld => ?_)
        clear hK K
        refine norm_ (a' := ?_) ?_ ?_
        rotate_left
        · show Act.put _ (some 6) _ = _
          simp only [Act.put, List.setIfInBounds_toArray, List.set_cons_zero, List.set_cons_succ, i64_w, i32_w]
          rfl
        refine one_ (i := 3) (N := some 12) #[true, true, true, true, false, false, false, true, false, false] rfl rfl (one_of HT_.out (by kernel_rfl)) (by decide) (fun K hK => ?_)
        refine goes_ Try.func24 (by kernel_rfl) rfl #[.agg #[.int .i64 a0_0, .int .i64 a0_1, .int .i64 a0_2, .int .i64 a0_3], .agg #[.int .i64 t280, .int .i64 t281, .int .i64 t282, .int .i64 t283]] (by rfl) rfl rfl (by (try simp only [List.map_toArray, List.map_cons, List.map_nil]); first | done | rfl | (simp only [List.length_drop, List.length_take]; rfl)) ?_
        with_reducible refine (impl_AddIntervals.calls k a0_0 a0_1 a0_2 a0_3 t280 t281 t282 t283 t284 t285 t286 t287 t288 _ A4.out).mono ?_
        rintro e w11 ⟨rfl, hb⟩
        refine ⟨_, rfl, ?_⟩
        have n0_ := mA (blk_below (g := Za) (o := cQ25 a0_0 a0_1 a0_2 a0_3) Zb.out hb)
        have n1_ := mA (blk_below (g := Ze) (o := cQ25 a1_0 a1_1 a1_2 a1_3) Zf.out hb)
        have n2_ := mA (blk_below (g := Zk) (o := cQ25 0 0 0 0) Zm.out hb)
        have n3_ := mA (blk_below (g := Zu) (o := cQ25 0 0 0 0) Zv.out hb)
        have n4_ := mA (below_step (by repeat (first | (with_reducible first | exact HB.out | apply below_alloc | apply pw_below_drewN | apply below_drew1 | refine below_set ?_ Zd.out | refine below_set ?_ Zh.out | refine below_set ?_ Zp.out | refine below_set ?_ Zx.out) | exact HB.out)) hb)
        clear Zb
        clear Zf
        clear Zm
        clear Zv
        clear HB
        have Zb := n0_
        have Zf := n1_
        have Zm := n2_
        have Zv := n3_
        have HB := n4_
        clear n0_ n1_ n2_ n3_ n4_
        (try clear hb)
        (try clear hb2)
        (try clear hk)
        (try clear hi)
        refine hK.out _ _ ⟨(blk_cell Zb.out 0).trans rfl, (blk_cell Zb.out 1).trans rfl, (blk_cell Zb.out 2).trans rfl, (blk_cell Zb.out 3).trans rfl, (blk_cell Zf.out 0).trans rfl, (blk_cell Zf.out 1).trans rfl, (blk_cell Zf.out 2).trans rfl, (blk_cell Zf.out 3).trans rfl⟩ (fun hHeld => ?_)
        clear hK K
        refine norm_ (a' := ?_) ?_ ?_
        rotate_left
        · show Act.put _ (some 12) _ = _
          simp only [Act.put, List.setIfInBounds_toArray, List.set_cons_zero, List.set_cons_succ, i64_w, i32_w]
          rfl
        refine pure_ (i := 4) (N := some 8) (v := ?_) (a' := ?_) #[true, true, true, true, true, false, false, true, false, false] rfl rfl (any_of HT_.out (by kernel_rfl)) (fun _ _ _ h => h) (Or.inl ⟨by rfl, ?_⟩) ?_ ?_
        rotate_left
        · intro w'
          go_simp
          with_reducible rfl
        rotate_left
        · simp only [Act.put, List.setIfInBounds_toArray, List.set_cons_zero, List.set_cons_succ, i64_w, i32_w]
          rfl
        refine pure_ (i := 5) (N := some 13) (v := ?_) (a' := ?_) #[true, true, true, true, true, true, false, true, false, false] rfl rfl (any_of HT_.out (by kernel_rfl)) (fun _ _ _ h => h) (Or.inl ⟨by rfl, ?_⟩) ?_ ?_
        rotate_left
        · intro w'
          go_simp
          with_reducible rfl
        rotate_left
        · simp only [Act.put, List.setIfInBounds_toArray, List.set_cons_zero, List.set_cons_succ, i64_w, i32_w]
          rfl
        refine pure_ (i := 6) (N := some 14) (v := ?_) (a' := ?_) #[true, true, true, true, true, true, true, true, false, false] rfl rfl (any_of HT_.out (by kernel_rfl)) (fun _ _ _ h => h) (Or.inl ⟨by rfl, ?_⟩) ?_ ?_
        rotate_left
        · intro w'
          go_simp
          with_reducible rfl
        rotate_left
        · simp only [Act.put, List.setIfInBounds_toArray, List.set_cons_zero, List.set_cons_succ, i64_w, i32_w]
          rfl
        exact norm_ (by simp only [putAll, Act.put, List.setIfInBounds_toArray, List.set_cons_zero, List.set_cons_succ]) (hCont (Zu) _ ⟨hHeld, Zb.out, Zf.out, Zm.out, Zv.out, Zw.out, Zx.out, Zy.out, Zz.out, Zba.out, Zbb.out, Zbc.out, Zbd.out, (by repeat (first | (with_reducible first | exact HB.out | apply below_alloc | apply pw_below_drewN | apply below_drew1 | refine below_set ?_ Zd.out | refine below_set ?_ Zh.out | refine below_set ?_ Zp.out | refine below_set ?_ Zx.out) | exact HB.out))⟩)
    · skip
      refine box_step ?hg (N := 6) ?hd (cs := #[.int .i64 0, .int .i64 0, .int .i64 0, .int .i64 0]) (t := 25) ?hr ?_; (case hd => rfl); (case hg => rfl); (case hr => first | (go_simp; done) | (go_simp; rfl))
      intro Zu hg w9 hbox hb
      have n0_ := mA (blk_below (g := Za) (o := cQ25 a0_0 a0_1 a0_2 a0_3) Zb.out hb)
      have n1_ := mA (blk_below (g := Ze) (o := cQ25 a1_0 a1_1 a1_2 a1_3) Zf.out hb)
      have n2_ := mA (blk_below (g := Zk) (o := cQ25 0 0 0 0) Zm.out hb)
      have n3_ := mA (below_step (by repeat (first | (with_reducible first | exact HB.out | apply below_alloc | apply pw_below_drewN | apply below_drew1 | refine below_set ?_ Zd.out | refine below_set ?_ Zh.out | refine below_set ?_ Zp.out) | exact HB.out)) hb)
      have n4_ := mA (hbox)
      have n5_ := mA ((by rw [hg]; exact (below_size (by repeat (first | (with_reducible first | exact HB.out | apply below_alloc | apply pw_below_drewN | apply below_drew1 | refine below_set ?_ Zd.out | refine below_set ?_ Zh.out | refine below_set ?_ Zp.out) | exact HB.out))) : w.heap.size ≤ Zu))
      have n6_ := mA ((by rw [hg]; exact (below_size (by repeat (first | (with_reducible first | exact HB.out | apply below_alloc | apply pw_below_drewN | apply below_drew1 | refine below_set ?_ Zd.out | refine below_set ?_ Zh.out | refine below_set ?_ Zp.out) | exact HB.out))) : w.heap.size ≤ Zu))
      have n7_ := mA ((by rw [hg]; exact Nat.ne_of_lt (blk_lt (g := Za) (o := cQ25 a0_0 a0_1 a0_2 a0_3) Zb.out) : Za ≠ Zu))
      have n8_ := mA ((by rw [hg]; exact Nat.ne_of_gt (blk_lt (g := Za) (o := cQ25 a0_0 a0_1 a0_2 a0_3) Zb.out) : Zu ≠ Za))
      have n9_ := mA ((by rw [hg]; exact Nat.ne_of_lt (blk_lt (g := Ze) (o := cQ25 a1_0 a1_1 a1_2 a1_3) Zf.out) : Ze ≠ Zu))
      have n10_ := mA ((by rw [hg]; exact Nat.ne_of_gt (blk_lt (g := Ze) (o := cQ25 a1_0 a1_1 a1_2 a1_3) Zf.out) : Zu ≠ Ze))
      have n11_ := mA ((by rw [hg]; exact Nat.ne_of_lt (blk_lt (g := Zk) (o := cQ25 0 0 0 0) Zm.out) : Zk ≠ Zu))
      have n12_ := mA ((by rw [hg]; exact Nat.ne_of_gt (blk_lt (g := Zk) (o := cQ25 0 0 0 0) Zm.out) : Zu ≠ Zk))
      clear Zb
      clear Zf
      clear Zm
      clear HB
      have Zb := n0_
      have Zf := n1_
      have Zm := n2_
      have HB := n3_
      have Zv := n4_
      have Zw := n5_
      have Zx := n6_
      have Zy := n7_
      have Zz := n8_
      have Zba := n9_
      have Zbb := n10_
      have Zbc := n11_
      have Zbd := n12_
      clear n0_ n1_ n2_ n3_ n4_ n5_ n6_ n7_ n8_ n9_ n10_ n11_ n12_
      clear hb hbox hg
      refine hK.out _ _ ⟨(blk_cell Zb.out 0).trans rfl, (blk_cell Zb.out 1).trans rfl, (blk_cell Zb.out 2).trans rfl, (blk_cell Zb.out 3).trans rfl, (blk_cell Zf.out 0).trans rfl, (blk_cell Zf.out 1).trans rfl, (blk_cell Zf.out 2).trans rfl, (blk_cell Zf.out 3).trans rfl⟩ (fun hHeld => ?_)
      clear hK K
      refine norm_ (a' := ?_) ?_ ?_
      rotate_left
      · show Act.put _ (some 6) _ = _
        simp only [Act.put, List.setIfInBounds_toArray, List.set_cons_zero, List.set_cons_succ, i64_w, i32_w]
        rfl
      refine one_ (i := 2) (N := some 11) #[true, true, true, false, false, false, false, true, false, false] rfl rfl (one_of HT_.out (by kernel_rfl)) (by decide) (fun K hK => ?_)
      refine goes_ Try.func65 (by kernel_rfl) rfl #[.agg #[.int .i64 a1_0, .int .i64 a1_1, .int .i64 a1_2, .int .i64 a1_3]] (by rfl) rfl rfl (by (try simp only [List.map_toArray, List.map_cons, List.map_nil]); first | done | rfl | (simp only [List.length_drop, List.length_take]; rfl)) ?_
      with_reducible refine (impl_negated.calls a1_0 a1_1 a1_2 a1_3 t280 t281 t282 t283 _ A3.out).mono ?_
      rintro e w10 ⟨rfl, hb⟩
      refine ⟨_, rfl, ?_⟩
      have n0_ := mA (blk_below (g := Za) (o := cQ25 a0_0 a0_1 a0_2 a0_3) Zb.out hb)
      have n1_ := mA (blk_below (g := Ze) (o := cQ25 a1_0 a1_1 a1_2 a1_3) Zf.out hb)
      have n2_ := mA (blk_below (g := Zk) (o := cQ25 0 0 0 0) Zm.out hb)
      have n3_ := mA (blk_below (g := Zu) (o := cQ25 0 0 0 0) Zv.out hb)
      have n4_ := mA (below_step (by repeat (first | (with_reducible first | exact HB.out | apply below_alloc | apply pw_below_drewN | apply below_drew1 | refine below_set ?_ Zd.out | refine below_set ?_ Zh.out | refine below_set ?_ Zp.out | refine below_set ?_ Zx.out) | exact HB.out)) hb)
      clear Zb
      clear Zf
      clear Zm
      clear Zv
      clear HB
      have Zb := n0_
      have Zf := n1_
      have Zm := n2_
      have Zv := n3_
      have HB := n4_
      clear n0_ n1_ n2_ n3_ n4_
      (try clear hb)
      (try clear hb2)
      (try clear hk)
      (try clear hi)
      refine hK.out _ _ ⟨(blk_cell Zb.out 0).trans rfl, (blk_cell Zb.out 1).trans rfl, (blk_cell Zb.out 2).trans rfl, (blk_cell Zb.out 3).trans rfl, (blk_cell Zf.out 0).trans rfl, (blk_cell Zf.out 1).trans rfl, (blk_cell Zf.out 2).trans rfl, (blk_cell Zf.out 3).trans rfl⟩ (fun hHeld => ?_)
      clear hK K
      refine norm_ (a' := ?_) ?_ ?_
      rotate_left
      · show Act.put _ (some 11) _ = _
        simp only [Act.put, List.setIfInBounds_toArray, List.set_cons_zero, List.set_cons_succ, i64_w, i32_w]
        rfl
      refine one_ (i := 3) (N := some 12) #[true, true, true, true, false, false, false, true, false, false] rfl rfl (one_of HT_.out (by kernel_rfl)) (by decide) (fun K hK => ?_)
      refine goes_ Try.func24 (by kernel_rfl) rfl #[.agg #[.int .i64 a0_0, .int .i64 a0_1, .int .i64 a0_2, .int .i64 a0_3], .agg #[.int .i64 t280, .int .i64 t281, .int .i64 t282, .int .i64 t283]] (by rfl) rfl rfl (by (try simp only [List.map_toArray, List.map_cons, List.map_nil]); first | done | rfl | (simp only [List.length_drop, List.length_take]; rfl)) ?_
      with_reducible refine (impl_AddIntervals.calls k a0_0 a0_1 a0_2 a0_3 t280 t281 t282 t283 t284 t285 t286 t287 t288 _ A4.out).mono ?_
      rintro e w11 ⟨rfl, hb⟩
      refine ⟨_, rfl, ?_⟩
      have n0_ := mA (blk_below (g := Za) (o := cQ25 a0_0 a0_1 a0_2 a0_3) Zb.out hb)
      have n1_ := mA (blk_below (g := Ze) (o := cQ25 a1_0 a1_1 a1_2 a1_3) Zf.out hb)
      have n2_ := mA (blk_below (g := Zk) (o := cQ25 0 0 0 0) Zm.out hb)
      have n3_ := mA (blk_below (g := Zu) (o := cQ25 0 0 0 0) Zv.out hb)
      have n4_ := mA (below_step (by repeat (first | (with_reducible first | exact HB.out | apply below_alloc | apply pw_below_drewN | apply below_drew1 | refine below_set ?_ Zd.out | refine below_set ?_ Zh.out | refine below_set ?_ Zp.out | refine below_set ?_ Zx.out) | exact HB.out)) hb)
      clear Zb
      clear Zf
      clear Zm
      clear Zv
      clear HB
      have Zb := n0_
      have Zf := n1_
      have Zm := n2_
      have Zv := n3_
      have HB := n4_
      clear n0_ n1_ n2_ n3_ n4_
      (try clear hb)
      (try clear hb2)
      (try clear hk)
      (try clear hi)
      refine hK.out _ _ ⟨(blk_cell Zb.out 0).trans rfl, (blk_cell Zb.out 1).trans rfl, (blk_cell Zb.out 2).trans rfl, (blk_cell Zb.out 3).trans rfl, (blk_cell Zf.out 0).trans rfl, (blk_cell Zf.out 1).trans rfl, (blk_cell Zf.out 2).trans rfl, (blk_cell Zf.out 3).trans rfl⟩ (fun hHeld => ?_)
      clear hK K
      refine norm_ (a' := ?_) ?_ ?_
      rotate_left
      · show Act.put _ (some 12) _ = _
        simp only [Act.put, List.setIfInBounds_toArray, List.set_cons_zero, List.set_cons_succ, i64_w, i32_w]
        rfl
      refine pure_ (i := 4) (N := some 8) (v := ?_) (a' := ?_) #[true, true, true, true, true, false, false, true, false, false] rfl rfl (any_of HT_.out (by kernel_rfl)) (fun _ _ _ h => h) (Or.inl ⟨by rfl, ?_⟩) ?_ ?_
      rotate_left
      · intro w'
        go_simp
        with_reducible rfl
      rotate_left
      · simp only [Act.put, List.setIfInBounds_toArray, List.set_cons_zero, List.set_cons_succ, i64_w, i32_w]
        rfl
      refine pure_ (i := 5) (N := some 13) (v := ?_) (a' := ?_) #[true, true, true, true, true, true, false, true, false, false] rfl rfl (any_of HT_.out (by kernel_rfl)) (fun _ _ _ h => h) (Or.inl ⟨by rfl, ?_⟩) ?_ ?_
      rotate_left
      · intro w'
        go_simp
        with_reducible rfl
      rotate_left
      · simp only [Act.put, List.setIfInBounds_toArray, List.set_cons_zero, List.set_cons_succ, i64_w, i32_w]
        rfl
      refine pure_ (i := 6) (N := some 14) (v := ?_) (a' := ?_) #[true, true, true, true, true, true, true, true, false, false] rfl rfl (any_of HT_.out (by kernel_rfl)) (fun _ _ _ h => h) (Or.inl ⟨by rfl, ?_⟩) ?_ ?_
      rotate_left
      · intro w'
        go_simp
        with_reducible rfl
      rotate_left
      · simp only [Act.put, List.setIfInBounds_toArray, List.set_cons_zero, List.set_cons_succ, i64_w, i32_w]
        rfl
      exact norm_ (by simp only [putAll, Act.put, List.setIfInBounds_toArray, List.set_cons_zero, List.set_cons_succ]) (hCont (Zu) _ ⟨hHeld, Zb.out, Zf.out, Zm.out, Zv.out, Zw.out, Zx.out, Zy.out, Zz.out, Zba.out, Zbb.out, Zbc.out, Zbd.out, (by repeat (first | (with_reducible first | exact HB.out | apply below_alloc | apply pw_below_drewN | apply below_drew1 | refine below_set ?_ Zd.out | refine below_set ?_ Zh.out | refine below_set ?_ Zp.out | refine below_set ?_ Zx.out) | exact HB.out))⟩)
  rintro Zu w12 ⟨hS_, h0_, h1_, h2_, h3_, h4_, h5_, h6_, h7_, h8_, h9_, h10_, h11_, h12_⟩
  have n0_ : Aside0 (w12.heap[Za]? = some (.cells #[.int .i64 a0_0, .int .i64 a0_1, .int .i64 a0_2, .int .i64 a0_3] 25 (0, 0))) := ⟨h0_⟩
  have n1_ : Aside0 (w12.heap[Ze]? = some (.cells #[.int .i64 a1_0, .int .i64 a1_1, .int .i64 a1_2, .int .i64 a1_3] 25 (0, 0))) := ⟨h1_⟩
  have n2_ : Aside0 (w12.heap[Zk]? = some (.cells #[.int .i64 0, .int .i64 0, .int .i64 0, .int .i64 0] 25 (0, 0))) := ⟨h2_⟩
  have n3_ : Aside0 (w12.heap[Zu]? = some (.cells #[.int .i64 0, .int .i64 0, .int .i64 0, .int .i64 0] 25 (0, 0))) := ⟨h3_⟩
  have n4_ : Aside0 (w.heap.size ≤ Zu) := ⟨h4_⟩
  have n5_ : Aside0 (w.heap.size ≤ Zu) := ⟨h5_⟩
  have n6_ : Aside0 (Za ≠ Zu) := ⟨h6_⟩
  have n7_ : Aside0 (Zu ≠ Za) := ⟨h7_⟩
  have n8_ : Aside0 (Ze ≠ Zu) := ⟨h8_⟩
  have n9_ : Aside0 (Zu ≠ Ze) := ⟨h9_⟩
  have n10_ : Aside0 (Zk ≠ Zu) := ⟨h10_⟩
  have n11_ : Aside0 (Zu ≠ Zk) := ⟨h11_⟩
  have n12_ : Aside0 (Below w.heap.size w w12) := ⟨h12_⟩
  clear Zb
  clear Zf
  clear Zm
  clear HB
  clear h0_ h1_ h2_ h3_ h4_ h5_ h6_ h7_ h8_ h9_ h10_ h11_ h12_
  have Zb := n0_
  have Zf := n1_
  have Zm := n2_
  have Zv := n3_
  have Zw := n4_
  have Zx := n5_
  have Zy := n6_
  have Zz := n7_
  have Zba := n8_
  have Zbb := n9_
  have Zbc := n10_
  have Zbd := n11_
  have HB := n12_
  clear n0_ n1_ n2_ n3_ n4_ n5_ n6_ n7_ n8_ n9_ n10_ n11_ n12_
  have hHeld : w12.cell? ⟨Za, 0, none⟩ = some (.int .i64 a0_0) ∧ w12.cell? ⟨Za, 1, none⟩ = some (.int .i64 a0_1) ∧ w12.cell? ⟨Za, 2, none⟩ = some (.int .i64 a0_2) ∧ w12.cell? ⟨Za, 3, none⟩ = some (.int .i64 a0_3) ∧ w12.cell? ⟨Ze, 0, none⟩ = some (.int .i64 a1_0) ∧ w12.cell? ⟨Ze, 1, none⟩ = some (.int .i64 a1_1) ∧ w12.cell? ⟨Ze, 2, none⟩ = some (.int .i64 a1_2) ∧ w12.cell? ⟨Ze, 3, none⟩ = some (.int .i64 a1_3) := hS_
  refine norm_ (a' := ?_) ?_ ?_
  rotate_left
  · simp only [putAll, Act.put, List.setIfInBounds_toArray, List.set_cons_zero, List.set_cons_succ]
    rfl
  refine one_ (i := 8) (N := none) #[true, true, true, true, true, true, true, true, true, false] rfl rfl (one_of HT_.out (by kernel_rfl)) (by decide) (fun K hK => ?_)
  have Zbe : w12.cell? ⟨Zu, 0, none⟩ = some (.int .i64 0) := (blk_cell Zv.out 0).trans rfl
  have Zbf := blk_frozen Zv.out 0
  have Zbg := Zy.out
  have Zbh := Zba.out
  have Zbi := Zbc.out
  have Zbj := Zz.out
  have Zbk := Zbb.out
  have Zbm := Zbd.out
  have Zbn : w12.cell? ⟨Zu, 1, none⟩ = some (.int .i64 0) := (blk_cell Zv.out 1).trans rfl
  have Zbp := blk_frozen Zv.out 1
  have Zbq := Zy.out
  have Zbr := Zba.out
  have Zbs := Zbc.out
  have Zbt := Zz.out
  have Zbu := Zbb.out
  have Zbv := Zbd.out
  have Zbw : w12.cell? ⟨Zu, 2, none⟩ = some (.int .i64 0) := (blk_cell Zv.out 2).trans rfl
  have Zbx := blk_frozen Zv.out 2
  have Zby := Zy.out
  have Zbz := Zba.out
  have Zca := Zbc.out
  have Zcb := Zz.out
  have Zcc := Zbb.out
  have Zcd := Zbd.out
  have Zce : w12.cell? ⟨Zu, 3, none⟩ = some (.int .i64 0) := (blk_cell Zv.out 3).trans rfl
  have Zcf := blk_frozen Zv.out 3
  have Zcg := Zy.out
  have Zch := Zba.out
  have Zci := Zbc.out
  have Zcj := Zz.out
  have Zck := Zbb.out
  have Zcm := Zbd.out
  refine skip_ (w1 := ?_) (by rfl) rfl ?_ ?_
  rotate_left
  · go_simp
    rfl
  refine hK.out _ _ ⟨((cell_far (p := ⟨Zu, _, none⟩) Zy.out _).trans (((cell_far (p := ⟨Zu, _, none⟩) Zy.out _).trans (((cell_far (p := ⟨Zu, _, none⟩) Zy.out _).trans (((cell_far (p := ⟨Zu, _, none⟩) Zy.out _).trans (hHeld.1)))))))), ((cell_far (p := ⟨Zu, _, none⟩) Zy.out _).trans (((cell_far (p := ⟨Zu, _, none⟩) Zy.out _).trans (((cell_far (p := ⟨Zu, _, none⟩) Zy.out _).trans (((cell_far (p := ⟨Zu, _, none⟩) Zy.out _).trans (hHeld.2.1)))))))), ((cell_far (p := ⟨Zu, _, none⟩) Zy.out _).trans (((cell_far (p := ⟨Zu, _, none⟩) Zy.out _).trans (((cell_far (p := ⟨Zu, _, none⟩) Zy.out _).trans (((cell_far (p := ⟨Zu, _, none⟩) Zy.out _).trans (hHeld.2.2.1)))))))), ((cell_far (p := ⟨Zu, _, none⟩) Zy.out _).trans (((cell_far (p := ⟨Zu, _, none⟩) Zy.out _).trans (((cell_far (p := ⟨Zu, _, none⟩) Zy.out _).trans (((cell_far (p := ⟨Zu, _, none⟩) Zy.out _).trans (hHeld.2.2.2.1)))))))), ((cell_far (p := ⟨Zu, _, none⟩) Zba.out _).trans (((cell_far (p := ⟨Zu, _, none⟩) Zba.out _).trans (((cell_far (p := ⟨Zu, _, none⟩) Zba.out _).trans (((cell_far (p := ⟨Zu, _, none⟩) Zba.out _).trans (hHeld.2.2.2.2.1)))))))), ((cell_far (p := ⟨Zu, _, none⟩) Zba.out _).trans (((cell_far (p := ⟨Zu, _, none⟩) Zba.out _).trans (((cell_far (p := ⟨Zu, _, none⟩) Zba.out _).trans (((cell_far (p := ⟨Zu, _, none⟩) Zba.out _).trans (hHeld.2.2.2.2.2.1)))))))), ((cell_far (p := ⟨Zu, _, none⟩) Zba.out _).trans (((cell_far (p := ⟨Zu, _, none⟩) Zba.out _).trans (((cell_far (p := ⟨Zu, _, none⟩) Zba.out _).trans (((cell_far (p := ⟨Zu, _, none⟩) Zba.out _).trans (hHeld.2.2.2.2.2.2.1)))))))), ((cell_far (p := ⟨Zu, _, none⟩) Zba.out _).trans (((cell_far (p := ⟨Zu, _, none⟩) Zba.out _).trans (((cell_far (p := ⟨Zu, _, none⟩) Zba.out _).trans (((cell_far (p := ⟨Zu, _, none⟩) Zba.out _).trans (hHeld.2.2.2.2.2.2.2))))))))⟩ (fun hHeld => ?_)
  clear hK K
  refine pure_ (i := 9) (N := some 7) (v := ?_) (a' := ?_) #[true, true, true, true, true, true, true, true, true, true] rfl rfl (any_of HT_.out (by kernel_rfl)) (fun _ _ _ h => h) (Or.inl ⟨by rfl, ?_⟩) ?_ ?_
  rotate_left
  · intro w'
    go_simp
    with_reducible rfl
  rotate_left
  · simp only [Act.put, List.setIfInBounds_toArray, List.set_cons_zero, List.set_cons_succ, i64_w, i32_w]
    rfl
  refine done_ (done_of HT_.out (by kernel_rfl)) ?_
  have Zcn := Zz.out
  have Zcp := Zy.out
  have Zcq := Zbb.out
  have Zcr := Zba.out
  have Zcs := Zbd.out
  have Zct := Zbc.out
  have Zcu : w12.cell? ⟨Zu, 0, none⟩ = some (.int .i64 0) := (blk_cell Zv.out 0).trans rfl
  have Zcv : w12.cell? ⟨Zu, 1, none⟩ = some (.int .i64 0) := (blk_cell Zv.out 1).trans rfl
  have Zcw : w12.cell? ⟨Zu, 2, none⟩ = some (.int .i64 0) := (blk_cell Zv.out 2).trans rfl
  have Zcx : w12.cell? ⟨Zu, 3, none⟩ = some (.int .i64 0) := (blk_cell Zv.out 3).trans rfl
  have Zcy := blk_frozen Zv.out 0
  have Zcz := blk_frozen Zv.out 1
  have Zda := blk_frozen Zv.out 2
  have Zdb := blk_frozen Zv.out 3
  have Zdc := Zr.out
  have Zdd := Zq.out
  have Zde := Zt.out
  have Zdf := Zs.out
  have Zdg : w12.cell? ⟨Zk, 0, none⟩ = some (.int .i64 0) := (blk_cell Zm.out 0).trans rfl
  have Zdh : w12.cell? ⟨Zk, 1, none⟩ = some (.int .i64 0) := (blk_cell Zm.out 1).trans rfl
  have Zdi : w12.cell? ⟨Zk, 2, none⟩ = some (.int .i64 0) := (blk_cell Zm.out 2).trans rfl
  have Zdj : w12.cell? ⟨Zk, 3, none⟩ = some (.int .i64 0) := (blk_cell Zm.out 3).trans rfl
  have Zdk := blk_frozen Zm.out 0
  have Zdm := blk_frozen Zm.out 1
  have Zdn := blk_frozen Zm.out 2
  have Zdp := blk_frozen Zm.out 3
  try go_wp2
  refine bodyPost_ret (results_ct rfl _ _ Zk 25 #[.int .i64 t284, .int .i64 t285, .int .i64 t286, .int .i64 t287] (0, 0) _ rfl (by (with_reducible repeat (first | refine blk_drewN ?_ _ | refine blk_drew ?_ | refine blk_alloc ?_ _)); refine blk_put (cs := #[.int .i64 t284, .int .i64 t285, .int .i64 t286, .int .i64 0]) ?_ 3 _ rfl; (with_reducible repeat (first | refine blk_drewN ?_ _ | refine blk_drew ?_ | refine blk_alloc ?_ _)); refine blk_put (cs := #[.int .i64 t284, .int .i64 t285, .int .i64 0, .int .i64 0]) ?_ 2 _ rfl; (with_reducible repeat (first | refine blk_drewN ?_ _ | refine blk_drew ?_ | refine blk_alloc ?_ _)); refine blk_put (cs := #[.int .i64 t284, .int .i64 0, .int .i64 0, .int .i64 0]) ?_ 1 _ rfl; (with_reducible repeat (first | refine blk_drewN ?_ _ | refine blk_drew ?_ | refine blk_alloc ?_ _)); refine blk_put (cs := #[.int .i64 0, .int .i64 0, .int .i64 0, .int .i64 0]) ?_ 0 _ rfl; (with_reducible repeat (first | refine blk_drewN ?_ _ | refine blk_drew ?_ | refine blk_alloc ?_ _)); refine blk_far ?_ Zbc.out _; (with_reducible repeat (first | refine blk_drewN ?_ _ | refine blk_drew ?_ | refine blk_alloc ?_ _)); refine blk_far ?_ Zbc.out _; (with_reducible repeat (first | refine blk_drewN ?_ _ | refine blk_drew ?_ | refine blk_alloc ?_ _)); refine blk_far ?_ Zbc.out _; (with_reducible repeat (first | refine blk_drewN ?_ _ | refine blk_drew ?_ | refine blk_alloc ?_ _)); refine blk_far ?_ Zbc.out _; (with_reducible repeat (first | refine blk_drewN ?_ _ | refine blk_drew ?_ | refine blk_alloc ?_ _)); exact Zm.out) Try.underlying25 rfl (by kernel_rfl)) rfl ?_
  exact ⟨by first | rfl | (simp [errW_none, errW_some] <;> rfl) | (simp [*, errW_none, errW_some] <;> rfl), by repeat (first | (with_reducible first | exact HB.out | apply below_alloc | apply pw_below_drewN | apply below_drew1 | refine below_set ?_ Zd.out | refine below_set ?_ Zh.out | refine below_set ?_ Zp.out | refine below_set ?_ Zx.out) | exact HB.out)⟩


/-! ### impl_InvertInterval: function 28 -/
def impl_InvertInterval.f (k : Nat) (a0_0 : Int) (a0_1 : Int) (a0_2 : Int) (a0_3 : Int) : Option (Int × Int × Int × Int × Bool) := (impl_IntervalOk.f a0_0 a0_1 a0_2 a0_3).bind fun t292 => (if t292 = true then ((impl_PureOf.f 1 0 0).bind fun bt293 => ((impl_minus.f k bt293.1 bt293.2.1 bt293.2.2.1 bt293.2.2.2 a0_0 a0_1 a0_2 a0_3).bind fun bt297 => (some (bt297.1, bt297.2.1, bt297.2.2.1, bt297.2.2.2.1, bt297.2.2.2.2)))) else (some (0, 0, 0, 0, false)))
def impl_InvertInterval.T3 : Bool × List (List Nat × List Nat) := (true, [([], []), ([], []), ([0, 1, 0], [0, 1]), ([2], [2]), ([3], [3]), ([3], [3]), ([], []), ([6, 4, 2, 0, 1, 2, 3, 4, 6], [4, 6]), ([5, 7, 0, 1, 2, 3, 4, 5, 6, 7], [5])])
def impl_InvertInterval.B3 : List Nat := [0, 0, 3, 7, 15, 15, 0, 95, 255]
theorem impl_InvertInterval.tab3 : rtab .any (opsOf Try.f28 3) = impl_InvertInterval.T3 := by kernel_rfl
theorem impl_InvertInterval.bits3 : waitsOk impl_InvertInterval.T3.2 impl_InvertInterval.B3 = true := by kernel_rfl
set_option maxHeartbeats 8000000 in
set_option maxRecDepth 100000 in
theorem impl_InvertInterval.calls (k : Nat) (a0_0 : Int) (a0_1 : Int) (a0_2 : Int) (a0_3 : Int) (r1 : Int) (r2 : Int) (r3 : Int) (r4 : Int) (r5 : Bool) (w : World) (h : impl_InvertInterval.f k a0_0 a0_1 a0_2 a0_3 = some (r1, r2, r3, r4, r5)) :
    Calls Try.prog 28 #[.agg #[.int .i64 a0_0, .int .i64 a0_1, .int .i64 a0_2, .int .i64 a0_3]] w fun e w' => e = .returned (.tuple #[.agg #[.int .i64 r1, .int .i64 r2, .int .i64 r3, .int .i64 r4], .bool r5]) ∧ Below w.heap.size w w' := by
  have hu25 := Try.underlying25
  have HB := mA (Below.refl w.heap.size w)
  have H : ((impl_IntervalOk.f a0_0 a0_1 a0_2 a0_3).bind fun t292 => (if t292 = true then ((impl_PureOf.f 1 0 0).bind fun bt293 => ((impl_minus.f k bt293.1 bt293.2.1 bt293.2.2.1 bt293.2.2.2 a0_0 a0_1 a0_2 a0_3).bind fun bt297 => (some (bt297.1, bt297.2.1, bt297.2.2.1, bt297.2.2.2.1, bt297.2.2.2.2)))) else (some (0, 0, 0, 0, false)))) = some (r1, r2, r3, r4, r5) := h
  clear h
  replace H := Option.bind_eq_some_iff.mp H
  obtain ⟨t292, A20, H⟩ := H
  replace H : (if t292 = true then ((impl_PureOf.f 1 0 0).bind fun bt293 => ((impl_minus.f k bt293.1 bt293.2.1 bt293.2.2.1 bt293.2.2.2 a0_0 a0_1 a0_2 a0_3).bind fun bt297 => (some (bt297.1, bt297.2.1, bt297.2.2.1, bt297.2.2.2.1, bt297.2.2.2.2)))) else (some (0, 0, 0, 0, false))) = some (r1, r2, r3, r4, r5) := H
  have A2 := mA A20
  clear A20
  by_cases c3 : t292 = true
  · subst c3
    rw [if_pos rfl] at H
    replace H := Option.bind_eq_some_iff.mp H
    obtain ⟨⟨t293, t294, t295, t296⟩, A40, H⟩ := H
    replace H : ((impl_minus.f k t293 t294 t295 t296 a0_0 a0_1 a0_2 a0_3).bind fun bt297 => (some (bt297.1, bt297.2.1, bt297.2.2.1, bt297.2.2.2.1, bt297.2.2.2.2))) = some (r1, r2, r3, r4, r5) := H
    have A4 := mA A40
    clear A40
    replace H := Option.bind_eq_some_iff.mp H
    obtain ⟨⟨t297, t298, t299, t300, t301⟩, A50, H⟩ := H
    replace H : (some (t297, t298, t299, t300, t301)) = some (r1, r2, r3, r4, r5) := H
    have A5 := mA A50
    clear A50
    simp only [Option.some.injEq, Prod.mk.injEq] at H
    obtain ⟨rfl, rfl, rfl, rfl, rfl⟩ := H
    go_enter Try.func28, Try.ntmps28
    try go_wp2_with (first | ((with_reducible refine gate_dst (N := 1) rfl ?_); refine box_event ?hg (N := 1) ?hd (cs := #[.int .i64 a0_0, .int .i64 a0_1, .int .i64 a0_2, .int .i64 a0_3]) (t := 25) ?hr ?_; (case hd => rfl); (case hg => rfl); (case hr => first | (go_simp; done) | (go_simp; rfl)); intro Za hg w6 hbox hb; have n0_ := mA (below_step (by repeat (first | (with_reducible first | exact HB.out | apply below_alloc | apply pw_below_drewN | apply below_drew1) | exact HB.out)) hb); have n1_ := mA (hbox); have n2_ := mA ((by rw [hg]; exact (below_size (by repeat (first | (with_reducible first | exact HB.out | apply below_alloc | apply pw_below_drewN | apply below_drew1) | exact HB.out))) : w.heap.size ≤ Za)); have n3_ := mA ((by rw [hg]; exact (below_size (by repeat (first | (with_reducible first | exact HB.out | apply below_alloc | apply pw_below_drewN | apply below_drew1) | exact HB.out))) : w.heap.size ≤ Za)); clear HB; have HB := n0_; have Zb := n1_; have Zc := n2_; have Zd := n3_; clear n0_ n1_ n2_ n3_; clear hb hbox hg) | ((with_reducible refine gate_dst (N := 2) rfl ?_); refine box_event ?hg (N := 2) ?hd (cs := #[.int .i64 0, .int .i64 0, .int .i64 0, .int .i64 0]) (t := 25) ?hr ?_; (case hd => rfl); (case hg => rfl); (case hr => first | (go_simp; done) | (go_simp; rfl)); intro Ze hg w7 hbox hb; have n0_ := mA (blk_below (g := Za) (o := cQ25 a0_0 a0_1 a0_2 a0_3) Zb.out hb); have n1_ := mA (below_step (by repeat (first | (with_reducible first | exact HB.out | apply below_alloc | apply pw_below_drewN | apply below_drew1 | refine below_set ?_ Zd.out) | exact HB.out)) hb); have n2_ := mA (hbox); have n3_ := mA ((by rw [hg]; exact (below_size (by repeat (first | (with_reducible first | exact HB.out | apply below_alloc | apply pw_below_drewN | apply below_drew1 | refine below_set ?_ Zd.out) | exact HB.out))) : w.heap.size ≤ Ze)); have n4_ := mA ((by rw [hg]; exact (below_size (by repeat (first | (with_reducible first | exact HB.out | apply below_alloc | apply pw_below_drewN | apply below_drew1 | refine below_set ?_ Zd.out) | exact HB.out))) : w.heap.size ≤ Ze)); have n5_ := mA ((by rw [hg]; exact Nat.ne_of_lt (blk_lt (g := Za) (o := cQ25 a0_0 a0_1 a0_2 a0_3) Zb.out) : Za ≠ Ze)); have n6_ := mA ((by rw [hg]; exact Nat.ne_of_gt (blk_lt (g := Za) (o := cQ25 a0_0 a0_1 a0_2 a0_3) Zb.out) : Ze ≠ Za)); clear Zb; clear HB; have Zb := n0_; have HB := n1_; have Zf := n2_; have Zg := n3_; have Zh := n4_; have Zi := n5_; have Zj := n6_; clear n0_ n1_ n2_ n3_ n4_ n5_ n6_; clear hb hbox hg; have Zk := Zi.out; have Zm := Zj.out; have Zn : w7.cell? ⟨Za, 0, none⟩ = some (.int .i64 a0_0) := (blk_cell Zb.out 0).trans rfl; have Zp : w7.cell? ⟨Za, 1, none⟩ = some (.int .i64 a0_1) := (blk_cell Zb.out 1).trans rfl; have Zq : w7.cell? ⟨Za, 2, none⟩ = some (.int .i64 a0_2) := (blk_cell Zb.out 2).trans rfl; have Zr : w7.cell? ⟨Za, 3, none⟩ = some (.int .i64 a0_3) := (blk_cell Zb.out 3).trans rfl; have Zs := blk_frozen Zb.out 0; have Zt := blk_frozen Zb.out 1; have Zu := blk_frozen Zb.out 2; have Zv := blk_frozen Zb.out 3) | ((with_reducible refine gate_callee (f := 43) rfl ?_); refine goesL_ (some 7) rfl rfl Try.func43 (by kernel_rfl) rfl #[.agg #[.int .i64 a0_0, .int .i64 a0_1, .int .i64 a0_2, .int .i64 a0_3]] rfl (by (try simp only [List.map_toArray, List.map_cons, List.map_nil]); first | done | rfl | (simp only [List.length_drop, List.length_take]; rfl)) ?_; (with_reducible refine (impl_IntervalOk.calls a0_0 a0_1 a0_2 a0_3 true _ A2.out).mono ?_); rintro e w10 ⟨rfl, hb⟩; refine ⟨_, rfl, ?_⟩; have n0_ := mA (blk_below (g := Za) (o := cQ25 a0_0 a0_1 a0_2 a0_3) Zb.out hb); have n1_ := mA (blk_below (g := Ze) (o := cQ25 0 0 0 0) Zf.out hb); have n2_ := mA (below_step (by repeat (first | (with_reducible first | exact HB.out | apply below_alloc | apply pw_below_drewN | apply below_drew1 | refine below_set ?_ Zd.out | refine below_set ?_ Zh.out) | exact HB.out)) hb); clear Zb; clear Zf; clear HB; have Zb := n0_; have Zf := n1_; have HB := n2_; clear n0_ n1_ n2_; (try clear hb); (try clear hb2); (try clear hk); (try clear hi)))
    have n0_ := mA (blk_drew Zb.out)
    have n1_ := mA (blk_drew Zf.out)
    have n2_ := mA (below_drew1 HB.out)
    clear Zb
    clear Zf
    clear HB
    have Zb := n0_
    have Zf := n1_
    have HB := n2_
    clear n0_ n1_ n2_
    refine start_ (n := 9) (S := fun w' => w'.cell? ⟨Za, 0, none⟩ = some (.int .i64 a0_0) ∧ w'.cell? ⟨Za, 1, none⟩ = some (.int .i64 a0_1) ∧ w'.cell? ⟨Za, 2, none⟩ = some (.int .i64 a0_2) ∧ w'.cell? ⟨Za, 3, none⟩ = some (.int .i64 a0_3)) (ds := []) #[false, false, false, false, false, false, false, false, false] (by kernel_rfl) rfl rfl ⟨(blk_cell Zb.out 0).trans rfl, (blk_cell Zb.out 1).trans rfl, (blk_cell Zb.out 2).trans rfl, (blk_cell Zb.out 3).trans rfl⟩ (fun hHeld => ?_); refine with_tabW impl_InvertInterval.tab3 impl_InvertInterval.bits3 (fun HT_ HW_ => ?_)
    generalize w10.drew = w11 at Zb Zf HB hHeld ⊢
    refine take_ (i := 1) (N := some 12) (v := ?_) (a' := ?_) #[false, true, false, false, false, false, false, false, false] rfl rfl (take_ofW HT_.out HW_.out (by kernel_rfl)) (fun _ _ _ h => h) (Or.inl ⟨by rfl, ?_⟩) hHeld ?_ ?_
    rotate_left
    · rintro w' ⟨s0, s1, s2, s3⟩
      go_simp
      with_reducible rfl
    rotate_left
    · simp only [Act.put, List.setIfInBounds_toArray, List.set_cons_zero, List.set_cons_succ, i64_w, i32_w]
      rfl
    refine join_ (σ := Nat) 2 #[true, true, true, true, true, true, true, false, false] (fun s_ => [(11, .agg #[.int .i64 t293, .int .i64 t294, .int .i64 t295, .int .i64 t296]), (13, .tuple #[.agg #[.int .i64 t297, .int .i64 t298, .int .i64 t299, .int .i64 t300], .bool t301]), (4, .pointer (some ⟨s_, 0, none⟩)), (10, .tuple #[.agg #[.int .i64 t297, .int .i64 t298, .int .i64 t299, .int .i64 t300], .bool t301]), (14, .agg #[.int .i64 t297, .int .i64 t298, .int .i64 t299, .int .i64 t300]), (15, .bool t301)]) (fun s_ w' => (w'.cell? ⟨Za, 0, none⟩ = some (.int .i64 a0_0) ∧ w'.cell? ⟨Za, 1, none⟩ = some (.int .i64 a0_1) ∧ w'.cell? ⟨Za, 2, none⟩ = some (.int .i64 a0_2) ∧ w'.cell? ⟨Za, 3, none⟩ = some (.int .i64 a0_3)) ∧ (w'.heap[Za]? = some (.cells #[.int .i64 a0_0, .int .i64 a0_1, .int .i64 a0_2, .int .i64 a0_3] 25 (0, 0))) ∧ (w'.heap[Ze]? = some (.cells #[.int .i64 0, .int .i64 0, .int .i64 0, .int .i64 0] 25 (0, 0))) ∧ (w'.heap[s_]? = some (.cells #[.int .i64 0, .int .i64 0, .int .i64 0, .int .i64 0] 25 (0, 0))) ∧ (w.heap.size ≤ s_) ∧ (w.heap.size ≤ s_) ∧ (Za ≠ s_) ∧ (s_ ≠ Za) ∧ (Ze ≠ s_) ∧ (s_ ≠ Ze) ∧ (Below w.heap.size w w')) ?_ ?_
    rotate_left
    · intro hCont
      refine two_ (i := 0) (j := 6) (Ni := some 11) (Nj := some 4) #[true, true, false, false, false, false, false, false, false] #[false, true, false, false, false, false, true, false, false] rfl rfl rfl rfl (two_of HT_.out (by kernel_rfl)) (by decide) (by decide) (fun K hK => ?_) (fun K hK => ?_)
      · skip
        refine goes_ Try.func25 (by kernel_rfl) rfl #[.int .i64 1, .int .i64 0, .int .i64 0] (by rfl) rfl rfl (by (try simp only [List.map_toArray, List.map_cons, List.map_nil]); first | done | rfl | (simp only [List.length_drop, List.length_take]; rfl)) ?_
        with_reducible refine (impl_PureOf.calls 1 0 0 t293 t294 t295 t296 _ A4.out).mono ?_
        rintro e w12 ⟨rfl, hb⟩
        refine ⟨_, rfl, ?_⟩
        have n0_ := mA (blk_below (g := Za) (o := cQ25 a0_0 a0_1 a0_2 a0_3) Zb.out hb)
        have n1_ := mA (blk_below (g := Ze) (o := cQ25 0 0 0 0) Zf.out hb)
        have n2_ := mA (below_step (by repeat (first | (with_reducible first | exact HB.out | apply below_alloc | apply pw_below_drewN | apply below_drew1 | refine below_set ?_ Zd.out | refine below_set ?_ Zh.out) | exact HB.out)) hb)
        clear Zb
        clear Zf
        clear HB
        have Zb := n0_
        have Zf := n1_
        have HB := n2_
        clear n0_ n1_ n2_
        (try clear hb)
        (try clear hb2)
        (try clear hk)
        (try clear hi)
        refine hK.out _ _ ⟨(blk_cell Zb.out 0).trans rfl, (blk_cell Zb.out 1).trans rfl, (blk_cell Zb.out 2).trans rfl, (blk_cell Zb.out 3).trans rfl⟩ (fun hHeld => ?_)
        clear hK K
        refine norm_ (a' := ?_) ?_ ?_
        rotate_left
        · show Act.put _ (some 11) _ = _
          simp only [Act.put, List.setIfInBounds_toArray, List.set_cons_zero, List.set_cons_succ, i64_w, i32_w]
          rfl
        refine two_ (i := 2) (j := 6) (Ni := some 13) (Nj := some 4) #[true, true, true, false, false, false, false, false, false] #[true, true, false, false, false, false, true, false, false] rfl rfl rfl rfl (two_of HT_.out (by kernel_rfl)) (by decide) (by decide) (fun K hK => ?_) (fun K hK => ?_)
        · skip
          refine goes_ Try.func51 (by kernel_rfl) rfl #[.agg #[.int .i64 t293, .int .i64 t294, .int .i64 t295, .int .i64 t296], .agg #[.int .i64 a0_0, .int .i64 a0_1, .int .i64 a0_2, .int .i64 a0_3]] (by rfl) rfl rfl (by (try simp only [List.map_toArray, List.map_cons, List.map_nil]); first | done | rfl | (simp only [List.length_drop, List.length_take]; rfl)) ?_
          with_reducible refine (impl_minus.calls k t293 t294 t295 t296 a0_0 a0_1 a0_2 a0_3 t297 t298 t299 t300 t301 _ A5.out).mono ?_
          rintro e w13 ⟨rfl, hb⟩
          refine ⟨_, rfl, ?_⟩
          have n0_ := mA (blk_below (g := Za) (o := cQ25 a0_0 a0_1 a0_2 a0_3) Zb.out hb)
          have n1_ := mA (blk_below (g := Ze) (o := cQ25 0 0 0 0) Zf.out hb)
          have n2_ := mA (below_step (by repeat (first | (with_reducible first | exact HB.out | apply below_alloc | apply pw_below_drewN | apply below_drew1 | refine below_set ?_ Zd.out | refine below_set ?_ Zh.out) | exact HB.out)) hb)
          clear Zb
          clear Zf
          clear HB
          have Zb := n0_
          have Zf := n1_
          have HB := n2_
          clear n0_ n1_ n2_
          (try clear hb)
          (try clear hb2)
          (try clear hk)
          (try clear hi)
          refine hK.out _ _ ⟨(blk_cell Zb.out 0).trans rfl, (blk_cell Zb.out 1).trans rfl, (blk_cell Zb.out 2).trans rfl, (blk_cell Zb.out 3).trans rfl⟩ (fun hHeld => ?_)
          clear hK K
          refine norm_ (a' := ?_) ?_ ?_
          rotate_left
          · show Act.put _ (some 13) _ = _
            simp only [Act.put, List.setIfInBounds_toArray, List.set_cons_zero, List.set_cons_succ, i64_w, i32_w]
            rfl
          refine pure_ (i := 3) (N := some 10) (v := ?_) (a' := ?_) #[true, true, true, true, false, false, false, false, false] rfl rfl (any_of HT_.out (by kernel_rfl)) (fun _ _ _ h => h) (Or.inl ⟨by rfl, ?_⟩) ?_ ?_
          rotate_left
          · intro w'
            go_simp
            with_reducible rfl
          rotate_left
          · simp only [Act.put, List.setIfInBounds_toArray, List.set_cons_zero, List.set_cons_succ, i64_w, i32_w]
            rfl
          refine pure_ (i := 4) (N := some 14) (v := ?_) (a' := ?_) #[true, true, true, true, true, false, false, false, false] rfl rfl (any_of HT_.out (by kernel_rfl)) (fun _ _ _ h => h) (Or.inl ⟨by rfl, ?_⟩) ?_ ?_
          rotate_left
          · intro w'
            go_simp
            with_reducible rfl
          rotate_left
          · simp only [Act.put, List.setIfInBounds_toArray, List.set_cons_zero, List.set_cons_succ, i64_w, i32_w]
            rfl
          refine pure_ (i := 5) (N := some 15) (v := ?_) (a' := ?_) #[true, true, true, true, true, true, false, false, false] rfl rfl (any_of HT_.out (by kernel_rfl)) (fun _ _ _ h => h) (Or.inl ⟨by rfl, ?_⟩) ?_ ?_
          rotate_left
          · intro w'
            go_simp
            with_reducible rfl
          rotate_left
          · simp only [Act.put, List.setIfInBounds_toArray, List.set_cons_zero, List.set_cons_succ, i64_w, i32_w]
            rfl
          refine one_ (i := 6) (N := some 4) #[true, true, true, true, true, true, true, false, false] rfl rfl (one_of HT_.out (by kernel_rfl)) (by decide) (fun K hK => ?_)
          refine box_step ?hg (N := 4) ?hd (cs := #[.int .i64 0, .int .i64 0, .int .i64 0, .int .i64 0]) (t := 25) ?hr ?_; (case hd => rfl); (case hg => rfl); (case hr => first | (go_simp; done) | (go_simp; rfl))
          intro Zw hg w14 hbox hb
          have n0_ := mA (blk_below (g := Za) (o := cQ25 a0_0 a0_1 a0_2 a0_3) Zb.out hb)
          have n1_ := mA (blk_below (g := Ze) (o := cQ25 0 0 0 0) Zf.out hb)
          have n2_ := mA (below_step (by repeat (first | (with_reducible first | exact HB.out | apply below_alloc | apply pw_below_drewN | apply below_drew1 | refine below_set ?_ Zd.out | refine below_set ?_ Zh.out) | exact HB.out)) hb)
          have n3_ := mA (hbox)
          have n4_ := mA ((by rw [hg]; exact (below_size (by repeat (first | (with_reducible first | exact HB.out | apply below_alloc | apply pw_below_drewN | apply below_drew1 | refine below_set ?_ Zd.out | refine below_set ?_ Zh.out) | exact HB.out))) : w.heap.size ≤ Zw))
          have n5_ := mA ((by rw [hg]; exact (below_size (by repeat (first | (with_reducible first | exact HB.out | apply below_alloc | apply pw_below_drewN | apply below_drew1 | refine below_set ?_ Zd.out | refine below_set ?_ Zh.out) | exact HB.out))) : w.heap.size ≤ Zw))
          have n6_ := mA ((by rw [hg]; exact Nat.ne_of_lt (blk_lt (g := Za) (o := cQ25 a0_0 a0_1 a0_2 a0_3) Zb.out) : Za ≠ Zw))
          have n7_ := mA ((by rw [hg]; exact Nat.ne_of_gt (blk_lt (g := Za) (o := cQ25 a0_0 a0_1 a0_2 a0_3) Zb.out) : Zw ≠ Za))
          have n8_ := mA ((by rw [hg]; exact Nat.ne_of_lt (blk_lt (g := Ze) (o := cQ25 0 0 0 0) Zf.out) : Ze ≠ Zw))
          have n9_ := mA ((by rw [hg]; exact Nat.ne_of_gt (blk_lt (g := Ze) (o := cQ25 0 0 0 0) Zf.out) : Zw ≠ Ze))
          clear Zb
          clear Zf
          clear HB
          have Zb := n0_
          have Zf := n1_
          have HB := n2_
          have Zx := n3_
          have Zy := n4_
          have Zz := n5_
          have Zba := n6_
          have Zbb := n7_
          have Zbc := n8_
          have Zbd := n9_
          clear n0_ n1_ n2_ n3_ n4_ n5_ n6_ n7_ n8_ n9_
          clear hb hbox hg
          refine hK.out _ _ ⟨(blk_cell Zb.out 0).trans rfl, (blk_cell Zb.out 1).trans rfl, (blk_cell Zb.out 2).trans rfl, (blk_cell Zb.out 3).trans rfl⟩ (fun hHeld => ?_)
          clear hK K
          refine norm_ (a' := ?_) ?_ ?_
          rotate_left
          · show Act.put _ (some 4) _ = _
            simp only [Act.put, List.setIfInBounds_toArray, List.set_cons_zero, List.set_cons_succ, i64_w, i32_w]
            rfl
          exact norm_ (by simp only [putAll, Act.put, List.setIfInBounds_toArray, List.set_cons_zero, List.set_cons_succ]) (hCont (Zw) _ ⟨hHeld, Zb.out, Zf.out, Zx.out, Zy.out, Zz.out, Zba.out, Zbb.out, Zbc.out, Zbd.out, (by repeat (first | (with_reducible first | exact HB.out | apply below_alloc | apply pw_below_drewN | apply below_drew1 | refine below_set ?_ Zd.out | refine below_set ?_ Zh.out | refine below_set ?_ Zz.out) | exact HB.out))⟩)
        · skip
          refine box_step ?hg (N := 4) ?hd (cs := #[.int .i64 0, .int .i64 0, .int .i64 0, .int .i64 0]) (t := 25) ?hr ?_; (case hd => rfl); (case hg => rfl); (case hr => first | (go_simp; done) | (go_simp; rfl))
          intro Zw hg w13 hbox hb
          have n0_ := mA (blk_below (g := Za) (o := cQ25 a0_0 a0_1 a0_2 a0_3) Zb.out hb)
          have n1_ := mA (blk_below (g := Ze) (o := cQ25 0 0 0 0) Zf.out hb)
          have n2_ := mA (below_step (by repeat (first | (with_reducible first | exact HB.out | apply below_alloc | apply pw_below_drewN | apply below_drew1 | refine below_set ?_ Zd.out | refine below_set ?_ Zh.out) | exact HB.out)) hb)
          have n3_ := mA (hbox)
          have n4_ := mA ((by rw [hg]; exact (below_size (by repeat (first | (with_reducible first | exact HB.out | apply below_alloc | apply pw_below_drewN | apply below_drew1 | refine below_set ?_ Zd.out | refine below_set ?_ Zh.out) | exact HB.out))) : w.heap.size ≤ Zw))
          have n5_ := mA ((by rw [hg]; exact (below_size (by repeat (first | (with_reducible first | exact HB.out | apply below_alloc | apply pw_below_drewN | apply below_drew1 | refine below_set ?_ Zd.out | refine below_set ?_ Zh.out) | exact HB.out))) : w.heap.size ≤ Zw))
          have n6_ := mA ((by rw [hg]; exact Nat.ne_of_lt (blk_lt (g := Za) (o := cQ25 a0_0 a0_1 a0_2 a0_3) Zb.out) : Za ≠ Zw))
          have n7_ := mA ((by rw [hg]; exact Nat.ne_of_gt (blk_lt (g := Za) (o := cQ25 a0_0 a0_1 a0_2 a0_3) Zb.out) : Zw ≠ Za))
          have n8_ := mA ((by rw [hg]; exact Nat.ne_of_lt (blk_lt (g := Ze) (o := cQ25 0 0 0 0) Zf.out) : Ze ≠ Zw))
          have n9_ := mA ((by rw [hg]; exact Nat.ne_of_gt (blk_lt (g := Ze) (o := cQ25 0 0 0 0) Zf.out) : Zw ≠ Ze))
          clear Zb
          clear Zf
          clear HB
          have Zb := n0_
          have Zf := n1_
          have HB := n2_
          have Zx := n3_
          have Zy := n4_
          have Zz := n5_
          have Zba := n6_
          have Zbb := n7_
          have Zbc := n8_
          have Zbd := n9_
          clear n0_ n1_ n2_ n3_ n4_ n5_ n6_ n7_ n8_ n9_
          clear hb hbox hg
          refine hK.out _ _ ⟨(blk_cell Zb.out 0).trans rfl, (blk_cell Zb.out 1).trans rfl, (blk_cell Zb.out 2).trans rfl, (blk_cell Zb.out 3).trans rfl⟩ (fun hHeld => ?_)
          clear hK K
          refine norm_ (a' := ?_) ?_ ?_
          rotate_left
          · show Act.put _ (some 4) _ = _
            simp only [Act.put, List.setIfInBounds_toArray, List.set_cons_zero, List.set_cons_succ, i64_w, i32_w]
            rfl
          refine one_ (i := 2) (N := some 13) #[true, true, true, false, false, false, true, false, false] rfl rfl (one_of HT_.out (by kernel_rfl)) (by decide) (fun K hK => ?_)
          refine goes_ Try.func51 (by kernel_rfl) rfl #[.agg #[.int .i64 t293, .int .i64 t294, .int .i64 t295, .int .i64 t296], .agg #[.int .i64 a0_0, .int .i64 a0_1, .int .i64 a0_2, .int .i64 a0_3]] (by rfl) rfl rfl (by (try simp only [List.map_toArray, List.map_cons, List.map_nil]); first | done | rfl | (simp only [List.length_drop, List.length_take]; rfl)) ?_
          with_reducible refine (impl_minus.calls k t293 t294 t295 t296 a0_0 a0_1 a0_2 a0_3 t297 t298 t299 t300 t301 _ A5.out).mono ?_
          rintro e w14 ⟨rfl, hb⟩
          refine ⟨_, rfl, ?_⟩
          have n0_ := mA (blk_below (g := Za) (o := cQ25 a0_0 a0_1 a0_2 a0_3) Zb.out hb)
          have n1_ := mA (blk_below (g := Ze) (o := cQ25 0 0 0 0) Zf.out hb)
          have n2_ := mA (blk_below (g := Zw) (o := cQ25 0 0 0 0) Zx.out hb)
          have n3_ := mA (below_step (by repeat (first | (with_reducible first | exact HB.out | apply below_alloc | apply pw_below_drewN | apply below_drew1 | refine below_set ?_ Zd.out | refine below_set ?_ Zh.out | refine below_set ?_ Zz.out) | exact HB.out)) hb)
          clear Zb
          clear Zf
          clear Zx
          clear HB
          have Zb := n0_
          have Zf := n1_
          have Zx := n2_
          have HB := n3_
          clear n0_ n1_ n2_ n3_
          (try clear hb)
          (try clear hb2)
          (try clear hk)
          (try clear hi)
          refine hK.out _ _ ⟨(blk_cell Zb.out 0).trans rfl, (blk_cell Zb.out 1).trans rfl, (blk_cell Zb.out 2).trans rfl, (blk_cell Zb.out 3).trans rfl⟩ (fun hHeld => ?_)
          clear hK K
          refine norm_ (a' := ?_) ?_ ?_
          rotate_left
          · show Act.put _ (some 13) _ = _
            simp only [Act.put, List.setIfInBounds_toArray, List.set_cons_zero, List.set_cons_succ, i64_w, i32_w]
            rfl
          refine pure_ (i := 3) (N := some 10) (v := ?_) (a' := ?_) #[true, true, true, true, false, false, true, false, false] rfl rfl (any_of HT_.out (by kernel_rfl)) (fun _ _ _ h => h) (Or.inl ⟨by rfl, ?_⟩) ?_ ?_
          rotate_left
          · intro w'
            go_simp
            with_reducible rfl
          rotate_left
          · simp only [Act.put, List.setIfInBounds_toArray, List.set_cons_zero, List.set_cons_succ, i64_w, i32_w]
            rfl
          refine pure_ (i := 4) (N := some 14) (v := ?_) (a' := ?_) #[true, true, true, true, true, false, true, false, false] rfl rfl (any_of HT_.out (by kernel_rfl)) (fun _ _ _ h => h) (Or.inl ⟨by rfl, ?_⟩) ?_ ?_
          rotate_left
          · intro w'
            go_simp
            with_reducible rfl
          rotate_left
          · simp only [Act.put, List.setIfInBounds_toArray, List.set_cons_zero, List.set_cons_succ, i64_w, i32_w]
            rfl
          refine pure_ (i := 5) (N := some 15) (v := ?_) (a' := ?_) #[true, true, true, true, true, true, true, false, false] rfl rfl (any_of HT_.out (by kernel_rfl)) (fun _ _ _ h => h) (Or.inl ⟨by rfl, ?_⟩) ?_ ?_
          rotate_left
          · intro w'
            go_simp
            with_reducible rfl
          rotate_left
          · simp only [Act.put, List.setIfInBounds_toArray, List.set_cons_zero, List.set_cons_succ, i64_w, i32_w]
            rfl
          exact norm_ (by simp only [putAll, Act.put, List.setIfInBounds_toArray, List.set_cons_zero, List.set_cons_succ]) (hCont (Zw) _ ⟨hHeld, Zb.out, Zf.out, Zx.out, Zy.out, Zz.out, Zba.out, Zbb.out, Zbc.out, Zbd.out, (by repeat (first | (with_reducible first | exact HB.out | apply below_alloc | apply pw_below_drewN | apply below_drew1 | refine below_set ?_ Zd.out | refine below_set ?_ Zh.out | refine below_set ?_ Zz.out) | exact HB.out))⟩)
      · skip
        refine box_step ?hg (N := 4) ?hd (cs := #[.int .i64 0, .int .i64 0, .int .i64 0, .int .i64 0]) (t := 25) ?hr ?_; (case hd => rfl); (case hg => rfl); (case hr => first | (go_simp; done) | (go_simp; rfl))
        intro Zw hg w12 hbox hb
        have n0_ := mA (blk_below (g := Za) (o := cQ25 a0_0 a0_1 a0_2 a0_3) Zb.out hb)
        have n1_ := mA (blk_below (g := Ze) (o := cQ25 0 0 0 0) Zf.out hb)
        have n2_ := mA (below_step (by repeat (first | (with_reducible first | exact HB.out | apply below_alloc | apply pw_below_drewN | apply below_drew1 | refine below_set ?_ Zd.out | refine below_set ?_ Zh.out) | exact HB.out)) hb)
        have n3_ := mA (hbox)
        have n4_ := mA ((by rw [hg]; exact (below_size (by repeat (first | (with_reducible first | exact HB.out | apply below_alloc | apply pw_below_drewN | apply below_drew1 | refine below_set ?_ Zd.out | refine below_set ?_ Zh.out) | exact HB.out))) : w.heap.size ≤ Zw))
        have n5_ := mA ((by rw [hg]; exact (below_size (by repeat (first | (with_reducible first | exact HB.out | apply below_alloc | apply pw_below_drewN | apply below_drew1 | refine below_set ?_ Zd.out | refine below_set ?_ Zh.out) | exact HB.out))) : w.heap.size ≤ Zw))
        have n6_ := mA ((by rw [hg]; exact Nat.ne_of_lt (blk_lt (g := Za) (o := cQ25 a0_0 a0_1 a0_2 a0_3) Zb.out) : Za ≠ Zw))
        have n7_ := mA ((by rw [hg]; exact Nat.ne_of_gt (blk_lt (g := Za) (o := cQ25 a0_0 a0_1 a0_2 a0_3) Zb.out) : Zw ≠ Za))
        have n8_ := mA ((by rw [hg]; exact Nat.ne_of_lt (blk_lt (g := Ze) (o := cQ25 0 0 0 0) Zf.out) : Ze ≠ Zw))
        have n9_ := mA ((by rw [hg]; exact Nat.ne_of_gt (blk_lt (g := Ze) (o := cQ25 0 0 0 0) Zf.out) : Zw ≠ Ze))
        clear Zb
        clear Zf
        clear HB
        have Zb := n0_
        have Zf := n1_
        have HB := n2_
        have Zx := n3_
        have Zy := n4_
        have Zz := n5_
        have Zba := n6_
        have Zbb := n7_
        have Zbc := n8_
        have Zbd := n9_
        clear n0_ n1_ n2_ n3_ n4_ n5_ n6_ n7_ n8_ n9_
        clear hb hbox hg
        refine hK.out _ _ ⟨(blk_cell Zb.out 0).trans rfl, (blk_cell Zb.out 1).trans rfl, (blk_cell Zb.out 2).trans rfl, (blk_cell Zb.out 3).trans rfl⟩ (fun hHeld => ?_)
        clear hK K
        refine norm_ (a' := ?_) ?_ ?_
        rotate_left
        · show Act.put _ (some 4) _ = _
          simp only [Act.put, List.setIfInBounds_toArray, List.set_cons_zero, List.set_cons_succ, i64_w, i32_w]
          rfl
        refine one_ (i := 0) (N := some 11) #[true, true, false, false, false, false, true, false, false] rfl rfl (one_of HT_.out (by kernel_rfl)) (by decide) (fun K hK => ?_)
        refine goes_ Try.func25 (by kernel_rfl) rfl #[.int .i64 1, .int .i64 0, .int .i64 0] (by rfl) rfl rfl (by (try simp only [List.map_toArray, List.map_cons, List.map_nil]); first | done | rfl | (simp only [List.length_drop, List.length_take]; rfl)) ?_
        with_reducible refine (impl_PureOf.calls 1 0 0 t293 t294 t295 t296 _ A4.out).mono ?_
        rintro e w13 ⟨rfl, hb⟩
        refine ⟨_, rfl, ?_⟩
        have n0_ := mA (blk_below (g := Za) (o := cQ25 a0_0 a0_1 a0_2 a0_3) Zb.out hb)
        have n1_ := mA (blk_below (g := Ze) (o := cQ25 0 0 0 0) Zf.out hb)
        have n2_ := mA (blk_below (g := Zw) (o := cQ25 0 0 0 0) Zx.out hb)
        have n3_ := mA (below_step (by repeat (first | (with_reducible first | exact HB.out | apply below_alloc | apply pw_below_drewN | apply below_drew1 | refine below_set ?_ Zd.out | refine below_set ?_ Zh.out | refine below_set ?_ Zz.out) | exact HB.out)) hb)
        clear Zb
        clear Zf
        clear Zx
        clear HB
        have Zb := n0_
        have Zf := n1_
        have Zx := n2_
        have HB := n3_
        clear n0_ n1_ n2_ n3_
        (try clear hb)
        (try clear hb2)
        (try clear hk)
        (try clear hi)
        refine hK.out _ _ ⟨(blk_cell Zb.out 0).trans rfl, (blk_cell Zb.out 1).trans rfl, (blk_cell Zb.out 2).trans rfl, (blk_cell Zb.out 3).trans rfl⟩ (fun hHeld => ?_)
        clear hK K
        refine norm_ (a' := ?_) ?_ ?_
        rotate_left
        · show Act.put _ (some 11) _ = _
          simp only [Act.put, List.setIfInBounds_toArray, List.set_cons_zero, List.set_cons_succ, i64_w, i32_w]
          rfl
        refine one_ (i := 2) (N := some 13) #[true, true, true, false, false, false, true, false, false] rfl rfl (one_of HT_.out (by kernel_rfl)) (by decide) (fun K hK => ?_)
        refine goes_ Try.func51 (by kernel_rfl) rfl #[.agg #[.int .i64 t293, .int .i64 t294, .int .i64 t295, .int .i64 t296], .agg #[.int .i64 a0_0, .int .i64 a0_1, .int .i64 a0_2, .int .i64 a0_3]] (by rfl) rfl rfl (by (try simp only [List.map_toArray, List.map_cons, List.map_nil]); first | done | rfl | (simp only [List.length_drop, List.length_take]; rfl)) ?_
        with_reducible refine (impl_minus.calls k t293 t294 t295 t296 a0_0 a0_1 a0_2 a0_3 t297 t298 t299 t300 t301 _ A5.out).mono ?_
        rintro e w14 ⟨rfl, hb⟩
        refine ⟨_, rfl, ?_⟩
        have n0_ := mA (blk_below (g := Za) (o := cQ25 a0_0 a0_1 a0_2 a0_3) Zb.out hb)
        have n1_ := mA (blk_below (g := Ze) (o := cQ25 0 0 0 0) Zf.out hb)
        have n2_ := mA (blk_below (g := Zw) (o := cQ25 0 0 0 0) Zx.out hb)
        have n3_ := mA (below_step (by repeat (first | (with_reducible first | exact HB.out | apply below_alloc | apply pw_below_drewN | apply below_drew1 | refine below_set ?_ Zd.out | refine below_set ?_ Zh.out | refine below_set ?_ Zz.out) | exact HB.out)) hb)
        clear Zb
        clear Zf
        clear Zx
        clear HB
        have Zb := n0_
        have Zf := n1_
        have Zx := n2_
        have HB := n3_
        clear n0_ n1_ n2_ n3_
        (try clear hb)
        (try clear hb2)
        (try clear hk)
        (try clear hi)
        refine hK.out _ _ ⟨(blk_cell Zb.out 0).trans rfl, (blk_cell Zb.out 1).trans rfl, (blk_cell Zb.out 2).trans rfl, (blk_cell Zb.out 3).trans rfl⟩ (fun hHeld => ?_)
        clear hK K
        refine norm_ (a' := ?_) ?_ ?_
        rotate_left
        · show Act.put _ (some 13) _ = _
          simp only [Act.put, List.setIfInBounds_toArray, List.set_cons_zero, List.set_cons_succ, i64_w, i32_w]
          rfl
        refine pure_ (i := 3) (N := some 10) (v := ?_) (a' := ?_) #[true, true, true, true, false, false, true, false, false] rfl rfl (any_of HT_.out (by kernel_rfl)) (fun _ _ _ h => h) (Or.inl ⟨by rfl, ?_⟩) ?_ ?_
        rotate_left
        · intro w'
          go_simp
          with_reducible rfl
        rotate_left
        · simp only [Act.put, List.setIfInBounds_toArray, List.set_cons_zero, List.set_cons_succ, i64_w, i32_w]
          rfl
        refine pure_ (i := 4) (N := some 14) (v := ?_) (a' := ?_) #[true, true, true, true, true, false, true, false, false] rfl rfl (any_of HT_.out (by kernel_rfl)) (fun _ _ _ h => h) (Or.inl ⟨by rfl, ?_⟩) ?_ ?_
        rotate_left
        · intro w'
          go_simp
          with_reducible rfl
        rotate_left
        · simp only [Act.put, List.setIfInBounds_toArray, List.set_cons_zero, List.set_cons_succ, i64_w, i32_w]
          rfl
        refine pure_ (i := 5) (N := some 15) (v := ?_) (a' := ?_) #[true, true, true, true, true, true, true, false, false] rfl rfl (any_of HT_.out (by kernel_rfl)) (fun _ _ _ h => h) (Or.inl ⟨by rfl, ?_⟩) ?_ ?_
        rotate_left
        · intro w'
          go_simp
          with_reducible rfl
        rotate_left
        · simp only [Act.put, List.setIfInBounds_toArray, List.set_cons_zero, List.set_cons_succ, i64_w, i32_w]
          rfl
        exact norm_ (by simp only [putAll, Act.put, List.setIfInBounds_toArray, List.set_cons_zero, List.set_cons_succ]) (hCont (Zw) _ ⟨hHeld, Zb.out, Zf.out, Zx.out, Zy.out, Zz.out, Zba.out, Zbb.out, Zbc.out, Zbd.out, (by repeat (first | (with_reducible first | exact HB.out | apply below_alloc | apply pw_below_drewN | apply below_drew1 | refine below_set ?_ Zd.out | refine below_set ?_ Zh.out | refine below_set ?_ Zz.out) | exact HB.out))⟩)
    rintro Zw w15 ⟨hS_, h0_, h1_, h2_, h3_, h4_, h5_, h6_, h7_, h8_, h9_⟩
    have n0_ : Aside0 (w15.heap[Za]? = some (.cells #[.int .i64 a0_0, .int .i64 a0_1, .int .i64 a0_2, .int .i64 a0_3] 25 (0, 0))) := ⟨h0_⟩
    have n1_ : Aside0 (w15.heap[Ze]? = some (.cells #[.int .i64 0, .int .i64 0, .int .i64 0, .int .i64 0] 25 (0, 0))) := ⟨h1_⟩
    have n2_ : Aside0 (w15.heap[Zw]? = some (.cells #[.int .i64 0, .int .i64 0, .int .i64 0, .int .i64 0] 25 (0, 0))) := ⟨h2_⟩
    have n3_ : Aside0 (w.heap.size ≤ Zw) := ⟨h3_⟩
    have n4_ : Aside0 (w.heap.size ≤ Zw) := ⟨h4_⟩
    have n5_ : Aside0 (Za ≠ Zw) := ⟨h5_⟩
    have n6_ : Aside0 (Zw ≠ Za) := ⟨h6_⟩
    have n7_ : Aside0 (Ze ≠ Zw) := ⟨h7_⟩
    have n8_ : Aside0 (Zw ≠ Ze) := ⟨h8_⟩
    have n9_ : Aside0 (Below w.heap.size w w15) := ⟨h9_⟩
    clear Zb
    clear Zf
    clear HB
    clear h0_ h1_ h2_ h3_ h4_ h5_ h6_ h7_ h8_ h9_
    have Zb := n0_
    have Zf := n1_
    have Zx := n2_
    have Zy := n3_
    have Zz := n4_
    have Zba := n5_
    have Zbb := n6_
    have Zbc := n7_
    have Zbd := n8_
    have HB := n9_
    clear n0_ n1_ n2_ n3_ n4_ n5_ n6_ n7_ n8_ n9_
    have hHeld : w15.cell? ⟨Za, 0, none⟩ = some (.int .i64 a0_0) ∧ w15.cell? ⟨Za, 1, none⟩ = some (.int .i64 a0_1) ∧ w15.cell? ⟨Za, 2, none⟩ = some (.int .i64 a0_2) ∧ w15.cell? ⟨Za, 3, none⟩ = some (.int .i64 a0_3) := hS_
    refine norm_ (a' := ?_) ?_ ?_
    rotate_left
    · simp only [putAll, Act.put, List.setIfInBounds_toArray, List.set_cons_zero, List.set_cons_succ]
      rfl
    refine one_ (i := 7) (N := none) #[true, true, true, true, true, true, true, true, false] rfl rfl (one_of HT_.out (by kernel_rfl)) (by decide) (fun K hK => ?_)
    have Zbe : w15.cell? ⟨Zw, 0, none⟩ = some (.int .i64 0) := (blk_cell Zx.out 0).trans rfl
    have Zbf := blk_frozen Zx.out 0
    have Zbg := Zba.out
    have Zbh := Zbc.out
    have Zbi := Zbb.out
    have Zbj := Zbd.out
    have Zbk : w15.cell? ⟨Zw, 1, none⟩ = some (.int .i64 0) := (blk_cell Zx.out 1).trans rfl
    have Zbm := blk_frozen Zx.out 1
    have Zbn := Zba.out
    have Zbp := Zbc.out
    have Zbq := Zbb.out
    have Zbr := Zbd.out
    have Zbs : w15.cell? ⟨Zw, 2, none⟩ = some (.int .i64 0) := (blk_cell Zx.out 2).trans rfl
    have Zbt := blk_frozen Zx.out 2
    have Zbu := Zba.out
    have Zbv := Zbc.out
    have Zbw := Zbb.out
    have Zbx := Zbd.out
    have Zby : w15.cell? ⟨Zw, 3, none⟩ = some (.int .i64 0) := (blk_cell Zx.out 3).trans rfl
    have Zbz := blk_frozen Zx.out 3
    have Zca := Zba.out
    have Zcb := Zbc.out
    have Zcc := Zbb.out
    have Zcd := Zbd.out
    refine skip_ (w1 := ?_) (by rfl) rfl ?_ ?_
    rotate_left
    · go_simp
      rfl
    refine hK.out _ _ ⟨((cell_far (p := ⟨Zw, _, none⟩) Zba.out _).trans (((cell_far (p := ⟨Zw, _, none⟩) Zba.out _).trans (((cell_far (p := ⟨Zw, _, none⟩) Zba.out _).trans (((cell_far (p := ⟨Zw, _, none⟩) Zba.out _).trans (hHeld.1)))))))), ((cell_far (p := ⟨Zw, _, none⟩) Zba.out _).trans (((cell_far (p := ⟨Zw, _, none⟩) Zba.out _).trans (((cell_far (p := ⟨Zw, _, none⟩) Zba.out _).trans (((cell_far (p := ⟨Zw, _, none⟩) Zba.out _).trans (hHeld.2.1)))))))), ((cell_far (p := ⟨Zw, _, none⟩) Zba.out _).trans (((cell_far (p := ⟨Zw, _, none⟩) Zba.out _).trans (((cell_far (p := ⟨Zw, _, none⟩) Zba.out _).trans (((cell_far (p := ⟨Zw, _, none⟩) Zba.out _).trans (hHeld.2.2.1)))))))), ((cell_far (p := ⟨Zw, _, none⟩) Zba.out _).trans (((cell_far (p := ⟨Zw, _, none⟩) Zba.out _).trans (((cell_far (p := ⟨Zw, _, none⟩) Zba.out _).trans (((cell_far (p := ⟨Zw, _, none⟩) Zba.out _).trans (hHeld.2.2.2))))))))⟩ (fun hHeld => ?_)
    clear hK K
    refine pure_ (i := 8) (N := some 5) (v := ?_) (a' := ?_) #[true, true, true, true, true, true, true, true, true] rfl rfl (any_of HT_.out (by kernel_rfl)) (fun _ _ _ h => h) (Or.inl ⟨by rfl, ?_⟩) ?_ ?_
    rotate_left
    · intro w'
      go_simp
      with_reducible rfl
    rotate_left
    · simp only [Act.put, List.setIfInBounds_toArray, List.set_cons_zero, List.set_cons_succ, i64_w, i32_w]
      rfl
    refine done_ (done_of HT_.out (by kernel_rfl)) ?_
    have Zce := Zbb.out
    have Zcf := Zba.out
    have Zcg := Zbd.out
    have Zch := Zbc.out
    have Zci : w15.cell? ⟨Zw, 0, none⟩ = some (.int .i64 0) := (blk_cell Zx.out 0).trans rfl
    have Zcj : w15.cell? ⟨Zw, 1, none⟩ = some (.int .i64 0) := (blk_cell Zx.out 1).trans rfl
    have Zck : w15.cell? ⟨Zw, 2, none⟩ = some (.int .i64 0) := (blk_cell Zx.out 2).trans rfl
    have Zcm : w15.cell? ⟨Zw, 3, none⟩ = some (.int .i64 0) := (blk_cell Zx.out 3).trans rfl
    have Zcn := blk_frozen Zx.out 0
    have Zcp := blk_frozen Zx.out 1
    have Zcq := blk_frozen Zx.out 2
    have Zcr := blk_frozen Zx.out 3
    have Zcs : w15.cell? ⟨Ze, 0, none⟩ = some (.int .i64 0) := (blk_cell Zf.out 0).trans rfl
    have Zct : w15.cell? ⟨Ze, 1, none⟩ = some (.int .i64 0) := (blk_cell Zf.out 1).trans rfl
    have Zcu : w15.cell? ⟨Ze, 2, none⟩ = some (.int .i64 0) := (blk_cell Zf.out 2).trans rfl
    have Zcv : w15.cell? ⟨Ze, 3, none⟩ = some (.int .i64 0) := (blk_cell Zf.out 3).trans rfl
    have Zcw := blk_frozen Zf.out 0
    have Zcx := blk_frozen Zf.out 1
    have Zcy := blk_frozen Zf.out 2
    have Zcz := blk_frozen Zf.out 3
    try go_wp2
    refine bodyPost_ret (results_ct rfl _ _ Ze 25 #[.int .i64 t297, .int .i64 t298, .int .i64 t299, .int .i64 t300] (0, 0) _ rfl (by (with_reducible repeat (first | refine blk_drewN ?_ _ | refine blk_drew ?_ | refine blk_alloc ?_ _)); refine blk_put (cs := #[.int .i64 t297, .int .i64 t298, .int .i64 t299, .int .i64 0]) ?_ 3 _ rfl; (with_reducible repeat (first | refine blk_drewN ?_ _ | refine blk_drew ?_ | refine blk_alloc ?_ _)); refine blk_put (cs := #[.int .i64 t297, .int .i64 t298, .int .i64 0, .int .i64 0]) ?_ 2 _ rfl; (with_reducible repeat (first | refine blk_drewN ?_ _ | refine blk_drew ?_ | refine blk_alloc ?_ _)); refine blk_put (cs := #[.int .i64 t297, .int .i64 0, .int .i64 0, .int .i64 0]) ?_ 1 _ rfl; (with_reducible repeat (first | refine blk_drewN ?_ _ | refine blk_drew ?_ | refine blk_alloc ?_ _)); refine blk_put (cs := #[.int .i64 0, .int .i64 0, .int .i64 0, .int .i64 0]) ?_ 0 _ rfl; (with_reducible repeat (first | refine blk_drewN ?_ _ | refine blk_drew ?_ | refine blk_alloc ?_ _)); refine blk_far ?_ Zbc.out _; (with_reducible repeat (first | refine blk_drewN ?_ _ | refine blk_drew ?_ | refine blk_alloc ?_ _)); refine blk_far ?_ Zbc.out _; (with_reducible repeat (first | refine blk_drewN ?_ _ | refine blk_drew ?_ | refine blk_alloc ?_ _)); refine blk_far ?_ Zbc.out _; (with_reducible repeat (first | refine blk_drewN ?_ _ | refine blk_drew ?_ | refine blk_alloc ?_ _)); refine blk_far ?_ Zbc.out _; (with_reducible repeat (first | refine blk_drewN ?_ _ | refine blk_drew ?_ | refine blk_alloc ?_ _)); exact Zf.out) Try.underlying25 rfl (by kernel_rfl)) rfl ?_
    exact ⟨by first | rfl | (simp [errW_none, errW_some] <;> rfl) | (simp [*, errW_none, errW_some] <;> rfl), by repeat (first | (with_reducible first | exact HB.out | apply below_alloc | apply pw_below_drewN | apply below_drew1 | refine below_set ?_ Zd.out | refine below_set ?_ Zh.out | refine below_set ?_ Zz.out) | exact HB.out)⟩
  · replace c3 := Bool.eq_false_iff.mpr c3
    subst c3
    have H1 : (some (0, 0, 0, 0, false)) = some (r1, r2, r3, r4, r5) := by rw [if_neg (show ¬ (false = true) by decide)] at H; exact H
    clear H
    have H := H1
    clear H1
    simp only [Option.some.injEq, Prod.mk.injEq] at H
    obtain ⟨rfl, rfl, rfl, rfl, rfl⟩ := H
    go_enter Try.func28, Try.ntmps28
    go_wp2_with (first | ((with_reducible refine gate_dst (N := 1) rfl ?_); refine box_event ?hg (N := 1) ?hd (cs := #[.int .i64 a0_0, .int .i64 a0_1, .int .i64 a0_2, .int .i64 a0_3]) (t := 25) ?hr ?_; (case hd => rfl); (case hg => rfl); (case hr => first | (go_simp; done) | (go_simp; rfl)); intro Za hg w24 hbox hb; have n0_ := mA (below_step (by repeat (first | (with_reducible first | exact HB.out | apply below_alloc | apply pw_below_drewN | apply below_drew1) | exact HB.out)) hb); have n1_ := mA (hbox); have n2_ := mA ((by rw [hg]; exact (below_size (by repeat (first | (with_reducible first | exact HB.out | apply below_alloc | apply pw_below_drewN | apply below_drew1) | exact HB.out))) : w.heap.size ≤ Za)); have n3_ := mA ((by rw [hg]; exact (below_size (by repeat (first | (with_reducible first | exact HB.out | apply below_alloc | apply pw_below_drewN | apply below_drew1) | exact HB.out))) : w.heap.size ≤ Za)); clear HB; have HB := n0_; have Zb := n1_; have Zc := n2_; have Zd := n3_; clear n0_ n1_ n2_ n3_; clear hb hbox hg) | ((with_reducible refine gate_dst (N := 2) rfl ?_); refine box_event ?hg (N := 2) ?hd (cs := #[.int .i64 0, .int .i64 0, .int .i64 0, .int .i64 0]) (t := 25) ?hr ?_; (case hd => rfl); (case hg => rfl); (case hr => first | (go_simp; done) | (go_simp; rfl)); intro Ze hg w25 hbox hb; have n0_ := mA (blk_below (g := Za) (o := cQ25 a0_0 a0_1 a0_2 a0_3) Zb.out hb); have n1_ := mA (below_step (by repeat (first | (with_reducible first | exact HB.out | apply below_alloc | apply pw_below_drewN | apply below_drew1 | refine below_set ?_ Zd.out) | exact HB.out)) hb); have n2_ := mA (hbox); have n3_ := mA ((by rw [hg]; exact (below_size (by repeat (first | (with_reducible first | exact HB.out | apply below_alloc | apply pw_below_drewN | apply below_drew1 | refine below_set ?_ Zd.out) | exact HB.out))) : w.heap.size ≤ Ze)); have n4_ := mA ((by rw [hg]; exact (below_size (by repeat (first | (with_reducible first | exact HB.out | apply below_alloc | apply pw_below_drewN | apply below_drew1 | refine below_set ?_ Zd.out) | exact HB.out))) : w.heap.size ≤ Ze)); have n5_ := mA ((by rw [hg]; exact Nat.ne_of_lt (blk_lt (g := Za) (o := cQ25 a0_0 a0_1 a0_2 a0_3) Zb.out) : Za ≠ Ze)); have n6_ := mA ((by rw [hg]; exact Nat.ne_of_gt (blk_lt (g := Za) (o := cQ25 a0_0 a0_1 a0_2 a0_3) Zb.out) : Ze ≠ Za)); clear Zb; clear HB; have Zb := n0_; have HB := n1_; have Zf := n2_; have Zg := n3_; have Zh := n4_; have Zi := n5_; have Zj := n6_; clear n0_ n1_ n2_ n3_ n4_ n5_ n6_; clear hb hbox hg; have Zda := Zi.out; have Zdb := Zj.out; have Zdc : w25.cell? ⟨Za, 0, none⟩ = some (.int .i64 a0_0) := (blk_cell Zb.out 0).trans rfl; have Zdd : w25.cell? ⟨Za, 1, none⟩ = some (.int .i64 a0_1) := (blk_cell Zb.out 1).trans rfl; have Zde : w25.cell? ⟨Za, 2, none⟩ = some (.int .i64 a0_2) := (blk_cell Zb.out 2).trans rfl; have Zdf : w25.cell? ⟨Za, 3, none⟩ = some (.int .i64 a0_3) := (blk_cell Zb.out 3).trans rfl; have Zdg := blk_frozen Zb.out 0; have Zdh := blk_frozen Zb.out 1; have Zdi := blk_frozen Zb.out 2; have Zdj := blk_frozen Zb.out 3) | ((with_reducible refine gate_callee (f := 43) rfl ?_); refine goesL_ (some 7) rfl rfl Try.func43 (by kernel_rfl) rfl #[.agg #[.int .i64 a0_0, .int .i64 a0_1, .int .i64 a0_2, .int .i64 a0_3]] rfl (by (try simp only [List.map_toArray, List.map_cons, List.map_nil]); first | done | rfl | (simp only [List.length_drop, List.length_take]; rfl)) ?_; (with_reducible refine (impl_IntervalOk.calls a0_0 a0_1 a0_2 a0_3 false _ A2.out).mono ?_); rintro e w28 ⟨rfl, hb⟩; refine ⟨_, rfl, ?_⟩; have n0_ := mA (blk_below (g := Za) (o := cQ25 a0_0 a0_1 a0_2 a0_3) Zb.out hb); have n1_ := mA (blk_below (g := Ze) (o := cQ25 0 0 0 0) Zf.out hb); have n2_ := mA (below_step (by repeat (first | (with_reducible first | exact HB.out | apply below_alloc | apply pw_below_drewN | apply below_drew1 | refine below_set ?_ Zd.out | refine below_set ?_ Zh.out) | exact HB.out)) hb); clear Zb; clear Zf; clear HB; have Zb := n0_; have Zf := n1_; have HB := n2_; clear n0_ n1_ n2_; (try clear hb); (try clear hb2); (try clear hk); (try clear hi); have Zdk : w28.cell? ⟨Ze, 0, none⟩ = some (.int .i64 0) := (blk_cell Zf.out 0).trans rfl; have Zdm : w28.cell? ⟨Ze, 1, none⟩ = some (.int .i64 0) := (blk_cell Zf.out 1).trans rfl; have Zdn : w28.cell? ⟨Ze, 2, none⟩ = some (.int .i64 0) := (blk_cell Zf.out 2).trans rfl; have Zdp : w28.cell? ⟨Ze, 3, none⟩ = some (.int .i64 0) := (blk_cell Zf.out 3).trans rfl; have Zdq := blk_frozen Zf.out 0; have Zdr := blk_frozen Zf.out 1; have Zds := blk_frozen Zf.out 2; have Zdt := blk_frozen Zf.out 3))
    refine bodyPost_ret (results_ct rfl _ _ Ze 25 #[.int .i64 0, .int .i64 0, .int .i64 0, .int .i64 0] (0, 0) _ rfl (by (with_reducible repeat (first | refine blk_drewN ?_ _ | refine blk_drew ?_ | refine blk_alloc ?_ _)); refine blk_put (cs := #[.int .i64 0, .int .i64 0, .int .i64 0, .int .i64 0]) ?_ 3 _ rfl; (with_reducible repeat (first | refine blk_drewN ?_ _ | refine blk_drew ?_ | refine blk_alloc ?_ _)); refine blk_put (cs := #[.int .i64 0, .int .i64 0, .int .i64 0, .int .i64 0]) ?_ 2 _ rfl; (with_reducible repeat (first | refine blk_drewN ?_ _ | refine blk_drew ?_ | refine blk_alloc ?_ _)); refine blk_put (cs := #[.int .i64 0, .int .i64 0, .int .i64 0, .int .i64 0]) ?_ 1 _ rfl; (with_reducible repeat (first | refine blk_drewN ?_ _ | refine blk_drew ?_ | refine blk_alloc ?_ _)); refine blk_put (cs := #[.int .i64 0, .int .i64 0, .int .i64 0, .int .i64 0]) ?_ 0 _ rfl; (with_reducible repeat (first | refine blk_drewN ?_ _ | refine blk_drew ?_ | refine blk_alloc ?_ _)); exact Zf.out) Try.underlying25 rfl (by kernel_rfl)) rfl ?_
    exact ⟨by first | rfl | (simp [errW_none, errW_some] <;> rfl) | (simp [*, errW_none, errW_some] <;> rfl), by repeat (first | (with_reducible first | exact HB.out | apply below_alloc | apply pw_below_drewN | apply below_drew1 | refine below_set ?_ Zd.out | refine below_set ?_ Zh.out) | exact HB.out)⟩



end Go.Proofs.Ytfimodphnfejdaa.PFnOctaves
