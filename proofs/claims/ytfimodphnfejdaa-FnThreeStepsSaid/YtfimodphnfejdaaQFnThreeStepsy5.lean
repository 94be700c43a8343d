/- Contracts of the Go functions that the law FnThreeSteps reaches. Sections as the kit's print.sh writes them, put together by a program of this session (stq.py); what calls into Go's library is this session's walk over the kit's shelf contracts. -/
import Derived.Test.YtfimodphnfejdaaQFnThreeStepsy4
namespace Go.Proofs.Ytfimodphnfejdaa.PFnThreeSteps
open Go.RowKit Go.Proofs.YtfimodphnfejdaaW.PrintWords Go.Proofs.YtfimodphnfejdaaW.PrintLast Go.Proofs.YtfimodphnfejdaaW.PrintMore
attribute [local go_sem] max2_int min2_int max_two min_two max_three min_three max_four min_four
set_option linter.unusedVariables false
set_option linter.unusedSimpArgs false
attribute [local go_sem high] eqA25

/-! ### impl_minus: function 51 -/
def impl_minus.f (k : Nat) (a0_0 : Int) (a0_1 : Int) (a0_2 : Int) (a0_3 : Int) (a1_0 : Int) (a1_1 : Int) (a1_2 : Int) (a1_3 : Int) : Option (Int × Int × Int × Int × Bool) := (impl_negated.f a1_0 a1_1 a1_2 a1_3).bind fun bt225 => ((impl_AddIntervals.f k a0_0 a0_1 a0_2 a0_3 bt225.1 bt225.2.1 bt225.2.2.1 bt225.2.2.2).bind fun bt229 => (some (bt229.1, bt229.2.1, bt229.2.2.1, bt229.2.2.2.1, bt229.2.2.2.2)))
def impl_minus.T1 : Bool × List (List Nat × List Nat) := (true, [([], []), ([], []), ([1], [1]), ([0, 2, 2], [0, 2]), ([3], [3]), ([4], [4]), ([4], [4]), ([], []), ([7, 5, 3, 0, 1, 2, 3, 4, 5, 7], [5, 7]), ([6, 8, 0, 1, 2, 3, 4, 5, 6, 7, 8], [6])])
def impl_minus.B1 : List Nat := [0, 0, 2, 7, 15, 31, 31, 0, 191, 511]
theorem impl_minus.tab1 : rtab .any (opsOf Try.f51 1) = impl_minus.T1 := by kernel_rfl
theorem impl_minus.bits1 : waitsOk impl_minus.T1.2 impl_minus.B1 = true := by kernel_rfl
set_option maxHeartbeats 8000000 in
set_option maxRecDepth 100000 in
theorem impl_minus.calls (k : Nat) (a0_0 : Int) (a0_1 : Int) (a0_2 : Int) (a0_3 : Int) (a1_0 : Int) (a1_1 : Int) (a1_2 : Int) (a1_3 : Int) (r1 : Int) (r2 : Int) (r3 : Int) (r4 : Int) (r5 : Bool) (w : World) (h : impl_minus.f k a0_0 a0_1 a0_2 a0_3 a1_0 a1_1 a1_2 a1_3 = some (r1, r2, r3, r4, r5)) :
    Calls Try.prog 51 #[.agg #[.int .i64 a0_0, .int .i64 a0_1, .int .i64 a0_2, .int .i64 a0_3], .agg #[.int .i64 a1_0, .int .i64 a1_1, .int .i64 a1_2, .int .i64 a1_3]] w fun e w' => e = .returned (.tuple #[.agg #[.int .i64 r1, .int .i64 r2, .int .i64 r3, .int .i64 r4], .bool r5]) ∧ Below w.heap.size w w' := by
  have hu25 := Try.underlying25
  have HB := mA (Below.refl w.heap.size w)
  have H : ((impl_negated.f a1_0 a1_1 a1_2 a1_3).bind fun bt225 => ((impl_AddIntervals.f k a0_0 a0_1 a0_2 a0_3 bt225.1 bt225.2.1 bt225.2.2.1 bt225.2.2.2).bind fun bt229 => (some (bt229.1, bt229.2.1, bt229.2.2.1, bt229.2.2.2.1, bt229.2.2.2.2)))) = some (r1, r2, r3, r4, r5) := h
  clear h
  replace H := Option.bind_eq_some_iff.mp H
  obtain ⟨⟨t225, t226, t227, t228⟩, A30, H⟩ := H
  replace H : ((impl_AddIntervals.f k a0_0 a0_1 a0_2 a0_3 t225 t226 t227 t228).bind fun bt229 => (some (bt229.1, bt229.2.1, bt229.2.2.1, bt229.2.2.2.1, bt229.2.2.2.2))) = some (r1, r2, r3, r4, r5) := H
  have A3 := mA A30
  clear A30
  replace H := Option.bind_eq_some_iff.mp H
  obtain ⟨⟨t229, t230, t231, t232, t233⟩, A40, H⟩ := H
  replace H : (some (t229, t230, t231, t232, t233)) = some (r1, r2, r3, r4, r5) := H
  have A4 := mA A40
  clear A40
  simp only [Option.some.injEq, Prod.mk.injEq] at H
  obtain ⟨rfl, rfl, rfl, rfl, rfl⟩ := H
  go_enter Try.func51, Try.ntmps51
  try go_wp2_with (first | ((with_reducible refine gate_dst (N := 2) rfl ?_); refine box_event ?hg (N := 2) ?hd (cs := #[.int .i64 a0_0, .int .i64 a0_1, .int .i64 a0_2, .int .i64 a0_3]) (t := 25) ?hr ?_; (case hd => rfl); (case hg => rfl); (case hr => first | (go_simp; done) | (go_simp; rfl)); intro Za hg w5 hbox hb; have n0_ := mA (below_step (by repeat (first | (with_reducible first | exact HB.out | apply below_alloc | apply pw_below_drewN | apply below_drew1) | exact HB.out)) hb); have n1_ := mA (hbox); have n2_ := mA ((by rw [hg]; exact (below_size (by repeat (first | (with_reducible first | exact HB.out | apply below_alloc | apply pw_below_drewN | apply below_drew1) | exact HB.out))) : w.heap.size ≤ Za)); have n3_ := mA ((by rw [hg]; exact (below_size (by repeat (first | (with_reducible first | exact HB.out | apply below_alloc | apply pw_below_drewN | apply below_drew1) | exact HB.out))) : w.heap.size ≤ Za)); clear HB; have HB := n0_; have Zb := n1_; have Zc := n2_; have Zd := n3_; clear n0_ n1_ n2_ n3_; clear hb hbox hg) | ((with_reducible refine gate_dst (N := 3) rfl ?_); refine box_event ?hg (N := 3) ?hd (cs := #[.int .i64 a1_0, .int .i64 a1_1, .int .i64 a1_2, .int .i64 a1_3]) (t := 25) ?hr ?_; (case hd => rfl); (case hg => rfl); (case hr => first | (go_simp; done) | (go_simp; rfl)); intro Ze hg w6 hbox hb; have n0_ := mA (blk_below (g := Za) (o := cQ25 a0_0 a0_1 a0_2 a0_3) Zb.out hb); have n1_ := mA (below_step (by repeat (first | (with_reducible first | exact HB.out | apply below_alloc | apply pw_below_drewN | apply below_drew1 | refine below_set ?_ Zd.out) | exact HB.out)) hb); have n2_ := mA (hbox); have n3_ := mA ((by rw [hg]; exact (below_size (by repeat (first | (with_reducible first | exact HB.out | apply below_alloc | apply pw_below_drewN | apply below_drew1 | refine below_set ?_ Zd.out) | exact HB.out))) : w.heap.size ≤ Ze)); have n4_ := mA ((by rw [hg]; exact (below_size (by repeat (first | (with_reducible first | exact HB.out | apply below_alloc | apply pw_below_drewN | apply below_drew1 | refine below_set ?_ Zd.out) | exact HB.out))) : w.heap.size ≤ Ze)); have n5_ := mA ((by rw [hg]; exact Nat.ne_of_lt (blk_lt (g := Za) (o := cQ25 a0_0 a0_1 a0_2 a0_3) Zb.out) : Za ≠ Ze)); have n6_ := mA ((by rw [hg]; exact Nat.ne_of_gt (blk_lt (g := Za) (o := cQ25 a0_0 a0_1 a0_2 a0_3) Zb.out) : Ze ≠ Za)); clear Zb; clear HB; have Zb := n0_; have HB := n1_; have Zf := n2_; have Zg := n3_; have Zh := n4_; have Zi := n5_; have Zj := n6_; clear n0_ n1_ n2_ n3_ n4_ n5_ n6_; clear hb hbox hg) | ((with_reducible refine gate_dst (N := 4) rfl ?_); refine box_event ?hg (N := 4) ?hd (cs := #[.int .i64 0, .int .i64 0, .int .i64 0, .int .i64 0]) (t := 25) ?hr ?_; (case hd => rfl); (case hg => rfl); (case hr => first | (go_simp; done) | (go_simp; rfl)); intro Zk hg w7 hbox hb; have n0_ := mA (blk_below (g := Za) (o := cQ25 a0_0 a0_1 a0_2 a0_3) Zb.out hb); have n1_ := mA (blk_below (g := Ze) (o := cQ25 a1_0 a1_1 a1_2 a1_3) Zf.out hb); have n2_ := mA (below_step (by repeat (first | (with_reducible first | exact HB.out | apply below_alloc | apply pw_below_drewN | apply below_drew1 | refine below_set ?_ Zd.out | refine below_set ?_ Zh.out) | exact HB.out)) hb); have n3_ := mA (hbox); have n4_ := mA ((by rw [hg]; exact (below_size (by repeat (first | (with_reducible first | exact HB.out | apply below_alloc | apply pw_below_drewN | apply below_drew1 | refine below_set ?_ Zd.out | refine below_set ?_ Zh.out) | exact HB.out))) : w.heap.size ≤ Zk)); have n5_ := mA ((by rw [hg]; exact (below_size (by repeat (first | (with_reducible first | exact HB.out | apply below_alloc | apply pw_below_drewN | apply below_drew1 | refine below_set ?_ Zd.out | refine below_set ?_ Zh.out) | exact HB.out))) : w.heap.size ≤ Zk)); have n6_ := mA ((by rw [hg]; exact Nat.ne_of_lt (blk_lt (g := Za) (o := cQ25 a0_0 a0_1 a0_2 a0_3) Zb.out) : Za ≠ Zk)); have n7_ := mA ((by rw [hg]; exact Nat.ne_of_gt (blk_lt (g := Za) (o := cQ25 a0_0 a0_1 a0_2 a0_3) Zb.out) : Zk ≠ Za)); have n8_ := mA ((by rw [hg]; exact Nat.ne_of_lt (blk_lt (g := Ze) (o := cQ25 a1_0 a1_1 a1_2 a1_3) Zf.out) : Ze ≠ Zk)); have n9_ := mA ((by rw [hg]; exact Nat.ne_of_gt (blk_lt (g := Ze) (o := cQ25 a1_0 a1_1 a1_2 a1_3) Zf.out) : Zk ≠ Ze)); clear Zb; clear Zf; clear HB; have Zb := n0_; have Zf := n1_; have HB := n2_; have Zm := n3_; have Zn := n4_; have Zp := n5_; have Zq := n6_; have Zr := n7_; have Zs := n8_; have Zt := n9_; clear n0_ n1_ n2_ n3_ n4_ n5_ n6_ n7_ n8_ n9_; clear hb hbox hg))
  have n0_ := mA (blk_drew Zb.out)
  have n1_ := mA (blk_drew Zf.out)
  have n2_ := mA (blk_drew Zm.out)
  have n3_ := mA (below_drew1 HB.out)
  clear Zb
  clear Zf
  clear Zm
  clear HB
  have Zb := n0_
  have Zf := n1_
  have Zm := n2_
  have HB := n3_
  clear n0_ n1_ n2_ n3_
  refine start_ (n := 10) (S := fun w' => w'.cell? ⟨Za, 0, none⟩ = some (.int .i64 a0_0) ∧ w'.cell? ⟨Za, 1, none⟩ = some (.int .i64 a0_1) ∧ w'.cell? ⟨Za, 2, none⟩ = some (.int .i64 a0_2) ∧ w'.cell? ⟨Za, 3, none⟩ = some (.int .i64 a0_3) ∧ w'.cell? ⟨Ze, 0, none⟩ = some (.int .i64 a1_0) ∧ w'.cell? ⟨Ze, 1, none⟩ = some (.int .i64 a1_1) ∧ w'.cell? ⟨Ze, 2, none⟩ = some (.int .i64 a1_2) ∧ w'.cell? ⟨Ze, 3, none⟩ = some (.int .i64 a1_3)) (ds := []) #[false, false, false, false, false, false, false, false, false, false] (by kernel_rfl) rfl rfl ⟨(blk_cell Zb.out 0).trans rfl, (blk_cell Zb.out 1).trans rfl, (blk_cell Zb.out 2).trans rfl, (blk_cell Zb.out 3).trans rfl, (blk_cell Zf.out 0).trans rfl, (blk_cell Zf.out 1).trans rfl, (blk_cell Zf.out 2).trans rfl, (blk_cell Zf.out 3).trans rfl⟩ (fun hHeld => ?_); refine with_tabW impl_minus.tab1 impl_minus.bits1 (fun HT_ HW_ => ?_)
  generalize w7.drew = w8 at Zb Zf Zm HB hHeld ⊢
  refine take_ (i := 0) (N := some 9) (v := ?_) (a' := ?_) #[true, false, false, false, false, false, false, false, false, false] rfl rfl (take_ofW HT_.out HW_.out (by kernel_rfl)) (fun _ _ _ h => h) (Or.inl ⟨by rfl, ?_⟩) hHeld ?_ ?_
  rotate_left
  · rintro w' ⟨s0, s1, s2, s3, s4, s5, s6, s7⟩
    go_simp
    with_reducible rfl
  rotate_left
  · simp only [Act.put, List.setIfInBounds_toArray, List.set_cons_zero, List.set_cons_succ, i64_w, i32_w]
    rfl
  refine take_ (i := 1) (N := some 10) (v := ?_) (a' := ?_) #[true, true, false, false, false, false, false, false, false, false] rfl rfl (take_ofW HT_.out HW_.out (by kernel_rfl)) (fun _ _ _ h => h) (Or.inl ⟨by rfl, ?_⟩) hHeld ?_ ?_
  rotate_left
  · rintro w' ⟨s0, s1, s2, s3, s4, s5, s6, s7⟩
    go_simp
    with_reducible rfl
  rotate_left
  · simp only [Act.put, List.setIfInBounds_toArray, List.set_cons_zero, List.set_cons_succ, i64_w, i32_w]
    rfl
  refine join_ (σ := Nat) 2 #[true, true, true, true, true, true, true, true, false, false] (fun s_ => [(11, .agg #[.int .i64 t225, .int .i64 t226, .int .i64 t227, .int .i64 t228]), (12, .tuple #[.agg #[.int .i64 t229, .int .i64 t230, .int .i64 t231, .int .i64 t232], .bool t233]), (6, .pointer (some ⟨s_, 0, none⟩)), (8, .tuple #[.agg #[.int .i64 t229, .int .i64 t230, .int .i64 t231, .int .i64 t232], .bool t233]), (13, .agg #[.int .i64 t229, .int .i64 t230, .int .i64 t231, .int .i64 t232]), (14, .bool t233)]) (fun s_ w' => (w'.cell? ⟨Za, 0, none⟩ = some (.int .i64 a0_0) ∧ w'.cell? ⟨Za, 1, none⟩ = some (.int .i64 a0_1) ∧ w'.cell? ⟨Za, 2, none⟩ = some (.int .i64 a0_2) ∧ w'.cell? ⟨Za, 3, none⟩ = some (.int .i64 a0_3) ∧ w'.cell? ⟨Ze, 0, none⟩ = some (.int .i64 a1_0) ∧ w'.cell? ⟨Ze, 1, none⟩ = some (.int .i64 a1_1) ∧ w'.cell? ⟨Ze, 2, none⟩ = some (.int .i64 a1_2) ∧ w'.cell? ⟨Ze, 3, none⟩ = some (.int .i64 a1_3)) ∧ (w'.heap[Za]? = some (.cells #[.int .i64 a0_0, .int .i64 a0_1, .int .i64 a0_2, .int .i64 a0_3] 25 (0, 0))) ∧ (w'.heap[Ze]? = some (.cells #[.int .i64 a1_0, .int .i64 a1_1, .int .i64 a1_2, .int .i64 a1_3] 25 (0, 0))) ∧ (w'.heap[Zk]? = some (.cells #[.int .i64 0, .int .i64 0, .int .i64 0, .int .i64 0] 25 (0, 0))) ∧ (w'.heap[s_]? = some (.cells #[.int .i64 0, .int .i64 0, .int .i64 0, .int .i64 0] 25 (0, 0))) ∧ (w.heap.size ≤ s_) ∧ (w.heap.size ≤ s_) ∧ (Za ≠ s_) ∧ (s_ ≠ Za) ∧ (Ze ≠ s_) ∧ (s_ ≠ Ze) ∧ (Zk ≠ s_) ∧ (s_ ≠ Zk) ∧ (Below w.heap.size w w')) ?_ ?_
  rotate_left
  · intro hCont
    refine two_ (i := 2) (j := 7) (Ni := some 11) (Nj := some 6) #[true, true, true, false, false, false, false, false, false, false] #[true, true, false, false, false, false, false, true, false, false] rfl rfl rfl rfl (two_of HT_.out (by kernel_rfl)) (by decide) (by decide) (fun K hK => ?_) (fun K hK => ?_)
    · skip
      refine goes_ Try.func65 (by kernel_rfl) rfl #[.agg #[.int .i64 a1_0, .int .i64 a1_1, .int .i64 a1_2, .int .i64 a1_3]] (by rfl) rfl rfl (by (try simp only [List.map_toArray, List.map_cons, List.map_nil]); first | done | rfl | (simp only [List.length_drop, List.length_take]; rfl)) ?_
      with_reducible refine (impl_negated.calls a1_0 a1_1 a1_2 a1_3 t225 t226 t227 t228 _ A3.out).mono ?_
      rintro e w9 ⟨rfl, hb⟩
      refine ⟨_, rfl, ?_⟩
      have n0_ := mA (blk_below (g := Za) (o := cQ25 a0_0 a0_1 a0_2 a0_3) Zb.out hb)
      have n1_ := mA (blk_below (g := Ze) (o := cQ25 a1_0 a1_1 a1_2 a1_3) Zf.out hb)
      have n2_ := mA (blk_below (g := Zk) (o := cQ25 0 0 0 0) Zm.out hb)
      have n3_ := mA (below_step (by repeat (first | (with_reducible first | exact HB.out | apply below_alloc | apply pw_below_drewN | apply below_drew1 | refine below_set ?_ Zd.out | refine below_set ?_ Zh.out | refine below_set ?_ Zp.out) | exact HB.out)) hb)
      clear Zb
      clear Zf
      clear Zm
      clear HB
      have Zb := n0_
      have Zf := n1_
      have Zm := n2_
      have HB := n3_
      clear n0_ n1_ n2_ n3_
      (try clear hb)
      (try clear hb2)
      (try clear hk)
      (try clear hi)
      refine hK.out _ _ ⟨(blk_cell Zb.out 0).trans rfl, (blk_cell Zb.out 1).trans rfl, (blk_cell Zb.out 2).trans rfl, (blk_cell Zb.out 3).trans rfl, (blk_cell Zf.out 0).trans rfl, (blk_cell Zf.out 1).trans rfl, (blk_cell Zf.out 2).trans rfl, (blk_cell Zf.out 3).trans rfl⟩ (fun hHeld => ?_)
      clear hK K
      refine norm_ (a' := ?_) ?_ ?_
      rotate_left
      · show Act.put _ (some 11) _ = _
        simp only [Act.put, List.setIfInBounds_toArray, List.set_cons_zero, List.set_cons_succ, i64_w, i32_w]
        rfl
      refine two_ (i := 3) (j := 7) (Ni := some 12) (Nj := some 6) #[true, true, true, true, false, false, false, false, false, false] #[true, true, true, false, false, false, false, true, false, false] rfl rfl rfl rfl (two_of HT_.out (by kernel_rfl)) (by decide) (by decide) (fun K hK => ?_) (fun K hK => ?_)
      · skip
        refine goes_ Try.func24 (by kernel_rfl) rfl #[.agg #[.int .i64 a0_0, .int .i64 a0_1, .int .i64 a0_2, .int .i64 a0_3], .agg #[.int .i64 t225, .int .i64 t226, .int .i64 t227, .int .i64 t228]] (by rfl) rfl rfl (by (try simp only [List.map_toArray, List.map_cons, List.map_nil]); first | done | rfl | (simp only [List.length_drop, List.length_take]; rfl)) ?_
        with_reducible refine (impl_AddIntervals.calls k a0_0 a0_1 a0_2 a0_3 t225 t226 t227 t228 t229 t230 t231 t232 t233 _ A4.out).mono ?_
        rintro e w10 ⟨rfl, hb⟩
        refine ⟨_, rfl, ?_⟩
        have n0_ := mA (blk_below (g := Za) (o := cQ25 a0_0 a0_1 a0_2 a0_3) Zb.out hb)
        have n1_ := mA (blk_below (g := Ze) (o := cQ25 a1_0 a1_1 a1_2 a1_3) Zf.out hb)
        have n2_ := mA (blk_below (g := Zk) (o := cQ25 0 0 0 0) Zm.out hb)
        have n3_ := mA (below_step (by repeat (first | (with_reducible first | exact HB.out | apply below_alloc | apply pw_below_drewN | apply below_drew1 | refine below_set ?_ Zd.out | refine below_set ?_ Zh.out | refine below_set ?_ Zp.out) | exact HB.out)) hb)
        clear Zb
        clear Zf
        clear Zm
        clear HB
        have Zb := n0_
        have Zf := n1_
        have Zm := n2_
        have HB := n3_
        clear n0_ n1_ n2_ n3_
        (try clear hb)
        (try clear hb2)
        (try clear hk)
        (try clear hi)
        refine hK.out _ _ ⟨(blk_cell Zb.out 0).trans rfl, (blk_cell Zb.out 1).trans rfl, (blk_cell Zb.out 2).trans rfl, (blk_cell Zb.out 3).trans rfl, (blk_cell Zf.out 0).trans rfl, (blk_cell Zf.out 1).trans rfl, (blk_cell Zf.out 2).trans rfl, (blk_cell Zf.out 3).trans rfl⟩ (fun hHeld => ?_)
        clear hK K
        refine norm_ (a' := ?_) ?_ ?_
        rotate_left
        · show Act.put _ (some 12) _ = _
          simp only [Act.put, List.setIfInBounds_toArray, List.set_cons_zero, List.set_cons_succ, i64_w, i32_w]
          rfl
        refine pure_ (i := 4) (N := some 8) (v := ?_) (a' := ?_) #[true, true, true, true, true, false, false, false, false, false] rfl rfl (any_of HT_.out (by kernel_rfl)) (fun _ _ _ h => h) (Or.inl ⟨by rfl, ?_⟩) ?_ ?_
        rotate_left
        · intro w'
          go_simp
          with_reducible rfl
        rotate_left
        · simp only [Act.put, List.setIfInBounds_toArray, List.set_cons_zero, List.set_cons_succ, i64_w, i32_w]
          rfl
        refine pure_ (i := 5) (N := some 13) (v := ?_) (a' := ?_) #[true, true, true, true, true, true, false, false, false, false] rfl rfl (any_of HT_.out (by kernel_rfl)) (fun _ _ _ h => h) (Or.inl ⟨by rfl, ?_⟩) ?_ ?_
        rotate_left
        · intro w'
          go_simp
          with_reducible rfl
        rotate_left
        · simp only [Act.put, List.setIfInBounds_toArray, List.set_cons_zero, List.set_cons_succ, i64_w, i32_w]
          rfl
        refine pure_ (i := 6) (N := some 14) (v := ?_) (a' := ?_) #[true, true, true, true, true, true, true, false, false, false] rfl rfl (any_of HT_.out (by kernel_rfl)) (fun _ _ _ h => h) (Or.inl ⟨by rfl, ?_⟩) ?_ ?_
        rotate_left
        · intro w'
          go_simp
          with_reducible rfl
        rotate_left
        · simp only [Act.put, List.setIfInBounds_toArray, List.set_cons_zero, List.set_cons_succ, i64_w, i32_w]
          rfl
        refine one_ (i := 7) (N := some 6) #[true, true, true, true, true, true, true, true, false, false] rfl rfl (one_of HT_.out (by kernel_rfl)) (by decide) (fun K hK => ?_)
        refine box_step ?hg (N := 6) ?hd (cs := #[.int .i64 0, .int .i64 0, .int .i64 0, .int .i64 0]) (t := 25) ?hr ?_; (case hd => rfl); (case hg => rfl); (case hr => first | (go_simp; done) | (go_simp; rfl))
        intro Zu hg w11 hbox hb
        have n0_ := mA (blk_below (g := Za) (o := cQ25 a0_0 a0_1 a0_2 a0_3) Zb.out hb)
        have n1_ := mA (blk_below (g := Ze) (o := cQ25 a1_0 a1_1 a1_2 a1_3) Zf.out hb)
        have n2_ := mA (blk_below (g := Zk) (o := cQ25 0 0 0 0) Zm.out hb)
        have n3_ := mA (below_step (by repeat (first | (with_reducible first | exact HB.out | apply below_alloc | apply pw_below_drewN | apply below_drew1 | refine below_set ?_ Zd.out | refine below_set ?_ Zh.out | refine below_set ?_ Zp.out) | exact HB.out)) hb)
        have n4_ := mA (hbox)
        have n5_ := mA ((by rw [hg]; exact (below_size (by repeat (first | (with_reducible first | exact HB.out | apply below_alloc | apply pw_below_drewN | apply below_drew1 | refine below_set ?_ Zd.out | refine below_set ?_ Zh.out | refine below_set ?_ Zp.out) | exact HB.out))) : w.heap.size ≤ Zu))
        have n6_ := mA ((by rw [hg]; exact (below_size (by repeat (first | (with_reducible first | exact HB.out | apply below_alloc | apply pw_below_drewN | apply below_drew1 | refine below_set ?_ Zd.out | refine below_set ?_ Zh.out | refine below_set ?_ Zp.out) | exact HB.out))) : w.heap.size ≤ Zu))
        have n7_ := mA ((by rw [hg]; exact Nat.ne_of_lt (blk_lt (g := Za) (o := cQ25 a0_0 a0_1 a0_2 a0_3) Zb.out) : Za ≠ Zu))
        have n8_ := mA ((by rw [hg]; exact Nat.ne_of_gt (blk_lt (g := Za) (o := cQ25 a0_0 a0_1 a0_2 a0_3) Zb.out) : Zu ≠ Za))
        have n9_ := mA ((by rw [hg]; exact Nat.ne_of_lt (blk_lt (g := Ze) (o := cQ25 a1_0 a1_1 a1_2 a1_3) Zf.out) : Ze ≠ Zu))
        have n10_ := mA ((by rw [hg]; exact Nat.ne_of_gt (blk_lt (g := Ze) (o := cQ25 a1_0 a1_1 a1_2 a1_3) Zf.out) : Zu ≠ Ze))
        have n11_ := mA ((by rw [hg]; exact Nat.ne_of_lt (blk_lt (g := Zk) (o := cQ25 0 0 0 0) Zm.out) : Zk ≠ Zu))
        have n12_ := mA ((by rw [hg]; exact Nat.ne_of_gt (blk_lt (g := Zk) (o := cQ25 0 0 0 0) Zm.out) : Zu ≠ Zk))
        clear Zb
        clear Zf
        clear Zm
        clear HB
        have Zb := n0_
        have Zf := n1_
        have Zm := n2_
        have HB := n3_
        have Zv := n4_
        have Zw := n5_
        have Zx := n6_
        have Zy := n7_
        have Zz := n8_
        have Zba := n9_
        have Zbb := n10_
        have Zbc := n11_
        have Zbd := n12_
        clear n0_ n1_ n2_ n3_ n4_ n5_ n6_ n7_ n8_ n9_ n10_ n11_ n12_
        clear hb hbox hg
        refine hK.out _ _ ⟨(blk_cell Zb.out 0).trans rfl, (blk_cell Zb.out 1).trans rfl, (blk_cell Zb.out 2).trans rfl, (blk_cell Zb.out 3).trans rfl, (blk_cell Zf.out 0).trans rfl, (blk_cell Zf.out 1).trans rfl, (blk_cell Zf.out 2).trans rfl, (blk_cell Zf.out 3).trans rfl⟩ (fun hHeld => ?_)
        clear hK K
        refine norm_ (a' := ?_) ?_ ?_
        rotate_left
        · show Act.put _ (some 6) _ = _
          simp only [Act.put, List.setIfInBounds_toArray, List.set_cons_zero, List.set_cons_succ, i64_w, i32_w]
          rfl
        exact norm_ (by simp only [putAll, Act.put, List.setIfInBounds_toArray, List.set_cons_zero, List.set_cons_succ]) (hCont (Zu) _ ⟨hHeld, Zb.out, Zf.out, Zm.out, Zv.out, Zw.out, Zx.out, Zy.out, Zz.out, Zba.out, Zbb.out, Zbc.out, Zbd.out, (by repeat (first | (with_reducible first | exact HB.out | apply below_alloc | apply pw_below_drewN | apply below_drew1 | refine below_set ?_ Zd.out | refine below_set ?_ Zh.out | refine below_set ?_ Zp.out | refine below_set ?_ Zx.out) | exact HB.out))⟩)
      · skip
        refine box_step ?hg (N := 6) ?hd (cs := #[.int .i64 0, .int .i64 0, .int .i64 0, .int .i64 0]) (t := 25) ?hr ?_; (case hd => rfl); (case hg => rfl); (case hr => first | (go_simp; done) | (go_simp; rfl))
        intro Zu hg w10 hbox hb
        have n0_ := mA (blk_below (g := Za) (o := cQ25 a0_0 a0_1 a0_2 a0_3) Zb.out hb)
        have n1_ := mA (blk_below (g := Ze) (o := cQ25 a1_0 a1_1 a1_2 a1_3) Zf.out hb)
        have n2_ := mA (blk_below (g := Zk) (o := cQ25 0 0 0 0) Zm.out hb)
        have n3_ := mA (below_step (by repeat (first | (with_reducible first | exact HB.out | apply below_alloc | apply pw_below_drewN | apply below_drew1 | refine below_set ?_ Zd.out | refine below_set ?_ Zh.out | refine below_set ?_ Zp.out) | exact HB.out)) hb)
        have n4_ := mA (hbox)
        have n5_ := mA ((by rw [hg]; exact (below_size (by repeat (first | (with_reducible first | exact HB.out | apply below_alloc | apply pw_below_drewN | apply below_drew1 | refine below_set ?_ Zd.out | refine below_set ?_ Zh.out | refine below_set ?_ Zp.out) | exact HB.out))) : w.heap.size ≤ Zu))
        have n6_ := mA ((by rw [hg]; exact (below_size (by repeat (first | (with_reducible first | exact HB.out | apply below_alloc | apply pw_below_drewN | apply below_drew1 | refine below_set ?_ Zd.out | refine below_set ?_ Zh.out | refine below_set ?_ Zp.out) | exact HB.out))) : w.heap.size ≤ Zu))
        have n7_ := mA ((by rw [hg]; exact Nat.ne_of_lt (blk_lt (g := Za) (o := cQ25 a0_0 a0_1 a0_2 a0_3) Zb.out) : Za ≠ Zu))
        have n8_ := mA ((by rw [hg]; exact Nat.ne_of_gt (blk_lt (g := Za) (o := cQ25 a0_0 a0_1 a0_2 a0_3) Zb.out) : Zu ≠ Za))
        have n9_ := mA ((by rw [hg]; exact Nat.ne_of_lt (blk_lt (g := Ze) (o := cQ25 a1_0 a1_1 a1_2 a1_3) Zf.out) : Ze ≠ Zu))
        have n10_ := mA ((by rw [hg]; exact Nat.ne_of_gt (blk_lt (g := Ze) (o := cQ25 a1_0 a1_1 a1_2 a1_3) Zf.out) : Zu ≠ Ze))
        have n11_ := mA ((by rw [hg]; exact Nat.ne_of_lt (blk_lt (g := Zk) (o := cQ25 0 0 0 0) Zm.out) : Zk ≠ Zu))
        have n12_ := mA ((by rw [hg]; exact Nat.ne_of_gt (blk_lt (g := Zk) (o := cQ25 0 0 0 0) Zm.out) : Zu ≠ Zk))
        clear Zb
        clear Zf
        clear Zm
        clear HB
        have Zb := n0_
        have Zf := n1_
        have Zm := n2_
        have HB := n3_
        have Zv := n4_
        have Zw := n5_
        have Zx := n6_
        have Zy := n7_
        have Zz := n8_
        have Zba := n9_
        have Zbb := n10_
        have Zbc := n11_
        have Zbd := n12_
        clear n0_ n1_ n2_ n3_ n4_ n5_ n6_ n7_ n8_ n9_ n10_ n11_ n12_
        clear hb hbox hg
        refine hK.out _ _ ⟨(blk_cell Zb.out 0).trans rfl, (blk_cell Zb.out 1).trans rfl, (blk_cell Zb.out 2).trans rfl, (blk_cell Zb.out 3).trans rfl, (blk_cell Zf.out 0).trans rfl, (blk_cell Zf.out 1).trans rfl, (blk_cell Zf.out 2).trans rfl, (blk_cell Zf.out 3).trans rfl⟩ (fun hHeld => ?_)
        clear hK K
        refine norm_ (a' := ?_) ?_ ?_
        rotate_left
        · show Act.put _ (some 6) _ = _
          simp only [Act.put, List.setIfInBounds_toArray, List.set_cons_zero, List.set_cons_succ, i64_w, i32_w]
          rfl
        refine one_ (i := 3) (N := some 12) #[true, true, true, true, false, false, false, true, false, false] rfl rfl (one_of HT_.out (by kernel_rfl)) (by decide) (fun K hK => ?_)
        refine goes_ Try.func24 (by kernel_rfl) rfl #[.agg #[.int .i64 a0_0, .int .i64 a0_1, .int .i64 a0_2, .int .i64 a0_3], .agg #[.int .i64 t225, .int .i64 t226, .int .i64 t227, .int .i64 t228]] (by rfl) rfl rfl (by (try simp only [List.map_toArray, List.map_cons, List.map_nil]); first | done | rfl | (simp only [List.length_drop, List.length_take]; rfl)) ?_
        with_reducible refine (impl_AddIntervals.calls k a0_0 a0_1 a0_2 a0_3 t225 t226 t227 t228 t229 t230 t231 t232 t233 _ A4.out).mono ?_
        rintro e w11 ⟨rfl, hb⟩
        refine ⟨_, rfl, ?_⟩
        have n0_ := mA (blk_below (g := Za) (o := cQ25 a0_0 a0_1 a0_2 a0_3) Zb.out hb)
        have n1_ := mA (blk_below (g := Ze) (o := cQ25 a1_0 a1_1 a1_2 a1_3) Zf.out hb)
        have n2_ := mA (blk_below (g := Zk) (o := cQ25 0 0 0 0) Zm.out hb)
        have n3_ := mA (blk_below (g := Zu) (o := cQ25 0 0 0 0) Zv.out hb)
        have n4_ := mA (below_step (by repeat (first | (with_reducible first | exact HB.out | apply below_alloc | apply pw_below_drewN | apply below_drew1 | refine below_set ?_ Zd.out | refine below_set ?_ Zh.out | refine below_set ?_ Zp.out | refine below_set ?_ Zx.out) | exact HB.out)) hb)
        clear Zb
        clear Zf
        clear Zm
        clear Zv
        clear HB
        have Zb := n0_
        have Zf := n1_
        have Zm := n2_
        have Zv := n3_
        have HB := n4_
        clear n0_ n1_ n2_ n3_ n4_
        (try clear hb)
        (try clear hb2)
        (try clear hk)
        (try clear hi)
        refine hK.out _ _ ⟨(blk_cell Zb.out 0).trans rfl, (blk_cell Zb.out 1).trans rfl, (blk_cell Zb.out 2).trans rfl, (blk_cell Zb.out 3).trans rfl, (blk_cell Zf.out 0).trans rfl, (blk_cell Zf.out 1).trans rfl, (blk_cell Zf.out 2).trans rfl, (blk_cell Zf.out 3).trans rfl⟩ (fun hHeld => ?_)
        clear hK K
        refine norm_ (a' := ?_) ?_ ?_
        rotate_left
        · show Act.put _ (some 12) _ = _
          simp only [Act.put, List.setIfInBounds_toArray, List.set_cons_zero, List.set_cons_succ, i64_w, i32_w]
          rfl
        refine pure_ (i := 4) (N := some 8) (v := ?_) (a' := ?_) #[true, true, true, true, true, false, false, true, false, false] rfl rfl (any_of HT_.out (by kernel_rfl)) (fun _ _ _ h => h) (Or.inl ⟨by rfl, ?_⟩) ?_ ?_
        rotate_left
        · intro w'
          go_simp
          with_reducible rfl
        rotate_left
        · simp only [Act.put, List.setIfInBounds_toArray, List.set_cons_zero, List.set_cons_succ, i64_w, i32_w]
          rfl
        refine pure_ (i := 5) (N := some 13) (v := ?_) (a' := ?_) #[true, true, true, true, true, true, false, true, false, false] rfl rfl (any_of HT_.out (by kernel_rfl)) (fun _ _ _ h => h) (Or.inl ⟨by rfl, ?_⟩) ?_ ?_
        rotate_left
        · intro w'
          go_simp
          with_reducible rfl
        rotate_left
        · simp only [Act.put, List.setIfInBounds_toArray, List.set_cons_zero, List.set_cons_succ, i64_w, i32_w]
          rfl
        refine pure_ (i := 6) (N := some 14) (v := ?_) (a' := ?_) #[true, true, true, true, true, true, true, true, false, false] rfl rfl (any_of HT_.out (by kernel_rfl)) (fun _ _ _ h => h) (Or.inl ⟨by rfl, ?_⟩) ?_ ?_
        rotate_left
        · intro w'
          go_simp
          with_reducible rfl
        rotate_left
        · simp only [Act.put, List.setIfInBounds_toArray, List.set_cons_zero, List.set_cons_succ, i64_w, i32_w]
          rfl
        exact norm_ (by simp only [putAll, Act.put, List.setIfInBounds_toArray, List.set_cons_zero, List.set_cons_succ]) (hCont (Zu) _ ⟨hHeld, Zb.out, Zf.out, Zm.out, Zv.out, Zw.out, Zx.out, Zy.out, Zz.out, Zba.out, Zbb.out, Zbc.out, Zbd.out, (by repeat (first | (with_reducible first | exact HB.out | apply below_alloc | apply pw_below_drewN | apply below_drew1 | refine below_set ?_ Zd.out | refine below_set ?_ Zh.out | refine below_set ?_ Zp.out | refine below_set ?_ Zx.out) | exact HB.out))⟩)
    · skip
      refine box_step ?hg (N := 6) ?hd (cs := #[.int .i64 0, .int .i64 0, .int .i64 0, .int .i64 0]) (t := 25) ?hr ?_; (case hd => rfl); (case hg => rfl); (case hr => first | (go_simp; done) | (go_simp; rfl))
      intro Zu hg w9 hbox hb
      have n0_ := mA (blk_below (g := Za) (o := cQ25 a0_0 a0_1 a0_2 a0_3) Zb.out hb)
      have n1_ := mA (blk_below (g := Ze) (o := cQ25 a1_0 a1_1 a1_2 a1_3) Zf.out hb)
      have n2_ := mA (blk_below (g := Zk) (o := cQ25 0 0 0 0) Zm.out hb)
      have n3_ := mA (below_step (by repeat (first | (with_reducible first | exact HB.out | apply below_alloc | apply pw_below_drewN | apply below_drew1 | refine below_set ?_ Zd.out | refine below_set ?_ Zh.out | refine below_set ?_ Zp.out) | exact HB.out)) hb)
      have n4_ := mA (hbox)
      have n5_ := mA ((by rw [hg]; exact (below_size (by repeat (first | (with_reducible first | exact HB.out | apply below_alloc | apply pw_below_drewN | apply below_drew1 | refine below_set ?_ Zd.out | refine below_set ?_ Zh.out | refine below_set ?_ Zp.out) | exact HB.out))) : w.heap.size ≤ Zu))
      have n6_ := mA ((by rw [hg]; exact (below_size (by repeat (first | (with_reducible first | exact HB.out | apply below_alloc | apply pw_below_drewN | apply below_drew1 | refine below_set ?_ Zd.out | refine below_set ?_ Zh.out | refine below_set ?_ Zp.out) | exact HB.out))) : w.heap.size ≤ Zu))
      have n7_ := mA ((by rw [hg]; exact Nat.ne_of_lt (blk_lt (g := Za) (o := cQ25 a0_0 a0_1 a0_2 a0_3) Zb.out) : Za ≠ Zu))
      have n8_ := mA ((by rw [hg]; exact Nat.ne_of_gt (blk_lt (g := Za) (o := cQ25 a0_0 a0_1 a0_2 a0_3) Zb.out) : Zu ≠ Za))
      have n9_ := mA ((by rw [hg]; exact Nat.ne_of_lt (blk_lt (g := Ze) (o := cQ25 a1_0 a1_1 a1_2 a1_3) Zf.out) : Ze ≠ Zu))
      have n10_ := mA ((by rw [hg]; exact Nat.ne_of_gt (blk_lt (g := Ze) (o := cQ25 a1_0 a1_1 a1_2 a1_3) Zf.out) : Zu ≠ Ze))
      have n11_ := mA ((by rw [hg]; exact Nat.ne_of_lt (blk_lt (g := Zk) (o := cQ25 0 0 0 0) Zm.out) : Zk ≠ Zu))
      have n12_ := mA ((by rw [hg]; exact Nat.ne_of_gt (blk_lt (g := Zk) (o := cQ25 0 0 0 0) Zm.out) : Zu ≠ Zk))
      clear Zb
      clear Zf
      clear Zm
      clear HB
      have Zb := n0_
      have Zf := n1_
      have Zm := n2_
      have HB := n3_
      have Zv := n4_
      have Zw := n5_
      have Zx := n6_
      have Zy := n7_
      have Zz := n8_
      have Zba := n9_
      have Zbb := n10_
      have Zbc := n11_
      have Zbd := n12_
      clear n0_ n1_ n2_ n3_ n4_ n5_ n6_ n7_ n8_ n9_ n10_ n11_ n12_
      clear hb hbox hg
      refine hK.out _ _ ⟨(blk_cell Zb.out 0).trans rfl, (blk_cell Zb.out 1).trans rfl, (blk_cell Zb.out 2).trans rfl, (blk_cell Zb.out 3).trans rfl, (blk_cell Zf.out 0).trans rfl, (blk_cell Zf.out 1).trans rfl, (blk_cell Zf.out 2).trans rfl, (blk_cell Zf.out 3).trans rfl⟩ (fun hHeld => ?_)
      clear hK K
      refine norm_ (a' := ?_) ?_ ?_
      rotate_left
      · show Act.put _ (some 6) _ = _
        simp only [Act.put, List.setIfInBounds_toArray, List.set_cons_zero, List.set_cons_succ, i64_w, i32_w]
        rfl
      refine one_ (i := 2) (N := some 11) #[true, true, true, false, false, false, false, true, false, false] rfl rfl (one_of HT_.out (by kernel_rfl)) (by decide) (fun K hK => ?_)
      refine goes_ Try.func65 (by kernel_rfl) rfl #[.agg #[.int .i64 a1_0, .int .i64 a1_1, .int .i64 a1_2, .int .i64 a1_3]] (by rfl) rfl rfl (by (try simp only [List.map_toArray, List.map_cons, List.map_nil]); first | done | rfl | (simp only [List.length_drop, List.length_take]; rfl)) ?_
      with_reducible refine (impl_negated.calls a1_0 a1_1 a1_2 a1_3 t225 t226 t227 t228 _ A3.out).mono ?_
      rintro e w10 ⟨rfl, hb⟩
      refine ⟨_, rfl, ?_⟩
      have n0_ := mA (blk_below (g := Za) (o := cQ25 a0_0 a0_1 a0_2 a0_3) Zb.out hb)
      have n1_ := mA (blk_below (g := Ze) (o := cQ25 a1_0 a1_1 a1_2 a1_3) Zf.out hb)
      have n2_ := mA (blk_below (g := Zk) (o := cQ25 0 0 0 0) Zm.out hb)
      have n3_ := mA (blk_below (g := Zu) (o := cQ25 0 0 0 0) Zv.out hb)
      have n4_ := mA (below_step (by repeat (first | (with_reducible first | exact HB.out | apply below_alloc | apply pw_below_drewN | apply below_drew1 | refine below_set ?_ Zd.out | refine below_set ?_ Zh.out | refine below_set ?_ Zp.out | refine below_set ?_ Zx.out) | exact HB.out)) hb)
      clear Zb
      clear Zf
      clear Zm
      clear Zv
      clear HB
      have Zb := n0_
      have Zf := n1_
      have Zm := n2_
      have Zv := n3_
      have HB := n4_
      clear n0_ n1_ n2_ n3_ n4_
      (try clear hb)
      (try clear hb2)
      (try clear hk)
      (try clear hi)
      refine hK.out _ _ ⟨(blk_cell Zb.out 0).trans rfl, (blk_cell Zb.out 1).trans rfl, (blk_cell Zb.out 2).trans rfl, (blk_cell Zb.out 3).trans rfl, (blk_cell Zf.out 0).trans rfl, (blk_cell Zf.out 1).trans rfl, (blk_cell Zf.out 2).trans rfl, (blk_cell Zf.out 3).trans rfl⟩ (fun hHeld => ?_)
      clear hK K
      refine norm_ (a' := ?_) ?_ ?_
      rotate_left
      · show Act.put _ (some 11) _ = _
        simp only [Act.put, List.setIfInBounds_toArray, List.set_cons_zero, List.set_cons_succ, i64_w, i32_w]
        rfl
      refine one_ (i := 3) (N := some 12) #[true, true, true, true, false, false, false, true, false, false] rfl rfl (one_of HT_.out (by kernel_rfl)) (by decide) (fun K hK => ?_)
      refine goes_ Try.func24 (by kernel_rfl) rfl #[.agg #[.int .i64 a0_0, .int .i64 a0_1, .int .i64 a0_2, .int .i64 a0_3], .agg #[.int .i64 t225, .int .i64 t226, .int .i64 t227, .int .i64 t228]] (by rfl) rfl rfl (by (try simp only [List.map_toArray, List.map_cons, List.map_nil]); first | done | rfl | (simp only [List.length_drop, List.length_take]; rfl)) ?_
      with_reducible refine (impl_AddIntervals.calls k a0_0 a0_1 a0_2 a0_3 t225 t226 t227 t228 t229 t230 t231 t232 t233 _ A4.out).mono ?_
      rintro e w11 ⟨rfl, hb⟩
      refine ⟨_, rfl, ?_⟩
      have n0_ := mA (blk_below (g := Za) (o := cQ25 a0_0 a0_1 a0_2 a0_3) Zb.out hb)
      have n1_ := mA (blk_below (g := Ze) (o := cQ25 a1_0 a1_1 a1_2 a1_3) Zf.out hb)
      have n2_ := mA (blk_below (g := Zk) (o := cQ25 0 0 0 0) Zm.out hb)
      have n3_ := mA (blk_below (g := Zu) (o := cQ25 0 0 0 0) Zv.out hb)
      have n4_ := mA (below_step (by repeat (first | (with_reducible first | exact HB.out | apply below_alloc | apply pw_below_drewN | apply below_drew1 | refine below_set ?_ Zd.out | refine below_set ?_ Zh.out | refine below_set ?_ Zp.out | refine below_set ?_ Zx.out) | exact HB.out)) hb)
      clear Zb
      clear Zf
      clear Zm
      clear Zv
      clear HB
      have Zb := n0_
      have Zf := n1_
      have Zm := n2_
      have Zv := n3_
      have HB := n4_
      clear n0_ n1_ n2_ n3_ n4_
      (try clear hb)
      (try clear hb2)
      (try clear hk)
      (try clear hi)
      refine hK.out _ _ ⟨(blk_cell Zb.out 0).trans rfl, (blk_cell Zb.out 1).trans rfl, (blk_cell Zb.out 2).trans rfl, (blk_cell Zb.out 3).trans rfl, (blk_cell Zf.out 0).trans rfl, (blk_cell Zf.out 1).trans rfl, (blk_cell Zf.out 2).trans rfl, (blk_cell Zf.out 3).trans rfl⟩ (fun hHeld => ?_)
      clear hK K
      refine norm_ (a' := ?_) ?_ ?_
      rotate_left
      · show Act.put _ (some 12) _ = _
        simp only [Act.put, List.setIfInBounds_toArray, List.set_cons_zero, List.set_cons_succ, i64_w, i32_w]
        rfl
      refine pure_ (i := 4) (N := some 8) (v := ?_) (a' := ?_) #[true, true, true, true, true, false, false, true, false, false] rfl rfl (any_of HT_.out (by kernel_rfl)) (fun _ _ _ h => h) (Or.inl ⟨by rfl, ?_⟩) ?_ ?_
      rotate_left
      · intro w'
        go_simp
        with_reducible rfl
      rotate_left
      · simp only [Act.put, List.setIfInBounds_toArray, List.set_cons_zero, List.set_cons_succ, i64_w, i32_w]
        rfl
      refine pure_ (i := 5) (N := some 13) (v := ?_) (a' := ?_) #[true, true, true, true, true, true, false, true, false, false] rfl rfl (any_of HT_.out (by kernel_rfl)) (fun _ _ _ h => h) (Or.inl ⟨by rfl, ?_⟩) ?_ ?_
      rotate_left
      · intro w'
        go_simp
        with_reducible rfl
      rotate_left
      · simp only [Act.put, List.setIfInBounds_toArray, List.set_cons_zero, List.set_cons_succ, i64_w, i32_w]
        rfl
      refine pure_ (i := 6) (N := some 14) (v := ?_) (a' := ?_) #[true, true, true, true, true, true, true, true, false, false] rfl rfl (any_of HT_.out (by kernel_rfl)) (fun _ _ _ h => h) (Or.inl ⟨by rfl, ?_⟩) ?_ ?_
      rotate_left
      · intro w'
        go_simp
        with_reducible rfl
      rotate_left
      · simp only [Act.put, List.setIfInBounds_toArray, List.set_cons_zero, List.set_cons_succ, i64_w, i32_w]
        rfl
      exact norm_ (by simp only [putAll, Act.put, List.setIfInBounds_toArray, List.set_cons_zero, List.set_cons_succ]) (hCont (Zu) _ ⟨hHeld, Zb.out, Zf.out, Zm.out, Zv.out, Zw.out, Zx.out, Zy.out, Zz.out, Zba.out, Zbb.out, Zbc.out, Zbd.out, (by repeat (first | (with_reducible first | exact HB.out | apply below_alloc | apply pw_below_drewN | apply below_drew1 | refine below_set ?_ Zd.out | refine below_set ?_ Zh.out | refine below_set ?_ Zp.out | refine below_set ?_ Zx.out) | exact HB.out))⟩)
  rintro Zu w12 ⟨hS_, h0_, h1_, h2_, h3_, h4_, h5_, h6_, h7_, h8_, h9_, h10_, h11_, h12_⟩
  have n0_ : Aside0 (w12.heap[Za]? = some (.cells #[.int .i64 a0_0, .int .i64 a0_1, .int .i64 a0_2, .int .i64 a0_3] 25 (0, 0))) := ⟨h0_⟩
  have n1_ : Aside0 (w12.heap[Ze]? = some (.cells #[.int .i64 a1_0, .int .i64 a1_1, .int .i64 a1_2, .int .i64 a1_3] 25 (0, 0))) := ⟨h1_⟩
  have n2_ : Aside0 (w12.heap[Zk]? = some (.cells #[.int .i64 0, .int .i64 0, .int .i64 0, .int .i64 0] 25 (0, 0))) := ⟨h2_⟩
  have n3_ : Aside0 (w12.heap[Zu]? = some (.cells #[.int .i64 0, .int .i64 0, .int .i64 0, .int .i64 0] 25 (0, 0))) := ⟨h3_⟩
  have n4_ : Aside0 (w.heap.size ≤ Zu) := ⟨h4_⟩
  have n5_ : Aside0 (w.heap.size ≤ Zu) := ⟨h5_⟩
  have n6_ : Aside0 (Za ≠ Zu) := ⟨h6_⟩
  have n7_ : Aside0 (Zu ≠ Za) := ⟨h7_⟩
  have n8_ : Aside0 (Ze ≠ Zu) := ⟨h8_⟩
  have n9_ : Aside0 (Zu ≠ Ze) := ⟨h9_⟩
  have n10_ : Aside0 (Zk ≠ Zu) := ⟨h10_⟩
  have n11_ : Aside0 (Zu ≠ Zk) := ⟨h11_⟩
  have n12_ : Aside0 (Below w.heap.size w w12) := ⟨h12_⟩
  clear Zb
  clear Zf
  clear Zm
  clear HB
  clear h0_ h1_ h2_ h3_ h4_ h5_ h6_ h7_ h8_ h9_ h10_ h11_ h12_
  have Zb := n0_
  have Zf := n1_
  have Zm := n2_
  have Zv := n3_
  have Zw := n4_
  have Zx := n5_
  have Zy := n6_
  have Zz := n7_
  have Zba := n8_
  have Zbb := n9_
  have Zbc := n10_
  have Zbd := n11_
  have HB := n12_
  clear n0_ n1_ n2_ n3_ n4_ n5_ n6_ n7_ n8_ n9_ n10_ n11_ n12_
  have hHeld : w12.cell? ⟨Za, 0, none⟩ = some (.int .i64 a0_0) ∧ w12.cell? ⟨Za, 1, none⟩ = some (.int .i64 a0_1) ∧ w12.cell? ⟨Za, 2, none⟩ = some (.int .i64 a0_2) ∧ w12.cell? ⟨Za, 3, none⟩ = some (.int .i64 a0_3) ∧ w12.cell? ⟨Ze, 0, none⟩ = some (.int .i64 a1_0) ∧ w12.cell? ⟨Ze, 1, none⟩ = some (.int .i64 a1_1) ∧ w12.cell? ⟨Ze, 2, none⟩ = some (.int .i64 a1_2) ∧ w12.cell? ⟨Ze, 3, none⟩ = some (.int .i64 a1_3) := hS_
  refine norm_ (a' := ?_) ?_ ?_
  rotate_left
  · simp only [putAll, Act.put, List.setIfInBounds_toArray, List.set_cons_zero, List.set_cons_succ]
    rfl
  refine one_ (i := 8) (N := none) #[true, true, true, true, true, true, true, true, true, false] rfl rfl (one_of HT_.out (by kernel_rfl)) (by decide) (fun K hK => ?_)
  have Zbe : w12.cell? ⟨Zu, 0, none⟩ = some (.int .i64 0) := (blk_cell Zv.out 0).trans rfl
  have Zbf := blk_frozen Zv.out 0
  have Zbg := Zy.out
  have Zbh := Zba.out
  have Zbi := Zbc.out
  have Zbj := Zz.out
  have Zbk := Zbb.out
  have Zbm := Zbd.out
  have Zbn : w12.cell? ⟨Zu, 1, none⟩ = some (.int .i64 0) := (blk_cell Zv.out 1).trans rfl
  have Zbp := blk_frozen Zv.out 1
  have Zbq := Zy.out
  have Zbr := Zba.out
  have Zbs := Zbc.out
  have Zbt := Zz.out
  have Zbu := Zbb.out
  have Zbv := Zbd.out
  have Zbw : w12.cell? ⟨Zu, 2, none⟩ = some (.int .i64 0) := (blk_cell Zv.out 2).trans rfl
  have Zbx := blk_frozen Zv.out 2
  have Zby := Zy.out
  have Zbz := Zba.out
  have Zca := Zbc.out
  have Zcb := Zz.out
  have Zcc := Zbb.out
  have Zcd := Zbd.out
  have Zce : w12.cell? ⟨Zu, 3, none⟩ = some (.int .i64 0) := (blk_cell Zv.out 3).trans rfl
  have Zcf := blk_frozen Zv.out 3
  have Zcg := Zy.out
  have Zch := Zba.out
  have Zci := Zbc.out
  have Zcj := Zz.out
  have Zck := Zbb.out
  have Zcm := Zbd.out
  refine skip_ (w1 := ?_) (by rfl) rfl ?_ ?_
  rotate_left
  · go_simp
    rfl
  refine hK.out _ _ ⟨((cell_far (p := ⟨Zu, _, none⟩) Zy.out _).trans (((cell_far (p := ⟨Zu, _, none⟩) Zy.out _).trans (((cell_far (p := ⟨Zu, _, none⟩) Zy.out _).trans (((cell_far (p := ⟨Zu, _, none⟩) Zy.out _).trans (hHeld.1)))))))), ((cell_far (p := ⟨Zu, _, none⟩) Zy.out _).trans (((cell_far (p := ⟨Zu, _, none⟩) Zy.out _).trans (((cell_far (p := ⟨Zu, _, none⟩) Zy.out _).trans (((cell_far (p := ⟨Zu, _, none⟩) Zy.out _).trans (hHeld.2.1)))))))), ((cell_far (p := ⟨Zu, _, none⟩) Zy.out _).trans (((cell_far (p := ⟨Zu, _, none⟩) Zy.out _).trans (((cell_far (p := ⟨Zu, _, none⟩) Zy.out _).trans (((cell_far (p := ⟨Zu, _, none⟩) Zy.out _).trans (hHeld.2.2.1)))))))), ((cell_far (p := ⟨Zu, _, none⟩) Zy.out _).trans (((cell_far (p := ⟨Zu, _, none⟩) Zy.out _).trans (((cell_far (p := ⟨Zu, _, none⟩) Zy.out _).trans (((cell_far (p := ⟨Zu, _, none⟩) Zy.out _).trans (hHeld.2.2.2.1)))))))), ((cell_far (p := ⟨Zu, _, none⟩) Zba.out _).trans (((cell_far (p := ⟨Zu, _, none⟩) Zba.out _).trans (((cell_far (p := ⟨Zu, _, none⟩) Zba.out _).trans (((cell_far (p := ⟨Zu, _, none⟩) Zba.out _).trans (hHeld.2.2.2.2.1)))))))), ((cell_far (p := ⟨Zu, _, none⟩) Zba.out _).trans (((cell_far (p := ⟨Zu, _, none⟩) Zba.out _).trans (((cell_far (p := ⟨Zu, _, none⟩) Zba.out _).trans (((cell_far (p := ⟨Zu, _, none⟩) Zba.out _).trans (hHeld.2.2.2.2.2.1)))))))), ((cell_far (p := ⟨Zu, _, none⟩) Zba.out _).trans (((cell_far (p := ⟨Zu, _, none⟩) Zba.out _).trans (((cell_far (p := ⟨Zu, _, none⟩) Zba.out _).trans (((cell_far (p := ⟨Zu, _, none⟩) Zba.out _).trans (hHeld.2.2.2.2.2.2.1)))))))), ((cell_far (p := ⟨Zu, _, none⟩) Zba.out _).trans (((cell_far (p := ⟨Zu, _, none⟩) Zba.out _).trans (((cell_far (p := ⟨Zu, _, none⟩) Zba.out _).trans (((cell_far (p := ⟨Zu, _, none⟩) Zba.out _).trans (hHeld.2.2.2.2.2.2.2))))))))⟩ (fun hHeld => ?_)
  clear hK K
  refine pure_ (i := 9) (N := some 7) (v := ?_) (a' := ?_) #[true, true, true, true, true, true, true, true, true, true] rfl rfl (any_of HT_.out (by kernel_rfl)) (fun _ _ _ h => h) (Or.inl ⟨by rfl, ?_⟩) ?_ ?_
  rotate_left
  · intro w'
    go_simp
    with_reducible rfl
  rotate_left
  · simp only [Act.put, List.setIfInBounds_toArray, List.set_cons_zero, List.set_cons_succ, i64_w, i32_w]
    rfl
  refine done_ (done_of HT_.out (by kernel_rfl)) ?_
  have Zcn := Zz.out
  have Zcp := Zy.out
  have Zcq := Zbb.out
  have Zcr := Zba.out
  have Zcs := Zbd.out
  have Zct := Zbc.out
  have Zcu : w12.cell? ⟨Zu, 0, none⟩ = some (.int .i64 0) := (blk_cell Zv.out 0).trans rfl
  have Zcv : w12.cell? ⟨Zu, 1, none⟩ = some (.int .i64 0) := (blk_cell Zv.out 1).trans rfl
  have Zcw : w12.cell? ⟨Zu, 2, none⟩ = some (.int .i64 0) := (blk_cell Zv.out 2).trans rfl
  have Zcx : w12.cell? ⟨Zu, 3, none⟩ = some (.int .i64 0) := (blk_cell Zv.out 3).trans rfl
  have Zcy := blk_frozen Zv.out 0
  have Zcz := blk_frozen Zv.out 1
  have Zda := blk_frozen Zv.out 2
  have Zdb := blk_frozen Zv.out 3
  have Zdc := Zr.out
  have Zdd := Zq.out
  have Zde := Zt.out
  have Zdf := Zs.out
  have Zdg : w12.cell? ⟨Zk, 0, none⟩ = some (.int .i64 0) := (blk_cell Zm.out 0).trans rfl
  have Zdh : w12.cell? ⟨Zk, 1, none⟩ = some (.int .i64 0) := (blk_cell Zm.out 1).trans rfl
  have Zdi : w12.cell? ⟨Zk, 2, none⟩ = some (.int .i64 0) := (blk_cell Zm.out 2).trans rfl
  have Zdj : w12.cell? ⟨Zk, 3, none⟩ = some (.int .i64 0) := (blk_cell Zm.out 3).trans rfl
  have Zdk := blk_frozen Zm.out 0
  have Zdm := blk_frozen Zm.out 1
  have Zdn := blk_frozen Zm.out 2
  have Zdp := blk_frozen Zm.out 3
  try go_wp2
  refine bodyPost_ret (results_ct rfl _ _ Zk 25 #[.int .i64 t229, .int .i64 t230, .int .i64 t231, .int .i64 t232] (0, 0) _ rfl (by (with_reducible repeat (first | refine blk_drewN ?_ _ | refine blk_drew ?_ | refine blk_alloc ?_ _)); refine blk_put (cs := #[.int .i64 t229, .int .i64 t230, .int .i64 t231, .int .i64 0]) ?_ 3 _ rfl; (with_reducible repeat (first | refine blk_drewN ?_ _ | refine blk_drew ?_ | refine blk_alloc ?_ _)); refine blk_put (cs := #[.int .i64 t229, .int .i64 t230, .int .i64 0, .int .i64 0]) ?_ 2 _ rfl; (with_reducible repeat (first | refine blk_drewN ?_ _ | refine blk_drew ?_ | refine blk_alloc ?_ _)); refine blk_put (cs := #[.int .i64 t229, .int .i64 0, .int .i64 0, .int .i64 0]) ?_ 1 _ rfl; (with_reducible repeat (first | refine blk_drewN ?_ _ | refine blk_drew ?_ | refine blk_alloc ?_ _)); refine blk_put (cs := #[.int .i64 0, .int .i64 0, .int .i64 0, .int .i64 0]) ?_ 0 _ rfl; (with_reducible repeat (first | refine blk_drewN ?_ _ | refine blk_drew ?_ | refine blk_alloc ?_ _)); refine blk_far ?_ Zbc.out _; (with_reducible repeat (first | refine blk_drewN ?_ _ | refine blk_drew ?_ | refine blk_alloc ?_ _)); refine blk_far ?_ Zbc.out _; (with_reducible repeat (first | refine blk_drewN ?_ _ | refine blk_drew ?_ | refine blk_alloc ?_ _)); refine blk_far ?_ Zbc.out _; (with_reducible repeat (first | refine blk_drewN ?_ _ | refine blk_drew ?_ | refine blk_alloc ?_ _)); refine blk_far ?_ Zbc.out _; (with_reducible repeat (first | refine blk_drewN ?_ _ | refine blk_drew ?_ | refine blk_alloc ?_ _)); exact Zm.out) Try.underlying25 rfl (by kernel_rfl)) rfl ?_
  exact ⟨by first | rfl | (simp [errW_none, errW_some] <;> rfl) | (simp [*, errW_none, errW_some] <;> rfl), by repeat (first | (with_reducible first | exact HB.out | apply below_alloc | apply pw_below_drewN | apply below_drew1 | refine below_set ?_ Zd.out | refine below_set ?_ Zh.out | refine below_set ?_ Zp.out | refine below_set ?_ Zx.out) | exact HB.out)⟩

/-! ### impl_SameSize: function 56 -/
def impl_SameSize.f (k : Nat) (a0_0 : Int) (a0_1 : Int) (a0_2 : Int) (a0_3 : Int) (a1_0 : Int) (a1_1 : Int) (a1_2 : Int) (a1_3 : Int) : Option (Bool) := (impl_IntervalOk.f a0_0 a0_1 a0_2 a0_3).bind fun t237 => (if t237 = true then ((impl_IntervalOk.f a1_0 a1_1 a1_2 a1_3).bind fun t238 => (if t238 = true then ((impl_simplest.f k a0_0 a0_1 a0_2 a0_3).bind fun bt239 => ((impl_simplest.f k a1_0 a1_1 a1_2 a1_3).bind fun bt243 => (some (bt239.1 == bt243.1 && (bt239.2.1 == bt243.2.1 && (bt239.2.2.1 == bt243.2.2.1 && (bt239.2.2.2 == bt243.2.2.2))))))) else (some false))) else (some false))
def impl_SameSize.T1 : Bool × List (List Nat × List Nat) := (true, [([], []), ([0], [0]), ([1, 1], [1]), ([2], [2]), ([3, 2, 2], [2, 3]), ([2, 4], [2, 4]), ([5, 4], [5]), ([6], [6]), ([7, 6, 6], [6, 7]), ([6], [6]), ([9, 8, 6], [6, 9]), ([8, 10, 6], [6, 8, 10]), ([6, 11], [6, 11]), ([12, 10, 0, 1, 2, 3, 4, 5, 6, 7, 8, 9, 10, 11, 12], [12])])
def impl_SameSize.B1 : List Nat := [0, 1, 3, 7, 15, 31, 63, 127, 255, 127, 1023, 2047, 4095, 8191]
theorem impl_SameSize.tab1 : rtab .any (opsOf Try.f56 1) = impl_SameSize.T1 := by kernel_rfl
theorem impl_SameSize.bits1 : waitsOk impl_SameSize.T1.2 impl_SameSize.B1 = true := by kernel_rfl
set_option maxHeartbeats 8000000 in
set_option maxRecDepth 100000 in
theorem impl_SameSize.calls (k : Nat) (a0_0 : Int) (a0_1 : Int) (a0_2 : Int) (a0_3 : Int) (a1_0 : Int) (a1_1 : Int) (a1_2 : Int) (a1_3 : Int) (r : Bool) (w : World) (h : impl_SameSize.f k a0_0 a0_1 a0_2 a0_3 a1_0 a1_1 a1_2 a1_3 = some r) :
    Calls Try.prog 56 #[.agg #[.int .i64 a0_0, .int .i64 a0_1, .int .i64 a0_2, .int .i64 a0_3], .agg #[.int .i64 a1_0, .int .i64 a1_1, .int .i64 a1_2, .int .i64 a1_3]] w fun e w' => e = .returned (.bool r) ∧ Below w.heap.size w w' := by
  have hu25 := Try.underlying25
  have HB := mA (Below.refl w.heap.size w)
  have H : ((impl_IntervalOk.f a0_0 a0_1 a0_2 a0_3).bind fun t237 => (if t237 = true then ((impl_IntervalOk.f a1_0 a1_1 a1_2 a1_3).bind fun t238 => (if t238 = true then ((impl_simplest.f k a0_0 a0_1 a0_2 a0_3).bind fun bt239 => ((impl_simplest.f k a1_0 a1_1 a1_2 a1_3).bind fun bt243 => (some (bt239.1 == bt243.1 && (bt239.2.1 == bt243.2.1 && (bt239.2.2.1 == bt243.2.2.1 && (bt239.2.2.2 == bt243.2.2.2))))))) else (some false))) else (some false))) = some r := h
  clear h
  replace H := Option.bind_eq_some_iff.mp H
  obtain ⟨t237, A30, H⟩ := H
  replace H : (if t237 = true then ((impl_IntervalOk.f a1_0 a1_1 a1_2 a1_3).bind fun t238 => (if t238 = true then ((impl_simplest.f k a0_0 a0_1 a0_2 a0_3).bind fun bt239 => ((impl_simplest.f k a1_0 a1_1 a1_2 a1_3).bind fun bt243 => (some (bt239.1 == bt243.1 && (bt239.2.1 == bt243.2.1 && (bt239.2.2.1 == bt243.2.2.1 && (bt239.2.2.2 == bt243.2.2.2))))))) else (some false))) else (some false)) = some r := H
  have A3 := mA A30
  clear A30
  by_cases c4 : t237 = true
  · subst c4
    rw [if_pos rfl] at H
    replace H := Option.bind_eq_some_iff.mp H
    obtain ⟨t238, A50, H⟩ := H
    replace H : (if t238 = true then ((impl_simplest.f k a0_0 a0_1 a0_2 a0_3).bind fun bt239 => ((impl_simplest.f k a1_0 a1_1 a1_2 a1_3).bind fun bt243 => (some (bt239.1 == bt243.1 && (bt239.2.1 == bt243.2.1 && (bt239.2.2.1 == bt243.2.2.1 && (bt239.2.2.2 == bt243.2.2.2))))))) else (some false)) = some r := H
    have A5 := mA A50
    clear A50
    by_cases c6 : t238 = true
    · subst c6
      rw [if_pos rfl] at H
      replace H := Option.bind_eq_some_iff.mp H
      obtain ⟨⟨t239, t240, t241, t242⟩, A70, H⟩ := H
      replace H : ((impl_simplest.f k a1_0 a1_1 a1_2 a1_3).bind fun bt243 => (some (t239 == bt243.1 && (t240 == bt243.2.1 && (t241 == bt243.2.2.1 && (t242 == bt243.2.2.2)))))) = some r := H
      have A7 := mA A70
      clear A70
      replace H := Option.bind_eq_some_iff.mp H
      obtain ⟨⟨t243, t244, t245, t246⟩, A80, H⟩ := H
      replace H : (some (t239 == t243 && (t240 == t244 && (t241 == t245 && (t242 == t246))))) = some r := H
      have A8 := mA A80
      clear A80
      obtain rfl := Option.some.inj H
      go_enter Try.func56, Try.ntmps56
      try go_wp2_with (first | ((with_reducible refine gate_dst (N := 2) rfl ?_); refine box_event ?hg (N := 2) ?hd (cs := #[.int .i64 a0_0, .int .i64 a0_1, .int .i64 a0_2, .int .i64 a0_3]) (t := 25) ?hr ?_; (case hd => rfl); (case hg => rfl); (case hr => first | (go_simp; done) | (go_simp; rfl)); intro Za hg w9 hbox hb; have n0_ := mA (below_step (by repeat (first | (with_reducible first | exact HB.out | apply below_alloc | apply pw_below_drewN | apply below_drew1) | exact HB.out)) hb); have n1_ := mA (hbox); have n2_ := mA ((by rw [hg]; exact (below_size (by repeat (first | (with_reducible first | exact HB.out | apply below_alloc | apply pw_below_drewN | apply below_drew1) | exact HB.out))) : w.heap.size ≤ Za)); have n3_ := mA ((by rw [hg]; exact (below_size (by repeat (first | (with_reducible first | exact HB.out | apply below_alloc | apply pw_below_drewN | apply below_drew1) | exact HB.out))) : w.heap.size ≤ Za)); clear HB; have HB := n0_; have Zb := n1_; have Zc := n2_; have Zd := n3_; clear n0_ n1_ n2_ n3_; clear hb hbox hg) | ((with_reducible refine gate_dst (N := 3) rfl ?_); refine box_event ?hg (N := 3) ?hd (cs := #[.int .i64 a1_0, .int .i64 a1_1, .int .i64 a1_2, .int .i64 a1_3]) (t := 25) ?hr ?_; (case hd => rfl); (case hg => rfl); (case hr => first | (go_simp; done) | (go_simp; rfl)); intro Ze hg w10 hbox hb; have n0_ := mA (blk_below (g := Za) (o := cQ25 a0_0 a0_1 a0_2 a0_3) Zb.out hb); have n1_ := mA (below_step (by repeat (first | (with_reducible first | exact HB.out | apply below_alloc | apply pw_below_drewN | apply below_drew1 | refine below_set ?_ Zd.out) | exact HB.out)) hb); have n2_ := mA (hbox); have n3_ := mA ((by rw [hg]; exact (below_size (by repeat (first | (with_reducible first | exact HB.out | apply below_alloc | apply pw_below_drewN | apply below_drew1 | refine below_set ?_ Zd.out) | exact HB.out))) : w.heap.size ≤ Ze)); have n4_ := mA ((by rw [hg]; exact (below_size (by repeat (first | (with_reducible first | exact HB.out | apply below_alloc | apply pw_below_drewN | apply below_drew1 | refine below_set ?_ Zd.out) | exact HB.out))) : w.heap.size ≤ Ze)); have n5_ := mA ((by rw [hg]; exact Nat.ne_of_lt (blk_lt (g := Za) (o := cQ25 a0_0 a0_1 a0_2 a0_3) Zb.out) : Za ≠ Ze)); have n6_ := mA ((by rw [hg]; exact Nat.ne_of_gt (blk_lt (g := Za) (o := cQ25 a0_0 a0_1 a0_2 a0_3) Zb.out) : Ze ≠ Za)); clear Zb; clear HB; have Zb := n0_; have HB := n1_; have Zf := n2_; have Zg := n3_; have Zh := n4_; have Zi := n5_; have Zj := n6_; clear n0_ n1_ n2_ n3_ n4_ n5_ n6_; clear hb hbox hg))
      have n0_ := mA (blk_drew Zb.out)
      have n1_ := mA (blk_drew Zf.out)
      have n2_ := mA (below_drew1 HB.out)
      clear Zb
      clear Zf
      clear HB
      have Zb := n0_
      have Zf := n1_
      have HB := n2_
      clear n0_ n1_ n2_
      refine start_ (n := 14) (S := fun w' => w'.cell? ⟨Za, 0, none⟩ = some (.int .i64 a0_0) ∧ w'.cell? ⟨Za, 1, none⟩ = some (.int .i64 a0_1) ∧ w'.cell? ⟨Za, 2, none⟩ = some (.int .i64 a0_2) ∧ w'.cell? ⟨Za, 3, none⟩ = some (.int .i64 a0_3) ∧ w'.cell? ⟨Ze, 0, none⟩ = some (.int .i64 a1_0) ∧ w'.cell? ⟨Ze, 1, none⟩ = some (.int .i64 a1_1) ∧ w'.cell? ⟨Ze, 2, none⟩ = some (.int .i64 a1_2) ∧ w'.cell? ⟨Ze, 3, none⟩ = some (.int .i64 a1_3)) (ds := []) #[false, false, false, false, false, false, false, false, false, false, false, false, false, false] (by kernel_rfl) rfl rfl ⟨(blk_cell Zb.out 0).trans rfl, (blk_cell Zb.out 1).trans rfl, (blk_cell Zb.out 2).trans rfl, (blk_cell Zb.out 3).trans rfl, (blk_cell Zf.out 0).trans rfl, (blk_cell Zf.out 1).trans rfl, (blk_cell Zf.out 2).trans rfl, (blk_cell Zf.out 3).trans rfl⟩ (fun hHeld => ?_); refine with_tabW impl_SameSize.tab1 impl_SameSize.bits1 (fun HT_ HW_ => ?_)
      generalize w10.drew = w11 at Zb Zf HB hHeld ⊢
      refine take_ (i := 0) (N := some 5) (v := ?_) (a' := ?_) #[true, false, false, false, false, false, false, false, false, false, false, false, false, false] rfl rfl (take_ofW HT_.out HW_.out (by kernel_rfl)) (fun _ _ _ h => h) (Or.inl ⟨by rfl, ?_⟩) hHeld ?_ ?_
      rotate_left
      · rintro w' ⟨s0, s1, s2, s3, s4, s5, s6, s7⟩
        go_simp
        with_reducible rfl
      rotate_left
      · simp only [Act.put, List.setIfInBounds_toArray, List.set_cons_zero, List.set_cons_succ, i64_w, i32_w]
        rfl
      refine one_ (i := 1) (N := some 6) #[true, true, false, false, false, false, false, false, false, false, false, false, false, false] rfl rfl (one_of HT_.out (by kernel_rfl)) (by decide) (fun K hK => ?_)
      refine goes_ Try.func43 (by kernel_rfl) rfl #[.agg #[.int .i64 a0_0, .int .i64 a0_1, .int .i64 a0_2, .int .i64 a0_3]] (by rfl) rfl rfl (by (try simp only [List.map_toArray, List.map_cons, List.map_nil]); first | done | rfl | (simp only [List.length_drop, List.length_take]; rfl)) ?_
      with_reducible refine (impl_IntervalOk.calls a0_0 a0_1 a0_2 a0_3 true _ A3.out).mono ?_
      rintro e w12 ⟨rfl, hb⟩
      refine ⟨_, rfl, ?_⟩
      have n0_ := mA (blk_below (g := Za) (o := cQ25 a0_0 a0_1 a0_2 a0_3) Zb.out hb)
      have n1_ := mA (blk_below (g := Ze) (o := cQ25 a1_0 a1_1 a1_2 a1_3) Zf.out hb)
      have n2_ := mA (below_step (by repeat (first | (with_reducible first | exact HB.out | apply below_alloc | apply pw_below_drewN | apply below_drew1 | refine below_set ?_ Zd.out | refine below_set ?_ Zh.out) | exact HB.out)) hb)
      clear Zb
      clear Zf
      clear HB
      have Zb := n0_
      have Zf := n1_
      have HB := n2_
      clear n0_ n1_ n2_
      (try clear hb)
      (try clear hb2)
      (try clear hk)
      (try clear hi)
      refine hK.out _ _ ⟨(blk_cell Zb.out 0).trans rfl, (blk_cell Zb.out 1).trans rfl, (blk_cell Zb.out 2).trans rfl, (blk_cell Zb.out 3).trans rfl, (blk_cell Zf.out 0).trans rfl, (blk_cell Zf.out 1).trans rfl, (blk_cell Zf.out 2).trans rfl, (blk_cell Zf.out 3).trans rfl⟩ (fun hHeld => ?_)
      clear hK K
      refine norm_ (a' := ?_) ?_ ?_
      rotate_left
      · show Act.put _ (some 6) _ = _
        simp only [Act.put, List.setIfInBounds_toArray, List.set_cons_zero, List.set_cons_succ, i64_w, i32_w]
        rfl
      refine pure_ (i := 2) (N := some 7) (v := ?_) (a' := ?_) #[true, true, true, false, false, false, false, false, false, false, false, false, false, false] rfl rfl (any_of HT_.out (by kernel_rfl)) (fun _ _ _ h => h) (Or.inl ⟨by rfl, ?_⟩) ?_ ?_
      rotate_left
      · intro w'
        go_simp
        with_reducible rfl
      rotate_left
      · simp only [Act.put, List.setIfInBounds_toArray, List.set_cons_zero, List.set_cons_succ, i64_w, i32_w]
        rfl
      refine take_ (i := 3) (N := some 8) (v := ?_) (a' := ?_) #[true, true, true, true, false, false, false, false, false, false, false, false, false, false] rfl rfl (take_ofW HT_.out HW_.out (by kernel_rfl)) (fun _ _ _ h => h) (Or.inl ⟨by rfl, ?_⟩) hHeld ?_ ?_
      rotate_left
      · rintro w' ⟨s0, s1, s2, s3, s4, s5, s6, s7⟩
        go_simp
        with_reducible rfl
      rotate_left
      · simp only [Act.put, List.setIfInBounds_toArray, List.set_cons_zero, List.set_cons_succ, i64_w, i32_w]
        rfl
      refine one_ (i := 4) (N := some 9) #[true, true, true, true, true, false, false, false, false, false, false, false, false, false] rfl rfl (one_of HT_.out (by kernel_rfl)) (by decide) (fun K hK => ?_)
      refine goes_ Try.func43 (by kernel_rfl) rfl #[.agg #[.int .i64 a1_0, .int .i64 a1_1, .int .i64 a1_2, .int .i64 a1_3]] (by rfl) rfl rfl (by (try simp only [List.map_toArray, List.map_cons, List.map_nil]); first | done | rfl | (simp only [List.length_drop, List.length_take]; rfl)) ?_
      with_reducible refine (impl_IntervalOk.calls a1_0 a1_1 a1_2 a1_3 true _ A5.out).mono ?_
      rintro e w13 ⟨rfl, hb⟩
      refine ⟨_, rfl, ?_⟩
      have n0_ := mA (blk_below (g := Za) (o := cQ25 a0_0 a0_1 a0_2 a0_3) Zb.out hb)
      have n1_ := mA (blk_below (g := Ze) (o := cQ25 a1_0 a1_1 a1_2 a1_3) Zf.out hb)
      have n2_ := mA (below_step (by repeat (first | (with_reducible first | exact HB.out | apply below_alloc | apply pw_below_drewN | apply below_drew1 | refine below_set ?_ Zd.out | refine below_set ?_ Zh.out) | exact HB.out)) hb)
      clear Zb
      clear Zf
      clear HB
      have Zb := n0_
      have Zf := n1_
      have HB := n2_
      clear n0_ n1_ n2_
      (try clear hb)
      (try clear hb2)
      (try clear hk)
      (try clear hi)
      refine hK.out _ _ ⟨(blk_cell Zb.out 0).trans rfl, (blk_cell Zb.out 1).trans rfl, (blk_cell Zb.out 2).trans rfl, (blk_cell Zb.out 3).trans rfl, (blk_cell Zf.out 0).trans rfl, (blk_cell Zf.out 1).trans rfl, (blk_cell Zf.out 2).trans rfl, (blk_cell Zf.out 3).trans rfl⟩ (fun hHeld => ?_)
      clear hK K
      refine norm_ (a' := ?_) ?_ ?_
      rotate_left
      · show Act.put _ (some 9) _ = _
        simp only [Act.put, List.setIfInBounds_toArray, List.set_cons_zero, List.set_cons_succ, i64_w, i32_w]
        rfl
      refine pure_ (i := 5) (N := some 10) (v := ?_) (a' := ?_) #[true, true, true, true, true, true, false, false, false, false, false, false, false, false] rfl rfl (any_of HT_.out (by kernel_rfl)) (fun _ _ _ h => h) (Or.inl ⟨by rfl, ?_⟩) ?_ ?_
      rotate_left
      · intro w'
        go_simp
        with_reducible rfl
      rotate_left
      · simp only [Act.put, List.setIfInBounds_toArray, List.set_cons_zero, List.set_cons_succ, i64_w, i32_w]
        rfl
      refine pure_ (i := 6) (N := some 11) (v := ?_) (a' := ?_) #[true, true, true, true, true, true, true, false, false, false, false, false, false, false] rfl rfl (any_of HT_.out (by kernel_rfl)) (fun _ _ _ h => h) (Or.inl ⟨by rfl, ?_⟩) ?_ ?_
      rotate_left
      · intro w'
        go_simp
        with_reducible rfl
      rotate_left
      · simp only [Act.put, List.setIfInBounds_toArray, List.set_cons_zero, List.set_cons_succ, i64_w, i32_w]
        rfl
      refine take_ (i := 7) (N := some 12) (v := ?_) (a' := ?_) #[true, true, true, true, true, true, true, true, false, false, false, false, false, false] rfl rfl (take_ofW HT_.out HW_.out (by kernel_rfl)) (fun _ _ _ h => h) (Or.inl ⟨by rfl, ?_⟩) hHeld ?_ ?_
      rotate_left
      · rintro w' ⟨s0, s1, s2, s3, s4, s5, s6, s7⟩
        go_simp
        with_reducible rfl
      rotate_left
      · simp only [Act.put, List.setIfInBounds_toArray, List.set_cons_zero, List.set_cons_succ, i64_w, i32_w]
        rfl
      refine take_ (i := 9) (N := some 14) (v := ?_) (a' := ?_) #[true, true, true, true, true, true, true, true, false, true, false, false, false, false] rfl rfl (take_ofW HT_.out HW_.out (by kernel_rfl)) (fun _ _ _ h => h) (Or.inl ⟨by rfl, ?_⟩) hHeld ?_ ?_
      rotate_left
      · rintro w' ⟨s0, s1, s2, s3, s4, s5, s6, s7⟩
        go_simp
        with_reducible rfl
      rotate_left
      · simp only [Act.put, List.setIfInBounds_toArray, List.set_cons_zero, List.set_cons_succ, i64_w, i32_w]
        rfl
      refine one_ (i := 8) (N := some 13) #[true, true, true, true, true, true, true, true, true, true, false, false, false, false] rfl rfl (one_of HT_.out (by kernel_rfl)) (by decide) (fun K hK => ?_)
      refine goes_ Try.func52 (by kernel_rfl) rfl #[.agg #[.int .i64 a0_0, .int .i64 a0_1, .int .i64 a0_2, .int .i64 a0_3]] (by rfl) rfl rfl (by (try simp only [List.map_toArray, List.map_cons, List.map_nil]); first | done | rfl | (simp only [List.length_drop, List.length_take]; rfl)) ?_
      with_reducible refine (impl_simplest.calls k a0_0 a0_1 a0_2 a0_3 t239 t240 t241 t242 _ A7.out).mono ?_
      rintro e w14 ⟨rfl, hb⟩
      refine ⟨_, rfl, ?_⟩
      have n0_ := mA (blk_below (g := Za) (o := cQ25 a0_0 a0_1 a0_2 a0_3) Zb.out hb)
      have n1_ := mA (blk_below (g := Ze) (o := cQ25 a1_0 a1_1 a1_2 a1_3) Zf.out hb)
      have n2_ := mA (below_step (by repeat (first | (with_reducible first | exact HB.out | apply below_alloc | apply pw_below_drewN | apply below_drew1 | refine below_set ?_ Zd.out | refine below_set ?_ Zh.out) | exact HB.out)) hb)
      clear Zb
      clear Zf
      clear HB
      have Zb := n0_
      have Zf := n1_
      have HB := n2_
      clear n0_ n1_ n2_
      (try clear hb)
      (try clear hb2)
      (try clear hk)
      (try clear hi)
      refine hK.out _ _ ⟨(blk_cell Zb.out 0).trans rfl, (blk_cell Zb.out 1).trans rfl, (blk_cell Zb.out 2).trans rfl, (blk_cell Zb.out 3).trans rfl, (blk_cell Zf.out 0).trans rfl, (blk_cell Zf.out 1).trans rfl, (blk_cell Zf.out 2).trans rfl, (blk_cell Zf.out 3).trans rfl⟩ (fun hHeld => ?_)
      clear hK K
      refine norm_ (a' := ?_) ?_ ?_
      rotate_left
      · show Act.put _ (some 13) _ = _
        simp only [Act.put, List.setIfInBounds_toArray, List.set_cons_zero, List.set_cons_succ, i64_w, i32_w]
        rfl
      refine one_ (i := 10) (N := some 15) #[true, true, true, true, true, true, true, true, true, true, true, false, false, false] rfl rfl (one_of HT_.out (by kernel_rfl)) (by decide) (fun K hK => ?_)
      refine goes_ Try.func52 (by kernel_rfl) rfl #[.agg #[.int .i64 a1_0, .int .i64 a1_1, .int .i64 a1_2, .int .i64 a1_3]] (by rfl) rfl rfl (by (try simp only [List.map_toArray, List.map_cons, List.map_nil]); first | done | rfl | (simp only [List.length_drop, List.length_take]; rfl)) ?_
      with_reducible refine (impl_simplest.calls k a1_0 a1_1 a1_2 a1_3 t243 t244 t245 t246 _ A8.out).mono ?_
      rintro e w15 ⟨rfl, hb⟩
      refine ⟨_, rfl, ?_⟩
      have n0_ := mA (blk_below (g := Za) (o := cQ25 a0_0 a0_1 a0_2 a0_3) Zb.out hb)
      have n1_ := mA (blk_below (g := Ze) (o := cQ25 a1_0 a1_1 a1_2 a1_3) Zf.out hb)
      have n2_ := mA (below_step (by repeat (first | (with_reducible first | exact HB.out | apply below_alloc | apply pw_below_drewN | apply below_drew1 | refine below_set ?_ Zd.out | refine below_set ?_ Zh.out) | exact HB.out)) hb)
      clear Zb
      clear Zf
      clear HB
      have Zb := n0_
      have Zf := n1_
      have HB := n2_
      clear n0_ n1_ n2_
      (try clear hb)
      (try clear hb2)
      (try clear hk)
      (try clear hi)
      refine hK.out _ _ ⟨(blk_cell Zb.out 0).trans rfl, (blk_cell Zb.out 1).trans rfl, (blk_cell Zb.out 2).trans rfl, (blk_cell Zb.out 3).trans rfl, (blk_cell Zf.out 0).trans rfl, (blk_cell Zf.out 1).trans rfl, (blk_cell Zf.out 2).trans rfl, (blk_cell Zf.out 3).trans rfl⟩ (fun hHeld => ?_)
      clear hK K
      refine norm_ (a' := ?_) ?_ ?_
      rotate_left
      · show Act.put _ (some 15) _ = _
        simp only [Act.put, List.setIfInBounds_toArray, List.set_cons_zero, List.set_cons_succ, i64_w, i32_w]
        rfl
      refine pure_ (i := 11) (N := some 16) (v := ?_) (a' := ?_) #[true, true, true, true, true, true, true, true, true, true, true, true, false, false] rfl rfl (any_of HT_.out (by kernel_rfl)) (fun _ _ _ h => h) (Or.inl ⟨by rfl, ?_⟩) ?_ ?_
      rotate_left
      · intro w'
        go_simp
        with_reducible rfl
      rotate_left
      · simp only [Act.put, List.setIfInBounds_toArray, List.set_cons_zero, List.set_cons_succ, i64_w, i32_w]
        rfl
      refine pure_ (i := 12) (N := some 17) (v := ?_) (a' := ?_) #[true, true, true, true, true, true, true, true, true, true, true, true, true, false] rfl rfl (any_of HT_.out (by kernel_rfl)) (fun _ _ _ h => h) (Or.inl ⟨by rfl, ?_⟩) ?_ ?_
      rotate_left
      · intro w'
        go_simp
        with_reducible rfl
      rotate_left
      · simp only [Act.put, List.setIfInBounds_toArray, List.set_cons_zero, List.set_cons_succ, i64_w, i32_w]
        rfl
      refine pure_ (i := 13) (N := some 4) (v := ?_) (a' := ?_) #[true, true, true, true, true, true, true, true, true, true, true, true, true, true] rfl rfl (any_of HT_.out (by kernel_rfl)) (fun _ _ _ h => h) (Or.inl ⟨by rfl, ?_⟩) ?_ ?_
      rotate_left
      · intro w'
        go_simp
        with_reducible rfl
      rotate_left
      · simp only [Act.put, List.setIfInBounds_toArray, List.set_cons_zero, List.set_cons_succ, i64_w, i32_w]
        rfl
      refine done_ (done_of HT_.out (by kernel_rfl)) ?_
      try go_wp2
      go_ret
      exact ⟨by first | rfl | (simp [errW_none, errW_some] <;> rfl) | (simp [*, errW_none, errW_some] <;> rfl), by repeat (first | (with_reducible first | exact HB.out | apply below_alloc | apply pw_below_drewN | apply below_drew1 | refine below_set ?_ Zd.out | refine below_set ?_ Zh.out) | exact HB.out)⟩
    · replace c6 := Bool.eq_false_iff.mpr c6
      subst c6
      have H1 : (some false) = some r := by rw [if_neg (show ¬ (false = true) by decide)] at H; exact H
      clear H
      have H := H1
      clear H1
      obtain rfl := Option.some.inj H
      go_enter Try.func56, Try.ntmps56
      try go_wp2_with (first | ((with_reducible refine gate_dst (N := 2) rfl ?_); refine box_event ?hg (N := 2) ?hd (cs := #[.int .i64 a0_0, .int .i64 a0_1, .int .i64 a0_2, .int .i64 a0_3]) (t := 25) ?hr ?_; (case hd => rfl); (case hg => rfl); (case hr => first | (go_simp; done) | (go_simp; rfl)); intro Za hg w16 hbox hb; have n0_ := mA (below_step (by repeat (first | (with_reducible first | exact HB.out | apply below_alloc | apply pw_below_drewN | apply below_drew1) | exact HB.out)) hb); have n1_ := mA (hbox); have n2_ := mA ((by rw [hg]; exact (below_size (by repeat (first | (with_reducible first | exact HB.out | apply below_alloc | apply pw_below_drewN | apply below_drew1) | exact HB.out))) : w.heap.size ≤ Za)); have n3_ := mA ((by rw [hg]; exact (below_size (by repeat (first | (with_reducible first | exact HB.out | apply below_alloc | apply pw_below_drewN | apply below_drew1) | exact HB.out))) : w.heap.size ≤ Za)); clear HB; have HB := n0_; have Zb := n1_; have Zc := n2_; have Zd := n3_; clear n0_ n1_ n2_ n3_; clear hb hbox hg) | ((with_reducible refine gate_dst (N := 3) rfl ?_); refine box_event ?hg (N := 3) ?hd (cs := #[.int .i64 a1_0, .int .i64 a1_1, .int .i64 a1_2, .int .i64 a1_3]) (t := 25) ?hr ?_; (case hd => rfl); (case hg => rfl); (case hr => first | (go_simp; done) | (go_simp; rfl)); intro Ze hg w17 hbox hb; have n0_ := mA (blk_below (g := Za) (o := cQ25 a0_0 a0_1 a0_2 a0_3) Zb.out hb); have n1_ := mA (below_step (by repeat (first | (with_reducible first | exact HB.out | apply below_alloc | apply pw_below_drewN | apply below_drew1 | refine below_set ?_ Zd.out) | exact HB.out)) hb); have n2_ := mA (hbox); have n3_ := mA ((by rw [hg]; exact (below_size (by repeat (first | (with_reducible first | exact HB.out | apply below_alloc | apply pw_below_drewN | apply below_drew1 | refine below_set ?_ Zd.out) | exact HB.out))) : w.heap.size ≤ Ze)); have n4_ := mA ((by rw [hg]; exact (below_size (by repeat (first | (with_reducible first | exact HB.out | apply below_alloc | apply pw_below_drewN | apply below_drew1 | refine below_set ?_ Zd.out) | exact HB.out))) : w.heap.size ≤ Ze)); have n5_ := mA ((by rw [hg]; exact Nat.ne_of_lt (blk_lt (g := Za) (o := cQ25 a0_0 a0_1 a0_2 a0_3) Zb.out) : Za ≠ Ze)); have n6_ := mA ((by rw [hg]; exact Nat.ne_of_gt (blk_lt (g := Za) (o := cQ25 a0_0 a0_1 a0_2 a0_3) Zb.out) : Ze ≠ Za)); clear Zb; clear HB; have Zb := n0_; have HB := n1_; have Zf := n2_; have Zg := n3_; have Zh := n4_; have Zi := n5_; have Zj := n6_; clear n0_ n1_ n2_ n3_ n4_ n5_ n6_; clear hb hbox hg))
      have n0_ := mA (blk_drew Zb.out)
      have n1_ := mA (blk_drew Zf.out)
      have n2_ := mA (below_drew1 HB.out)
      clear Zb
      clear Zf
      clear HB
      have Zb := n0_
      have Zf := n1_
      have HB := n2_
      clear n0_ n1_ n2_
      refine start_ (n := 14) (S := fun w' => w'.cell? ⟨Za, 0, none⟩ = some (.int .i64 a0_0) ∧ w'.cell? ⟨Za, 1, none⟩ = some (.int .i64 a0_1) ∧ w'.cell? ⟨Za, 2, none⟩ = some (.int .i64 a0_2) ∧ w'.cell? ⟨Za, 3, none⟩ = some (.int .i64 a0_3) ∧ w'.cell? ⟨Ze, 0, none⟩ = some (.int .i64 a1_0) ∧ w'.cell? ⟨Ze, 1, none⟩ = some (.int .i64 a1_1) ∧ w'.cell? ⟨Ze, 2, none⟩ = some (.int .i64 a1_2) ∧ w'.cell? ⟨Ze, 3, none⟩ = some (.int .i64 a1_3)) (ds := []) #[false, false, false, false, false, false, false, false, false, false, false, false, false, false] (by kernel_rfl) rfl rfl ⟨(blk_cell Zb.out 0).trans rfl, (blk_cell Zb.out 1).trans rfl, (blk_cell Zb.out 2).trans rfl, (blk_cell Zb.out 3).trans rfl, (blk_cell Zf.out 0).trans rfl, (blk_cell Zf.out 1).trans rfl, (blk_cell Zf.out 2).trans rfl, (blk_cell Zf.out 3).trans rfl⟩ (fun hHeld => ?_); refine with_tabW impl_SameSize.tab1 impl_SameSize.bits1 (fun HT_ HW_ => ?_)
      generalize w17.drew = w18 at Zb Zf HB hHeld ⊢
      refine take_ (i := 0) (N := some 5) (v := ?_) (a' := ?_) #[true, false, false, false, false, false, false, false, false, false, false, false, false, false] rfl rfl (take_ofW HT_.out HW_.out (by kernel_rfl)) (fun _ _ _ h => h) (Or.inl ⟨by rfl, ?_⟩) hHeld ?_ ?_
      rotate_left
      · rintro w' ⟨s0, s1, s2, s3, s4, s5, s6, s7⟩
        go_simp
        with_reducible rfl
      rotate_left
      · simp only [Act.put, List.setIfInBounds_toArray, List.set_cons_zero, List.set_cons_succ, i64_w, i32_w]
        rfl
      refine one_ (i := 1) (N := some 6) #[true, true, false, false, false, false, false, false, false, false, false, false, false, false] rfl rfl (one_of HT_.out (by kernel_rfl)) (by decide) (fun K hK => ?_)
      refine goes_ Try.func43 (by kernel_rfl) rfl #[.agg #[.int .i64 a0_0, .int .i64 a0_1, .int .i64 a0_2, .int .i64 a0_3]] (by rfl) rfl rfl (by (try simp only [List.map_toArray, List.map_cons, List.map_nil]); first | done | rfl | (simp only [List.length_drop, List.length_take]; rfl)) ?_
      with_reducible refine (impl_IntervalOk.calls a0_0 a0_1 a0_2 a0_3 true _ A3.out).mono ?_
      rintro e w19 ⟨rfl, hb⟩
      refine ⟨_, rfl, ?_⟩
      have n0_ := mA (blk_below (g := Za) (o := cQ25 a0_0 a0_1 a0_2 a0_3) Zb.out hb)
      have n1_ := mA (blk_below (g := Ze) (o := cQ25 a1_0 a1_1 a1_2 a1_3) Zf.out hb)
      have n2_ := mA (below_step (by repeat (first | (with_reducible first | exact HB.out | apply below_alloc | apply pw_below_drewN | apply below_drew1 | refine below_set ?_ Zd.out | refine below_set ?_ Zh.out) | exact HB.out)) hb)
      clear Zb
      clear Zf
      clear HB
      have Zb := n0_
      have Zf := n1_
      have HB := n2_
      clear n0_ n1_ n2_
      (try clear hb)
      (try clear hb2)
      (try clear hk)
      (try clear hi)
      refine hK.out _ _ ⟨(blk_cell Zb.out 0).trans rfl, (blk_cell Zb.out 1).trans rfl, (blk_cell Zb.out 2).trans rfl, (blk_cell Zb.out 3).trans rfl, (blk_cell Zf.out 0).trans rfl, (blk_cell Zf.out 1).trans rfl, (blk_cell Zf.out 2).trans rfl, (blk_cell Zf.out 3).trans rfl⟩ (fun hHeld => ?_)
      clear hK K
      refine norm_ (a' := ?_) ?_ ?_
      rotate_left
      · show Act.put _ (some 6) _ = _
        simp only [Act.put, List.setIfInBounds_toArray, List.set_cons_zero, List.set_cons_succ, i64_w, i32_w]
        rfl
      refine pure_ (i := 2) (N := some 7) (v := ?_) (a' := ?_) #[true, true, true, false, false, false, false, false, false, false, false, false, false, false] rfl rfl (any_of HT_.out (by kernel_rfl)) (fun _ _ _ h => h) (Or.inl ⟨by rfl, ?_⟩) ?_ ?_
      rotate_left
      · intro w'
        go_simp
        with_reducible rfl
      rotate_left
      · simp only [Act.put, List.setIfInBounds_toArray, List.set_cons_zero, List.set_cons_succ, i64_w, i32_w]
        rfl
      refine take_ (i := 3) (N := some 8) (v := ?_) (a' := ?_) #[true, true, true, true, false, false, false, false, false, false, false, false, false, false] rfl rfl (take_ofW HT_.out HW_.out (by kernel_rfl)) (fun _ _ _ h => h) (Or.inl ⟨by rfl, ?_⟩) hHeld ?_ ?_
      rotate_left
      · rintro w' ⟨s0, s1, s2, s3, s4, s5, s6, s7⟩
        go_simp
        with_reducible rfl
      rotate_left
      · simp only [Act.put, List.setIfInBounds_toArray, List.set_cons_zero, List.set_cons_succ, i64_w, i32_w]
        rfl
      refine one_ (i := 4) (N := some 9) #[true, true, true, true, true, false, false, false, false, false, false, false, false, false] rfl rfl (one_of HT_.out (by kernel_rfl)) (by decide) (fun K hK => ?_)
      refine goes_ Try.func43 (by kernel_rfl) rfl #[.agg #[.int .i64 a1_0, .int .i64 a1_1, .int .i64 a1_2, .int .i64 a1_3]] (by rfl) rfl rfl (by (try simp only [List.map_toArray, List.map_cons, List.map_nil]); first | done | rfl | (simp only [List.length_drop, List.length_take]; rfl)) ?_
      with_reducible refine (impl_IntervalOk.calls a1_0 a1_1 a1_2 a1_3 false _ A5.out).mono ?_
      rintro e w20 ⟨rfl, hb⟩
      refine ⟨_, rfl, ?_⟩
      have n0_ := mA (blk_below (g := Za) (o := cQ25 a0_0 a0_1 a0_2 a0_3) Zb.out hb)
      have n1_ := mA (blk_below (g := Ze) (o := cQ25 a1_0 a1_1 a1_2 a1_3) Zf.out hb)
      have n2_ := mA (below_step (by repeat (first | (with_reducible first | exact HB.out | apply below_alloc | apply pw_below_drewN | apply below_drew1 | refine below_set ?_ Zd.out | refine below_set ?_ Zh.out) | exact HB.out)) hb)
      clear Zb
      clear Zf
      clear HB
      have Zb := n0_
      have Zf := n1_
      have HB := n2_
      clear n0_ n1_ n2_
      (try clear hb)
      (try clear hb2)
      (try clear hk)
      (try clear hi)
      refine hK.out _ _ ⟨(blk_cell Zb.out 0).trans rfl, (blk_cell Zb.out 1).trans rfl, (blk_cell Zb.out 2).trans rfl, (blk_cell Zb.out 3).trans rfl, (blk_cell Zf.out 0).trans rfl, (blk_cell Zf.out 1).trans rfl, (blk_cell Zf.out 2).trans rfl, (blk_cell Zf.out 3).trans rfl⟩ (fun hHeld => ?_)
      clear hK K
      refine norm_ (a' := ?_) ?_ ?_
      rotate_left
      · show Act.put _ (some 9) _ = _
        simp only [Act.put, List.setIfInBounds_toArray, List.set_cons_zero, List.set_cons_succ, i64_w, i32_w]
        rfl
      refine pure_ (i := 5) (N := some 10) (v := ?_) (a' := ?_) #[true, true, true, true, true, true, false, false, false, false, false, false, false, false] rfl rfl (any_of HT_.out (by kernel_rfl)) (fun _ _ _ h => h) (Or.inl ⟨by rfl, ?_⟩) ?_ ?_
      rotate_left
      · intro w'
        go_simp
        with_reducible rfl
      rotate_left
      · simp only [Act.put, List.setIfInBounds_toArray, List.set_cons_zero, List.set_cons_succ, i64_w, i32_w]
        rfl
      refine pure_ (i := 6) (N := some 11) (v := ?_) (a' := ?_) #[true, true, true, true, true, true, true, false, false, false, false, false, false, false] rfl rfl (any_of HT_.out (by kernel_rfl)) (fun _ _ _ h => h) (Or.inl ⟨by rfl, ?_⟩) ?_ ?_
      rotate_left
      · intro w'
        go_simp
        with_reducible rfl
      rotate_left
      · simp only [Act.put, List.setIfInBounds_toArray, List.set_cons_zero, List.set_cons_succ, i64_w, i32_w]
        rfl
      refine pure_ (i := 7) (N := some 12) (v := undef) (a' := ?_) #[true, true, true, true, true, true, true, true, false, false, false, false, false, false] rfl rfl (any_of HT_.out (by kernel_rfl)) (fun _ _ _ h => h) (Or.inr ⟨by rfl, rfl⟩) ?_ ?_
      rotate_left
      · simp only [Act.put, List.setIfInBounds_toArray, List.set_cons_zero, List.set_cons_succ, i64_w, i32_w]
        rfl
      refine pure_ (i := 8) (N := some 13) (v := undef) (a' := ?_) #[true, true, true, true, true, true, true, true, true, false, false, false, false, false] rfl rfl (any_of HT_.out (by kernel_rfl)) (fun _ _ _ h => h) (Or.inr ⟨by rfl, rfl⟩) ?_ ?_
      rotate_left
      · simp only [Act.put, List.setIfInBounds_toArray, List.set_cons_zero, List.set_cons_succ, i64_w, i32_w]
        rfl
      refine pure_ (i := 9) (N := some 14) (v := undef) (a' := ?_) #[true, true, true, true, true, true, true, true, true, true, false, false, false, false] rfl rfl (any_of HT_.out (by kernel_rfl)) (fun _ _ _ h => h) (Or.inr ⟨by rfl, rfl⟩) ?_ ?_
      rotate_left
      · simp only [Act.put, List.setIfInBounds_toArray, List.set_cons_zero, List.set_cons_succ, i64_w, i32_w]
        rfl
      refine pure_ (i := 10) (N := some 15) (v := undef) (a' := ?_) #[true, true, true, true, true, true, true, true, true, true, true, false, false, false] rfl rfl (any_of HT_.out (by kernel_rfl)) (fun _ _ _ h => h) (Or.inr ⟨by rfl, rfl⟩) ?_ ?_
      rotate_left
      · simp only [Act.put, List.setIfInBounds_toArray, List.set_cons_zero, List.set_cons_succ, i64_w, i32_w]
        rfl
      refine pure_ (i := 11) (N := some 16) (v := undef) (a' := ?_) #[true, true, true, true, true, true, true, true, true, true, true, true, false, false] rfl rfl (any_of HT_.out (by kernel_rfl)) (fun _ _ _ h => h) (Or.inr ⟨by rfl, rfl⟩) ?_ ?_
      rotate_left
      · simp only [Act.put, List.setIfInBounds_toArray, List.set_cons_zero, List.set_cons_succ, i64_w, i32_w]
        rfl
      refine pure_ (i := 12) (N := some 17) (v := ?_) (a' := ?_) #[true, true, true, true, true, true, true, true, true, true, true, true, true, false] rfl rfl (any_of HT_.out (by kernel_rfl)) (fun _ _ _ h => h) (Or.inl ⟨by rfl, ?_⟩) ?_ ?_
      rotate_left
      · intro w'
        go_simp
        with_reducible rfl
      rotate_left
      · simp only [Act.put, List.setIfInBounds_toArray, List.set_cons_zero, List.set_cons_succ, i64_w, i32_w]
        rfl
      refine pure_ (i := 13) (N := some 4) (v := ?_) (a' := ?_) #[true, true, true, true, true, true, true, true, true, true, true, true, true, true] rfl rfl (any_of HT_.out (by kernel_rfl)) (fun _ _ _ h => h) (Or.inl ⟨by rfl, ?_⟩) ?_ ?_
      rotate_left
      · intro w'
        go_simp
        with_reducible rfl
      rotate_left
      · simp only [Act.put, List.setIfInBounds_toArray, List.set_cons_zero, List.set_cons_succ, i64_w, i32_w]
        rfl
      refine done_ (done_of HT_.out (by kernel_rfl)) ?_
      try go_wp2
      go_ret
      exact ⟨by first | rfl | (simp [errW_none, errW_some] <;> rfl) | (simp [*, errW_none, errW_some] <;> rfl), by repeat (first | (with_reducible first | exact HB.out | apply below_alloc | apply pw_below_drewN | apply below_drew1 | refine below_set ?_ Zd.out | refine below_set ?_ Zh.out) | exact HB.out)⟩
  · replace c4 := Bool.eq_false_iff.mpr c4
    subst c4
    have H1 : (some false) = some r := by rw [if_neg (show ¬ (false = true) by decide)] at H; exact H
    clear H
    have H := H1
    clear H1
    obtain rfl := Option.some.inj H
    go_enter Try.func56, Try.ntmps56
    try go_wp2_with (first | ((with_reducible refine gate_dst (N := 2) rfl ?_); refine box_event ?hg (N := 2) ?hd (cs := #[.int .i64 a0_0, .int .i64 a0_1, .int .i64 a0_2, .int .i64 a0_3]) (t := 25) ?hr ?_; (case hd => rfl); (case hg => rfl); (case hr => first | (go_simp; done) | (go_simp; rfl)); intro Za hg w21 hbox hb; have n0_ := mA (below_step (by repeat (first | (with_reducible first | exact HB.out | apply below_alloc | apply pw_below_drewN | apply below_drew1) | exact HB.out)) hb); have n1_ := mA (hbox); have n2_ := mA ((by rw [hg]; exact (below_size (by repeat (first | (with_reducible first | exact HB.out | apply below_alloc | apply pw_below_drewN | apply below_drew1) | exact HB.out))) : w.heap.size ≤ Za)); have n3_ := mA ((by rw [hg]; exact (below_size (by repeat (first | (with_reducible first | exact HB.out | apply below_alloc | apply pw_below_drewN | apply below_drew1) | exact HB.out))) : w.heap.size ≤ Za)); clear HB; have HB := n0_; have Zb := n1_; have Zc := n2_; have Zd := n3_; clear n0_ n1_ n2_ n3_; clear hb hbox hg) | ((with_reducible refine gate_dst (N := 3) rfl ?_); refine box_event ?hg (N := 3) ?hd (cs := #[.int .i64 a1_0, .int .i64 a1_1, .int .i64 a1_2, .int .i64 a1_3]) (t := 25) ?hr ?_; (case hd => rfl); (case hg => rfl); (case hr => first | (go_simp; done) | (go_simp; rfl)); intro Ze hg w22 hbox hb; have n0_ := mA (blk_below (g := Za) (o := cQ25 a0_0 a0_1 a0_2 a0_3) Zb.out hb); have n1_ := mA (below_step (by repeat (first | (with_reducible first | exact HB.out | apply below_alloc | apply pw_below_drewN | apply below_drew1 | refine below_set ?_ Zd.out) | exact HB.out)) hb); have n2_ := mA (hbox); have n3_ := mA ((by rw [hg]; exact (below_size (by repeat (first | (with_reducible first | exact HB.out | apply below_alloc | apply pw_below_drewN | apply below_drew1 | refine below_set ?_ Zd.out) | exact HB.out))) : w.heap.size ≤ Ze)); have n4_ := mA ((by rw [hg]; exact (below_size (by repeat (first | (with_reducible first | exact HB.out | apply below_alloc | apply pw_below_drewN | apply below_drew1 | refine below_set ?_ Zd.out) | exact HB.out))) : w.heap.size ≤ Ze)); have n5_ := mA ((by rw [hg]; exact Nat.ne_of_lt (blk_lt (g := Za) (o := cQ25 a0_0 a0_1 a0_2 a0_3) Zb.out) : Za ≠ Ze)); have n6_ := mA ((by rw [hg]; exact Nat.ne_of_gt (blk_lt (g := Za) (o := cQ25 a0_0 a0_1 a0_2 a0_3) Zb.out) : Ze ≠ Za)); clear Zb; clear HB; have Zb := n0_; have HB := n1_; have Zf := n2_; have Zg := n3_; have Zh := n4_; have Zi := n5_; have Zj := n6_; clear n0_ n1_ n2_ n3_ n4_ n5_ n6_; clear hb hbox hg))
    have n0_ := mA (blk_drew Zb.out)
    have n1_ := mA (blk_drew Zf.out)
    have n2_ := mA (below_drew1 HB.out)
    clear Zb
    clear Zf
    clear HB
    have Zb := n0_
    have Zf := n1_
    have HB := n2_
    clear n0_ n1_ n2_
    refine start_ (n := 14) (S := fun w' => w'.cell? ⟨Za, 0, none⟩ = some (.int .i64 a0_0) ∧ w'.cell? ⟨Za, 1, none⟩ = some (.int .i64 a0_1) ∧ w'.cell? ⟨Za, 2, none⟩ = some (.int .i64 a0_2) ∧ w'.cell? ⟨Za, 3, none⟩ = some (.int .i64 a0_3)) (ds := []) #[false, false, false, false, false, false, false, false, false, false, false, false, false, false] (by kernel_rfl) rfl rfl ⟨(blk_cell Zb.out 0).trans rfl, (blk_cell Zb.out 1).trans rfl, (blk_cell Zb.out 2).trans rfl, (blk_cell Zb.out 3).trans rfl⟩ (fun hHeld => ?_); refine with_tabW impl_SameSize.tab1 impl_SameSize.bits1 (fun HT_ HW_ => ?_)
    generalize w22.drew = w23 at Zb Zf HB hHeld ⊢
    refine take_ (i := 0) (N := some 5) (v := ?_) (a' := ?_) #[true, false, false, false, false, false, false, false, false, false, false, false, false, false] rfl rfl (take_ofW HT_.out HW_.out (by kernel_rfl)) (fun _ _ _ h => h) (Or.inl ⟨by rfl, ?_⟩) hHeld ?_ ?_
    rotate_left
    · rintro w' ⟨s0, s1, s2, s3⟩
      go_simp
      with_reducible rfl
    rotate_left
    · simp only [Act.put, List.setIfInBounds_toArray, List.set_cons_zero, List.set_cons_succ, i64_w, i32_w]
      rfl
    refine one_ (i := 1) (N := some 6) #[true, true, false, false, false, false, false, false, false, false, false, false, false, false] rfl rfl (one_of HT_.out (by kernel_rfl)) (by decide) (fun K hK => ?_)
    refine goes_ Try.func43 (by kernel_rfl) rfl #[.agg #[.int .i64 a0_0, .int .i64 a0_1, .int .i64 a0_2, .int .i64 a0_3]] (by rfl) rfl rfl (by (try simp only [List.map_toArray, List.map_cons, List.map_nil]); first | done | rfl | (simp only [List.length_drop, List.length_take]; rfl)) ?_
    with_reducible refine (impl_IntervalOk.calls a0_0 a0_1 a0_2 a0_3 false _ A3.out).mono ?_
    rintro e w24 ⟨rfl, hb⟩
    refine ⟨_, rfl, ?_⟩
    have n0_ := mA (blk_below (g := Za) (o := cQ25 a0_0 a0_1 a0_2 a0_3) Zb.out hb)
    have n1_ := mA (blk_below (g := Ze) (o := cQ25 a1_0 a1_1 a1_2 a1_3) Zf.out hb)
    have n2_ := mA (below_step (by repeat (first | (with_reducible first | exact HB.out | apply below_alloc | apply pw_below_drewN | apply below_drew1 | refine below_set ?_ Zd.out | refine below_set ?_ Zh.out) | exact HB.out)) hb)
    clear Zb
    clear Zf
    clear HB
    have Zb := n0_
    have Zf := n1_
    have HB := n2_
    clear n0_ n1_ n2_
    (try clear hb)
    (try clear hb2)
    (try clear hk)
    (try clear hi)
    refine hK.out _ _ ⟨(blk_cell Zb.out 0).trans rfl, (blk_cell Zb.out 1).trans rfl, (blk_cell Zb.out 2).trans rfl, (blk_cell Zb.out 3).trans rfl⟩ (fun hHeld => ?_)
    clear hK K
    refine norm_ (a' := ?_) ?_ ?_
    rotate_left
    · show Act.put _ (some 6) _ = _
      simp only [Act.put, List.setIfInBounds_toArray, List.set_cons_zero, List.set_cons_succ, i64_w, i32_w]
      rfl
    refine pure_ (i := 2) (N := some 7) (v := ?_) (a' := ?_) #[true, true, true, false, false, false, false, false, false, false, false, false, false, false] rfl rfl (any_of HT_.out (by kernel_rfl)) (fun _ _ _ h => h) (Or.inl ⟨by rfl, ?_⟩) ?_ ?_
    rotate_left
    · intro w'
      go_simp
      with_reducible rfl
    rotate_left
    · simp only [Act.put, List.setIfInBounds_toArray, List.set_cons_zero, List.set_cons_succ, i64_w, i32_w]
      rfl
    refine pure_ (i := 3) (N := some 8) (v := undef) (a' := ?_) #[true, true, true, true, false, false, false, false, false, false, false, false, false, false] rfl rfl (any_of HT_.out (by kernel_rfl)) (fun _ _ _ h => h) (Or.inr ⟨by rfl, rfl⟩) ?_ ?_
    rotate_left
    · simp only [Act.put, List.setIfInBounds_toArray, List.set_cons_zero, List.set_cons_succ, i64_w, i32_w]
      rfl
    refine pure_ (i := 4) (N := some 9) (v := undef) (a' := ?_) #[true, true, true, true, true, false, false, false, false, false, false, false, false, false] rfl rfl (any_of HT_.out (by kernel_rfl)) (fun _ _ _ h => h) (Or.inr ⟨by rfl, rfl⟩) ?_ ?_
    rotate_left
    · simp only [Act.put, List.setIfInBounds_toArray, List.set_cons_zero, List.set_cons_succ, i64_w, i32_w]
      rfl
    refine pure_ (i := 5) (N := some 10) (v := ?_) (a' := ?_) #[true, true, true, true, true, true, false, false, false, false, false, false, false, false] rfl rfl (any_of HT_.out (by kernel_rfl)) (fun _ _ _ h => h) (Or.inl ⟨by rfl, ?_⟩) ?_ ?_
    rotate_left
    · intro w'
      go_simp
      with_reducible rfl
    rotate_left
    · simp only [Act.put, List.setIfInBounds_toArray, List.set_cons_zero, List.set_cons_succ, i64_w, i32_w]
      rfl
    refine pure_ (i := 6) (N := some 11) (v := ?_) (a' := ?_) #[true, true, true, true, true, true, true, false, false, false, false, false, false, false] rfl rfl (any_of HT_.out (by kernel_rfl)) (fun _ _ _ h => h) (Or.inl ⟨by rfl, ?_⟩) ?_ ?_
    rotate_left
    · intro w'
      go_simp
      with_reducible rfl
    rotate_left
    · simp only [Act.put, List.setIfInBounds_toArray, List.set_cons_zero, List.set_cons_succ, i64_w, i32_w]
      rfl
    refine pure_ (i := 7) (N := some 12) (v := undef) (a' := ?_) #[true, true, true, true, true, true, true, true, false, false, false, false, false, false] rfl rfl (any_of HT_.out (by kernel_rfl)) (fun _ _ _ h => h) (Or.inr ⟨by rfl, rfl⟩) ?_ ?_
    rotate_left
    · simp only [Act.put, List.setIfInBounds_toArray, List.set_cons_zero, List.set_cons_succ, i64_w, i32_w]
      rfl
    refine pure_ (i := 8) (N := some 13) (v := undef) (a' := ?_) #[true, true, true, true, true, true, true, true, true, false, false, false, false, false] rfl rfl (any_of HT_.out (by kernel_rfl)) (fun _ _ _ h => h) (Or.inr ⟨by rfl, rfl⟩) ?_ ?_
    rotate_left
    · simp only [Act.put, List.setIfInBounds_toArray, List.set_cons_zero, List.set_cons_succ, i64_w, i32_w]
      rfl
    refine pure_ (i := 9) (N := some 14) (v := undef) (a' := ?_) #[true, true, true, true, true, true, true, true, true, true, false, false, false, false] rfl rfl (any_of HT_.out (by kernel_rfl)) (fun _ _ _ h => h) (Or.inr ⟨by rfl, rfl⟩) ?_ ?_
    rotate_left
    · simp only [Act.put, List.setIfInBounds_toArray, List.set_cons_zero, List.set_cons_succ, i64_w, i32_w]
      rfl
    refine pure_ (i := 10) (N := some 15) (v := undef) (a' := ?_) #[true, true, true, true, true, true, true, true, true, true, true, false, false, false] rfl rfl (any_of HT_.out (by kernel_rfl)) (fun _ _ _ h => h) (Or.inr ⟨by rfl, rfl⟩) ?_ ?_
    rotate_left
    · simp only [Act.put, List.setIfInBounds_toArray, List.set_cons_zero, List.set_cons_succ, i64_w, i32_w]
      rfl
    refine pure_ (i := 11) (N := some 16) (v := undef) (a' := ?_) #[true, true, true, true, true, true, true, true, true, true, true, true, false, false] rfl rfl (any_of HT_.out (by kernel_rfl)) (fun _ _ _ h => h) (Or.inr ⟨by rfl, rfl⟩) ?_ ?_
    rotate_left
    · simp only [Act.put, List.setIfInBounds_toArray, List.set_cons_zero, List.set_cons_succ, i64_w, i32_w]
      rfl
    refine pure_ (i := 12) (N := some 17) (v := ?_) (a' := ?_) #[true, true, true, true, true, true, true, true, true, true, true, true, true, false] rfl rfl (any_of HT_.out (by kernel_rfl)) (fun _ _ _ h => h) (Or.inl ⟨by rfl, ?_⟩) ?_ ?_
    rotate_left
    · intro w'
      go_simp
      with_reducible rfl
    rotate_left
    · simp only [Act.put, List.setIfInBounds_toArray, List.set_cons_zero, List.set_cons_succ, i64_w, i32_w]
      rfl
    refine pure_ (i := 13) (N := some 4) (v := ?_) (a' := ?_) #[true, true, true, true, true, true, true, true, true, true, true, true, true, true] rfl rfl (any_of HT_.out (by kernel_rfl)) (fun _ _ _ h => h) (Or.inl ⟨by rfl, ?_⟩) ?_ ?_
    rotate_left
    · intro w'
      go_simp
      with_reducible rfl
    rotate_left
    · simp only [Act.put, List.setIfInBounds_toArray, List.set_cons_zero, List.set_cons_succ, i64_w, i32_w]
      rfl
    refine done_ (done_of HT_.out (by kernel_rfl)) ?_
    try go_wp2
    go_ret
    exact ⟨by first | rfl | (simp [errW_none, errW_some] <;> rfl) | (simp [*, errW_none, errW_some] <;> rfl), by repeat (first | (with_reducible first | exact HB.out | apply below_alloc | apply pw_below_drewN | apply below_drew1 | refine below_set ?_ Zd.out | refine below_set ?_ Zh.out) | exact HB.out)⟩

/-! ### impl_ChainOf: function 35 -/
/-- impl.ChainOf: the fifths from low to high, in the order of their sizes (the tables: Srt). -/
def toS (x : Srt.E) : S25 := ⟨x.1, x.2.1, x.2.2.1, x.2.2.2⟩
/-- What the callees must answer, as the tables say. -/
def FifOk (k : Nat) (n : Int) : Prop := impl_Fifths.f k n = some ((Srt.fifE n).1, n, 0, 1, true)
def CmpOk (k : Nat) (n m : Int) : Prop := (impl_CompareIntervals.f k (Srt.fifE n).1 n 0 1 (Srt.fifE m).1 m 0 1).map (fun v => decide (v < 0)) = some (Srt.ltE (Srt.fifE n) (Srt.fifE m))
instance (k : Nat) (n : Int) : Decidable (FifOk k n) := by unfold FifOk; infer_instance
instance (k : Nat) (n m : Int) : Decidable (CmpOk k n m) := by unfold CmpOk; infer_instance
def impl_ChainOf.f (k : Nat) (a0 : Int) (a1 : Int) : Option (List S25) :=
  if a0 ≤ a1 ∧ -30 ≤ a0 ∧ a1 ≤ 30 then
    (if (∀ n ∈ Srt.chainN a0 a1, FifOk k n) ∧ (∀ n ∈ Srt.chainN a0 a1, ∀ m ∈ Srt.chainN a0 a1, CmpOk k n m) then some ((Srt.sortedN a0 a1).map fun n => toS (Srt.fifE n)) else none)
  else some []
theorem seg_get : ∀ (l : List Srt.E) (j : Nat) (x : Srt.E), l[j]? = some x → ((l.flatMap Srt.ec).drop (j * 4)).take 4 = Srt.ec x
  | [], j, x, h => by simp at h
  | a :: r, 0, x, h => by
    have : a = x := by simpa using h
    subst this
    rfl
  | a :: r, j + 1, x, h => by
    rw [List.flatMap_cons, show (j + 1) * 4 = (Srt.ec a).length + j * 4 by rw [Srt.ec_len]; omega, List.drop_append, List.drop_eq_nil_of_le (by rw [Srt.ec_len]; omega), List.nil_append, Nat.add_sub_cancel_left]
    exact seg_get r j x (by simpa using h)
theorem seg_len : ∀ l : List Srt.E, (l.flatMap Srt.ec).length = l.length * 4
  | [] => rfl
  | a :: r => by rw [List.flatMap_cons, List.length_append, seg_len r, Srt.ec_len, List.length_cons]; omega
theorem reps_rows (w : World) (base : Nat) (ok : Nat → Prop) (l : List Srt.E) : Reps (k25.M w base ok) 4 (l.map toS) (l.flatMap Srt.ec) := by
  refine ⟨by rw [seg_len, List.length_map], fun j p hj => ?_⟩
  rw [List.getElem?_map] at hj
  obtain ⟨x, hx, rfl⟩ := Option.map_eq_some_iff.1 hj
  rw [seg_get l j x hx]
  exact k25_mkM w base ok (toS x)
theorem impl_ChainOf.calls (k : Nat) (a0 : Int) (a1 : Int) (r : List (S25)) (w : World) (h : impl_ChainOf.f k a0 a1 = some r) :
    Calls Try.prog 35 #[.int .i64 a0, .int .i64 a1] w fun e w' => ∃ v0_ : Value, e = .returned (v0_) ∧ Kd.R k25 25 w' w.heap.size (fun _ => True) v0_ r ∧ Below w.heap.size w w' := by
  unfold impl_ChainOf.f at h
  by_cases c : a0 ≤ a1 ∧ -30 ≤ a0 ∧ a1 ≤ 30
  · rw [if_pos c] at h
    by_cases q : (∀ n ∈ Srt.chainN a0 a1, FifOk k n) ∧ (∀ n ∈ Srt.chainN a0 a1, ∀ m ∈ Srt.chainN a0 a1, CmpOk k n m)
    · rw [if_pos q] at h
      have hr : (Srt.sortedN a0 a1).map (fun n => toS (Srt.fifE n)) = r := Option.some.inj h
      have hc := Srt.chain_calls Srt.fifE Srt.ltE Srt.swoE a0 a1 c.2.1 c.2.2 c.1 w
        (fun x W h1 h2 => Calls.mono (impl_within.calls x (-30) 30 true W (by simp [impl_within.f, h1, h2])) (fun e w' hh => ⟨hh.1, hh.2.out⟩))
        (fun n W h1 h2 => impl_Fifths.calls k n _ _ _ _ _ W (q.1 n (Srt.chain_mem.2 ⟨h1, h2⟩)))
        (fun n m W h1 h2 h3 h4 => by
          obtain ⟨v, hv, e⟩ := Option.map_eq_some_iff.1 (q.2 n (Srt.chain_mem.2 ⟨h1, h2⟩) m (Srt.chain_mem.2 ⟨h3, h4⟩))
          exact Calls.mono (impl_CompareIntervals.calls k _ _ _ _ _ _ _ _ v W hv) (fun e' w' hh => ⟨⟨v, hh.1, e⟩, hh.2⟩))
      refine Calls.mono hc ?_
      rintro e w' ⟨v, d', rfl, ho, hs, hp, hb⟩
      have hrow := Srt.row_eq a0 a1 c.2.1 c.2.2 d' hs hp
      have hr2 : r = d'.toList.map toS := by rw [hrow, List.map_map]; exact hr.symm
      subst hr2
      refine ⟨v, rfl, ⟨fun _ _ => trivial, d'.toList.flatMap Srt.ec, ?_, reps_rows _ _ _ _⟩, hb⟩
      rw [List.length_map, Array.length_toList]; exact ho
    · rw [if_neg q] at h; cases h
  · rw [if_neg c] at h
    have hr : ([] : List S25) = r := Option.some.inj h
    subst hr
    have hc := Srt.chain_nil a0 a1 c w (fun x W => by
      by_cases c2 : -30 ≤ x
      · exact Calls.mono (impl_within.calls x (-30) 30 (decide (-30 ≤ x ∧ x ≤ 30)) W (by simp [impl_within.f, c2])) (fun e w' hh => ⟨hh.1, hh.2.out⟩)
      · exact Calls.mono (impl_within.calls x (-30) 30 (decide (-30 ≤ x ∧ x ≤ 30)) W (by simp [impl_within.f, c2])) (fun e w' hh => ⟨hh.1, hh.2.out⟩))
    refine Calls.mono hc ?_
    rintro e w' ⟨rfl, hb⟩
    exact ⟨_, rfl, Kd.R_nil _ _ _ _ _, hb⟩
end Go.Proofs.Ytfimodphnfejdaa.PFnThreeSteps
