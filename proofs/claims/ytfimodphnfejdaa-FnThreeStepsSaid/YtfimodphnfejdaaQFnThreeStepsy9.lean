/- Contracts of the Go functions that the law FnThreeSteps reaches. Sections as the kit's print.sh writes them, put together by a program of this session (stq.py); what calls into Go's library is this session's walk over the kit's shelf contracts. -/
import Derived.Test.YtfimodphnfejdaaQFnThreeStepsy8
namespace Go.Proofs.Ytfimodphnfejdaa.PFnThreeSteps
open Go.RowKit Go.Proofs.YtfimodphnfejdaaW.PrintWords Go.Proofs.YtfimodphnfejdaaW.PrintLast Go.Proofs.YtfimodphnfejdaaW.PrintMore
attribute [local go_sem] max2_int min2_int max_two min_two max_three min_three max_four min_four
set_option linter.unusedVariables false
set_option linter.unusedSimpArgs false
attribute [local go_sem high] eqA25

/-! ### laws_FnThreeSteps: function 11 -/
set_option maxHeartbeats 8000000 in
set_option maxRecDepth 100000 in
theorem laws_FnThreeSteps.calls (k : Nat) (A0 : Option Addr) (c0 : Nat) (l0 : List Int) (r : Bool) (w : World) (hr0 : Kd.C (Kd.int .u8) w A0 l0.length l0) (hc0 : l0.length ≤ c0) (h : laws_FnThreeSteps.f k l0 = some r) (hr : r = true) :
    Calls Try.prog 11 #[.slice A0 l0.length c0] w fun e w' => e = .returned (.bool r) ∧ Below w.heap.size w w' := by
 have hu25 := Try.underlying25
 have HR0 := mA hr0
 have HC0 := mA hc0
 clear hr0 hc0
 have HB := mA (Below.refl w.heap.size w)
 have H : ((laws_big.f l0).bind fun t366 => (if t366 = true then (some true) else ((laws_at.f l0 0).bind fun t367 => ((laws_at.f l0 1).bind fun t368 => ((impl_ChainOf.f k (wrap64 (-(Int.tmod t367 13))) (Int.tmod t368 13)).bind fun t369 => ((impl_StepsOf.f k t369).bind fun t372 => (if (t369.length : Int) = (wrap64 ((wrap64 ((Int.tmod t368 13) - (wrap64 (-(Int.tmod t367 13))))) + 1)) then (if (t372.length : Int) = (t369.length : Int) then ((impl_CountSizes.f k t372).bind fun t375 => (if t375 > 3 then (laws_FnThreeSteps.j0 k t372 true) else ((impl_CountSizes.f k t372).bind fun t376 => (laws_FnThreeSteps.j0 k t372 (decide (t376 < 1)))))) else (laws_FnThreeSteps.j0 k t372 true)) else (laws_FnThreeSteps.j0 k t372 true)))))))) = some r := h
 clear h
 replace H := Option.bind_eq_some_iff.mp H
 obtain ⟨t366, A20, H⟩ := H
 replace H : (if t366 = true then (some true) else ((laws_at.f l0 0).bind fun t367 => ((laws_at.f l0 1).bind fun t368 => ((impl_ChainOf.f k (wrap64 (-(Int.tmod t367 13))) (Int.tmod t368 13)).bind fun t369 => ((impl_StepsOf.f k t369).bind fun t372 => (if (t369.length : Int) = (wrap64 ((wrap64 ((Int.tmod t368 13) - (wrap64 (-(Int.tmod t367 13))))) + 1)) then (if (t372.length : Int) = (t369.length : Int) then ((impl_CountSizes.f k t372).bind fun t375 => (if t375 > 3 then (laws_FnThreeSteps.j0 k t372 true) else ((impl_CountSizes.f k t372).bind fun t376 => (laws_FnThreeSteps.j0 k t372 (decide (t376 < 1)))))) else (laws_FnThreeSteps.j0 k t372 true)) else (laws_FnThreeSteps.j0 k t372 true))))))) = some r := H
 have A2 := mA A20
 clear A20
 by_cases c3 : t366 = true
 case pos =>
  subst c3
  have H1 : (some true) = some r := by rw [if_pos rfl] at H; exact H
  clear H
  have H := H1
  clear H1
  obtain rfl := Option.some.inj H
  go_enter Try.func11, Try.ntmps11
  go_wp2_with (first | ((with_reducible refine gate_callee (f := 22) rfl ?_); refine goesL_ (some 17) rfl rfl Try.func22 (by kernel_rfl) rfl #[.slice A0 l0.length c0] rfl (by (try simp only [List.map_toArray, List.map_cons, List.map_nil]); first | done | rfl | (simp only [List.length_drop, List.length_take]; rfl)) ?_; (with_reducible refine (laws_big.calls _ _ l0 true _ ?side1 ?side2 A2.out).mono ?_); (case side1 => repeat (first | exact HR0.out | (with_reducible refine Kd.C_alloc ?_ _) | (with_reducible refine Kd.C_drewN ?_ _) | (with_reducible refine Kd.C_drew ?_))); (case side2 => exact HC0.out); rintro e w' ⟨rfl, ⟨nd, rfl⟩⟩; refine ⟨_, rfl, ?_⟩))
  go_ret
  exact ⟨by first | rfl | (simp [errW_none, errW_some] <;> rfl) | (simp [*, errW_none, errW_some] <;> rfl), by repeat (first | (with_reducible first | exact HB.out | apply below_alloc | apply pw_below_drewN | apply below_drew1) | exact HB.out)⟩
 replace c3 := Bool.eq_false_iff.mpr c3
 subst c3
 rw [if_neg (show ¬ (false = true) by decide)] at H
 replace H := Option.bind_eq_some_iff.mp H
 obtain ⟨t367, A40, H⟩ := H
 replace H : ((laws_at.f l0 1).bind fun t368 => ((impl_ChainOf.f k (wrap64 (-(Int.tmod t367 13))) (Int.tmod t368 13)).bind fun t369 => ((impl_StepsOf.f k t369).bind fun t372 => (if (t369.length : Int) = (wrap64 ((wrap64 ((Int.tmod t368 13) - (wrap64 (-(Int.tmod t367 13))))) + 1)) then (if (t372.length : Int) = (t369.length : Int) then ((impl_CountSizes.f k t372).bind fun t375 => (if t375 > 3 then (laws_FnThreeSteps.j0 k t372 true) else ((impl_CountSizes.f k t372).bind fun t376 => (laws_FnThreeSteps.j0 k t372 (decide (t376 < 1)))))) else (laws_FnThreeSteps.j0 k t372 true)) else (laws_FnThreeSteps.j0 k t372 true))))) = some r := H
 have A4 := mA A40
 clear A40
 replace H := Option.bind_eq_some_iff.mp H
 obtain ⟨t368, A50, H⟩ := H
 replace H : ((impl_ChainOf.f k (wrap64 (-(Int.tmod t367 13))) (Int.tmod t368 13)).bind fun t369 => ((impl_StepsOf.f k t369).bind fun t372 => (if (t369.length : Int) = (wrap64 ((wrap64 ((Int.tmod t368 13) - (wrap64 (-(Int.tmod t367 13))))) + 1)) then (if (t372.length : Int) = (t369.length : Int) then ((impl_CountSizes.f k t372).bind fun t375 => (if t375 > 3 then (laws_FnThreeSteps.j0 k t372 true) else ((impl_CountSizes.f k t372).bind fun t376 => (laws_FnThreeSteps.j0 k t372 (decide (t376 < 1)))))) else (laws_FnThreeSteps.j0 k t372 true)) else (laws_FnThreeSteps.j0 k t372 true)))) = some r := H
 have A5 := mA A50
 clear A50
 replace H := Option.bind_eq_some_iff.mp H
 obtain ⟨t369, A60, H⟩ := H
 replace H : ((impl_StepsOf.f k t369).bind fun t372 => (if (t369.length : Int) = (wrap64 ((wrap64 ((Int.tmod t368 13) - (wrap64 (-(Int.tmod t367 13))))) + 1)) then (if (t372.length : Int) = (t369.length : Int) then ((impl_CountSizes.f k t372).bind fun t375 => (if t375 > 3 then (laws_FnThreeSteps.j0 k t372 true) else ((impl_CountSizes.f k t372).bind fun t376 => (laws_FnThreeSteps.j0 k t372 (decide (t376 < 1)))))) else (laws_FnThreeSteps.j0 k t372 true)) else (laws_FnThreeSteps.j0 k t372 true))) = some r := H
 have A6 := mA A60
 clear A60
 replace H := Option.bind_eq_some_iff.mp H
 obtain ⟨t372, A70, H⟩ := H
 replace H : (if (t369.length : Int) = (wrap64 ((wrap64 ((Int.tmod t368 13) - (wrap64 (-(Int.tmod t367 13))))) + 1)) then (if (t372.length : Int) = (t369.length : Int) then ((impl_CountSizes.f k t372).bind fun t375 => (if t375 > 3 then (laws_FnThreeSteps.j0 k t372 true) else ((impl_CountSizes.f k t372).bind fun t376 => (laws_FnThreeSteps.j0 k t372 (decide (t376 < 1)))))) else (laws_FnThreeSteps.j0 k t372 true)) else (laws_FnThreeSteps.j0 k t372 true)) = some r := H
 have A7 := mA A70
 clear A70
 have HC8 := mA H
 clear H
 go_enter Try.func11, Try.ntmps11
 go_upto_region 7 with (first | ((with_reducible refine gate_callee (f := 22) rfl ?_); refine goesL_ (some 17) rfl rfl Try.func22 (by kernel_rfl) rfl #[.slice A0 l0.length c0] rfl (by (try simp only [List.map_toArray, List.map_cons, List.map_nil]); first | done | rfl | (simp only [List.length_drop, List.length_take]; rfl)) ?_; (with_reducible refine (laws_big.calls _ _ l0 false _ ?side1 ?side2 A2.out).mono ?_); (case side1 => repeat (first | exact HR0.out | (with_reducible refine Kd.C_alloc ?_ _) | (with_reducible refine Kd.C_drewN ?_ _) | (with_reducible refine Kd.C_drew ?_))); (case side2 => exact HC0.out); rintro e w' ⟨rfl, ⟨nd, rfl⟩⟩; refine ⟨_, rfl, ?_⟩) | ((with_reducible refine gate_callee (f := 23) rfl ?_); refine goesL_ (some 19) rfl rfl Try.func23 (by kernel_rfl) rfl #[.slice A0 l0.length c0, .int .i64 0] rfl (by (try simp only [List.map_toArray, List.map_cons, List.map_nil]); first | done | rfl | (simp only [List.length_drop, List.length_take]; rfl)) ?_; (with_reducible refine (laws_at.calls _ _ l0 0 t367 _ ?side1 ?side2 A4.out).mono ?_); (case side1 => repeat (first | exact HR0.out | (with_reducible refine Kd.C_alloc ?_ _) | (with_reducible refine Kd.C_drewN ?_ _) | (with_reducible refine Kd.C_drew ?_))); (case side2 => exact HC0.out); rintro e w' ⟨rfl, ⟨nd, rfl⟩⟩; refine ⟨_, rfl, ?_⟩) | ((with_reducible refine gate_callee (f := 23) rfl ?_); refine goesL_ (some 23) rfl rfl Try.func23 (by kernel_rfl) rfl #[.slice A0 l0.length c0, .int .i64 1] rfl (by (try simp only [List.map_toArray, List.map_cons, List.map_nil]); first | done | rfl | (simp only [List.length_drop, List.length_take]; rfl)) ?_; (with_reducible refine (laws_at.calls _ _ l0 1 t368 _ ?side1 ?side2 A5.out).mono ?_); (case side1 => repeat (first | exact HR0.out | (with_reducible refine Kd.C_alloc ?_ _) | (with_reducible refine Kd.C_drewN ?_ _) | (with_reducible refine Kd.C_drew ?_))); (case side2 => exact HC0.out); rintro e w' ⟨rfl, ⟨nd, rfl⟩⟩; refine ⟨_, rfl, ?_⟩) | ((with_reducible refine gate_callee (f := 35) rfl ?_); refine goesL_ (some 27) rfl rfl Try.func35 (by kernel_rfl) rfl #[.int .i64 (wrap64 (-(Int.tmod t367 13))), .int .i64 (Int.tmod t368 13)] rfl (by (try simp only [List.map_toArray, List.map_cons, List.map_nil]); first | done | rfl | (simp only [List.length_drop, List.length_take]; rfl)) ?_; (with_reducible refine (impl_ChainOf.calls k (wrap64 (-(Int.tmod t367 13))) (Int.tmod t368 13) t369 _ A6.out).mono ?_); rintro e w9 ⟨v370, rfl, ho0, hb⟩; refine ⟨_, rfl, ?_⟩; have n0_ := mA (Kd.R_lower ho0 (below_size (by repeat (first | (with_reducible first | exact HB.out | apply below_alloc | apply pw_below_drewN | apply below_drew1) | exact HB.out)))); have n1_ := mA (below_step (by repeat (first | (with_reducible first | exact HB.out | apply below_alloc | apply pw_below_drewN | apply below_drew1) | exact HB.out)) hb); clear HB; have HO371 := n0_; have HB := n1_; clear n0_ n1_; (try clear hb); (try clear hb2); (try clear hk); (try clear hi); (try clear ho0); obtain ⟨Ao10, co10, eo10⟩ := Kd.R_slice HO371.out; subst eo10) | ((with_reducible refine gate_callee (f := 39) rfl ?_); refine goesL_ (some 29) rfl rfl Try.func39 (by kernel_rfl) rfl #[.slice Ao10 t369.length co10] rfl (by (try simp only [List.map_toArray, List.map_cons, List.map_nil]); first | done | rfl | (simp only [List.length_drop, List.length_take]; rfl)) ?_; (with_reducible refine (impl_StepsOf.calls k _ _ t369 t372 _ ?side1 ?side2 A7.out).mono ?_); (case side1 => repeat (first | exact (Kd.R_reads' HO371.out).2.2 | (with_reducible refine Kd.C_alloc ?_ _) | (with_reducible refine Kd.C_drewN ?_ _) | (with_reducible refine Kd.C_drew ?_))); (case side2 => exact (Kd.R_reads' HO371.out).2.1); rintro e w11 ⟨v373, rfl, ho0, hb⟩; refine ⟨_, rfl, ?_⟩; have n0_ := mA (Kd.R_elder' (by (with_reducible repeat (first | apply Kd.R_alloc | apply Kd.R_drewN | apply Kd.R_drew)); exact HO371.out) (Kd.R_base ho0) hb); have n1_ := mA (Kd.R_lower (Kd.R_new' ho0 (Kd.R_lt (by (with_reducible repeat (first | apply Kd.R_alloc | apply Kd.R_drewN | apply Kd.R_drew)); exact HO371.out))) (below_size (by repeat (first | (with_reducible first | exact HB.out | apply below_alloc | apply pw_below_drewN | apply below_drew1) | exact HB.out)))); have n2_ := mA (below_step (by repeat (first | (with_reducible first | exact HB.out | apply below_alloc | apply pw_below_drewN | apply below_drew1) | exact HB.out)) hb); clear HO371; clear HB; have HO371 := n0_; have HO374 := n1_; have HB := n2_; clear n0_ n1_ n2_; (try clear hb); (try clear hb2); (try clear hk); (try clear hi); (try clear ho0)))
 (try simp only [Act.put, List.setIfInBounds_toArray, List.set_cons_zero, List.set_cons_succ])
 go_cut [53] (fun v53 wc => ∃ (kq : Nat) (x53_7 : Bool), v53 = .bool x53_7 ∧ Aside0 (laws_FnThreeSteps.j0 kq t372 x53_7 = some r) ∧ Aside0 (kq ≤ k) ∧ Aside0 (Kd.R k25 25 wc w.heap.size (fun _ => True) v373 t372) ∧ Aside0 (Below w.heap.size w wc))
 case first =>
  have H := HC8.out
  clear HC8
  by_cases c12 : (t369.length : Int) = (wrap64 ((wrap64 ((Int.tmod t368 13) - (wrap64 (-(Int.tmod t367 13))))) + 1))
  case neg =>
   rw [if_neg c12] at H
   have c12b0 : ((t369.length : Int) == (wrap64 ((wrap64 ((Int.tmod t368 13) - (wrap64 (-(Int.tmod t367 13))))) + 1))) = false := beq_eq_false_iff_ne.mpr c12
   have c12b1 : ((t369.length : Int) != (wrap64 ((wrap64 ((Int.tmod t368 13) - (wrap64 (-(Int.tmod t367 13))))) + 1))) = true := bne_iff_ne.mpr c12
   (first | rw [c12b0] | (simp only [i64_w, i32_w]; rw [c12b0]) | skip)
   first | exact (laws_FnThreeSteps.j0_true H hr).elim | exact (laws_FnThreeSteps.j2_true H hr).elim
  rw [if_pos c12] at H
  have c12b0 : ((t369.length : Int) == (wrap64 ((wrap64 ((Int.tmod t368 13) - (wrap64 (-(Int.tmod t367 13))))) + 1))) = true := beq_iff_eq.mpr c12
  have c12b1 : ((t369.length : Int) != (wrap64 ((wrap64 ((Int.tmod t368 13) - (wrap64 (-(Int.tmod t367 13))))) + 1))) = false := bne_eq_false_iff_eq.mpr c12
  clear c12
  (first | rw [c12b0] | (simp only [i64_w, i32_w]; rw [c12b0]) | skip)
  by_cases c13 : (t372.length : Int) = (t369.length : Int)
  case neg =>
   rw [if_neg c13] at H
   have c13b0 : ((t372.length : Int) == (t369.length : Int)) = false := beq_eq_false_iff_ne.mpr c13
   have c13b1 : ((t372.length : Int) != (t369.length : Int)) = true := bne_iff_ne.mpr c13
   have c13b2 : (t372.length == t369.length) = false := by first | simpa using c13 | (simp at c13 ⊢; omega)
   first | exact (laws_FnThreeSteps.j0_true H hr).elim | exact (laws_FnThreeSteps.j2_true H hr).elim
  rw [if_pos c13] at H
  have c13b0 : ((t372.length : Int) == (t369.length : Int)) = true := beq_iff_eq.mpr c13
  have c13b1 : ((t372.length : Int) != (t369.length : Int)) = false := bne_eq_false_iff_eq.mpr c13
  have c13b2 : (t372.length == t369.length) = true := by first | simpa using c13 | (simp at c13 ⊢; omega)
  clear c13
  replace H := Option.bind_eq_some_iff.mp H
  obtain ⟨t375, A140, H⟩ := H
  replace H : (if t375 > 3 then (laws_FnThreeSteps.j0 k t372 true) else ((impl_CountSizes.f k t372).bind fun t376 => (laws_FnThreeSteps.j0 k t372 (decide (t376 < 1))))) = some r := H
  have A14 := mA A140
  clear A140
  by_cases c15 : t375 > 3
  case pos =>
   rw [if_pos c15] at H
   have c15b0 : decide (3 < t375) = true := decide_eq_true c15
   clear c15
   first | exact (laws_FnThreeSteps.j0_true H hr).elim | exact (laws_FnThreeSteps.j2_true H hr).elim
  rw [if_neg c15] at H
  have c15b0 : decide (3 < t375) = false := decide_eq_false c15
  clear c15
  replace H := Option.bind_eq_some_iff.mp H
  obtain ⟨t376, A180, H⟩ := H
  replace H : (laws_FnThreeSteps.j0 k t372 (decide (t376 < 1))) = some r := H
  have A18 := mA A180
  clear A180
  have H' := mA H
  clear H
  obtain ⟨Ao19, co19, eo19⟩ := Kd.R_slice HO374.out
  subst eo19
  go_wp2_with (first | (go_at_call 40; (with_reducible refine (impl_CountSizes.calls k _ _ t372 t375 _ ?side1 ?side2 A14.out).mono ?_); (case side1 => repeat (first | exact (Kd.R_reads' HO374.out).2.2 | (with_reducible refine Kd.C_alloc ?_ _) | (with_reducible refine Kd.C_drewN ?_ _) | (with_reducible refine Kd.C_drew ?_))); (case side2 => exact (Kd.R_reads' HO374.out).2.1); rintro e w20 ⟨rfl, hb⟩; have n0_ := mA (Kd.R_below (by (with_reducible repeat (first | apply Kd.R_alloc | apply Kd.R_drewN | apply Kd.R_drew)); exact HO371.out) hb); have n1_ := mA (Kd.R_below (by (with_reducible repeat (first | apply Kd.R_alloc | apply Kd.R_drewN | apply Kd.R_drew)); exact HO374.out) hb); have n2_ := mA (below_step (by repeat (first | (with_reducible first | exact HB.out | apply below_alloc | apply pw_below_drewN | apply below_drew1) | exact HB.out)) hb); clear HO371; clear HO374; clear HB; have HO371 := n0_; have HO374 := n1_; have HB := n2_; clear n0_ n1_ n2_; (try clear hb); (try clear hb2); (try clear hk); (try clear hi)) | (go_at_call 40; (with_reducible refine (impl_CountSizes.calls k _ _ t372 t376 _ ?side1 ?side2 A18.out).mono ?_); (case side1 => repeat (first | exact (Kd.R_reads' HO374.out).2.2 | (with_reducible refine Kd.C_alloc ?_ _) | (with_reducible refine Kd.C_drewN ?_ _) | (with_reducible refine Kd.C_drew ?_))); (case side2 => exact (Kd.R_reads' HO374.out).2.1); rintro e w21 ⟨rfl, hb⟩; have n0_ := mA (Kd.R_below (by (with_reducible repeat (first | apply Kd.R_alloc | apply Kd.R_drewN | apply Kd.R_drew)); exact HO371.out) hb); have n1_ := mA (Kd.R_below (by (with_reducible repeat (first | apply Kd.R_alloc | apply Kd.R_drewN | apply Kd.R_drew)); exact HO374.out) hb); have n2_ := mA (below_step (by repeat (first | (with_reducible first | exact HB.out | apply below_alloc | apply pw_below_drewN | apply below_drew1) | exact HB.out)) hb); clear HO371; clear HO374; clear HB; have HO371 := n0_; have HO374 := n1_; have HB := n2_; clear n0_ n1_ n2_; (try clear hb); (try clear hb2); (try clear hk); (try clear hi)))
  go_meet
  case rel => exact ⟨_, (decide (t376 < 1)), (by first | rfl | (rw [Option.some.inj (A14.out.symm.trans A18.out)]) | (simp; done) | (simp [*]; done)), H', ⟨by first | omega | exact Nat.le_refl _⟩, ⟨by (with_reducible repeat (first | apply Kd.R_alloc | apply Kd.R_drewN | apply Kd.R_drew)); exact Kd.R_mono HO374.out (fun _ hk => trivial)⟩, ⟨by repeat (first | (with_reducible first | exact HB.out | apply below_alloc | apply pw_below_drewN | apply below_drew1) | exact HB.out)⟩⟩
 clear HC8
 try clear c1
 try clear c2
 try clear p2
 try clear c3
 try clear p6
 try clear c11
 try clear c12
 try clear c12b0
 try clear c12b1
 try clear c13
 try clear c13b0
 try clear c13b1
 try clear c13b2
 try clear c15
 try clear c15b0
 try clear c22
 obtain ⟨kq, x53_7, rfl, HA, HJ7, HO_6, HB⟩ := hcut
 cases kq with
 | zero => exact absurd HA.out (by simp [laws_FnThreeSteps.j0])
 | succ kj7 =>
 have H := HA.out
 clear HA
 simp only [laws_FnThreeSteps.j0] at H
 by_cases c23 : x53_7 = true
 case pos =>
  subst c23
  have H1 : (some false) = some r := by rw [if_pos rfl] at H; exact H
  clear H
  have H := H1
  clear H1
  exact absurd ((Option.some.inj H).trans hr) (by decide)
 replace c23 := Bool.eq_false_iff.mpr c23
 subst c23
 rw [if_neg (show ¬ (false = true) by decide)] at H
 replace H := Option.bind_eq_some_iff.mp H
 obtain ⟨⟨t377, t378, t379, t380⟩, A240, H⟩ := H
 replace H : (if 0 < (t372.length : Int) then (laws_FnThreeSteps.l0 kj7 t372 0 t377 t378 t379 t380 ((rd_T25 t372 0).f0) ((rd_T25 t372 0).f1) ((rd_T25 t372 0).f2) ((rd_T25 t372 0).f3) ((rd_T25 t372 0).f0) ((rd_T25 t372 0).f1) ((rd_T25 t372 0).f2) ((rd_T25 t372 0).f3)) else (none)) = some r := H
 have A24 := mA A240
 clear A240
 by_cases c25 : 0 < (t372.length : Int)
 case neg =>
  rw [if_neg c25] at H
  exact absurd H (by simp)
 rw [if_pos c25] at H
 have c25b0 : decide (0 < (t372.length : Int)) = true := decide_eq_true c25
 have c25b1 : decide (0 < t372.length) = true := decide_eq_true (by omega)
 clear c25
 have H' := mA H
 clear H
 go_wp2_with (first | ((with_reducible refine gate_callee (f := 25) rfl ?_); refine goesL_ (some 54) rfl rfl Try.func25 (by kernel_rfl) rfl #[.int .i64 0, .int .i64 0, .int .i64 0] rfl (by (try simp only [List.map_toArray, List.map_cons, List.map_nil]); first | done | rfl | (simp only [List.length_drop, List.length_take]; rfl)) ?_; (with_reducible refine (impl_PureOf.calls 0 0 0 t377 t378 t379 t380 _ A24.out).mono ?_); rintro e w26 ⟨rfl, hb⟩; refine ⟨_, rfl, ?_⟩; have n0_ := mA (Kd.R_below (by (with_reducible repeat (first | apply Kd.R_alloc | apply Kd.R_drewN | apply Kd.R_drew)); exact HO_6.out) hb); have n1_ := mA (below_step (by repeat (first | (with_reducible first | exact HB.out | apply below_alloc | apply pw_below_drewN | apply below_drew1) | exact HB.out)) hb); clear HO_6; clear HB; have HO_6 := n0_; have HB := n1_; clear n0_ n1_; (try clear hb); (try clear hb2); (try clear hk); (try clear hi)) | ((with_reducible refine gate_dst (N := 7) rfl ?_); (try (refine gate_guard (by rfl) ?_; dsimp only)); refine box_event ?hg (N := 7) ?hd (cs := #[.int .i64 0, .int .i64 0, .int .i64 0, .int .i64 0]) (t := 25) ?hr ?_; (case hd => rfl); (case hg => rfl); (case hr => first | (go_simp; done) | (go_simp; rfl)); intro Za hg w27 hbox hb; have n0_ := mA (Kd.R_below (Kd.R_elderB (by (with_reducible repeat (first | apply Kd.R_alloc | apply Kd.R_drewN | apply Kd.R_drew)); exact HO_6.out) Za (Nat.le_of_eq hg.symm)) hb); have n1_ := mA (below_step (by repeat (first | (with_reducible first | exact HB.out | apply below_alloc | apply pw_below_drewN | apply below_drew1) | exact HB.out)) hb); have n2_ := mA (hbox); have n3_ := mA ((by rw [hg]; exact (below_size (by repeat (first | (with_reducible first | exact HB.out | apply below_alloc | apply pw_below_drewN | apply below_drew1) | exact HB.out))) : w.heap.size ≤ Za)); have n4_ := mA ((by rw [hg]; exact (below_size (by repeat (first | (with_reducible first | exact HB.out | apply below_alloc | apply pw_below_drewN | apply below_drew1) | exact HB.out))) : w.heap.size ≤ Za)); clear HO_6; clear HB; have HO_6 := n0_; have HB := n1_; have Zb := n2_; have Zc := n3_; have Zd := n4_; clear n0_ n1_ n2_ n3_ n4_; clear hb hbox hg; have Ze : w27.cell? ⟨Za, 0, none⟩ = some (.int .i64 0) := (blk_cell Zb.out 0).trans rfl; have Zf : w27.cell? ⟨Za, 1, none⟩ = some (.int .i64 0) := (blk_cell Zb.out 1).trans rfl; have Zg : w27.cell? ⟨Za, 2, none⟩ = some (.int .i64 0) := (blk_cell Zb.out 2).trans rfl; have Zh : w27.cell? ⟨Za, 3, none⟩ = some (.int .i64 0) := (blk_cell Zb.out 3).trans rfl; have Zi := blk_frozen Zb.out 0; have Zj := blk_frozen Zb.out 1; have Zk := blk_frozen Zb.out 2; have Zm := blk_frozen Zb.out 3; obtain ⟨Ao29, co29, eo29⟩ := Kd.R_slice HO_6.out; subst eo29; have p382 : 0 ≤ (0 : Int) := (by omega); have q382 : 0 < (t372.length : Int) := of_decide_eq_true (by first | (with_reducible assumption) | assumption); obtain ⟨ad382, e382, hx382_0, hx382_1, hx382_2, hx382_3⟩ := at_T25 (Kd.R_reads' HO_6.out).2.2 0 p382 q382; cases e382; have qi382 : (0 < t372.length) = True := eq_true (by omega); (try rw [show ((0 : Int)).toNat = 0 from rfl] at hx382_0); (try rw [show 0 * 4 = 0 from rfl] at hx382_0); (try rw [Addr.add_zero'] at hx382_0); (try rw [show ((0 : Int)).toNat = 0 from rfl] at hx382_1); (try rw [show 0 * 4 = 0 from rfl] at hx382_1); (try rw [Addr.add_zero'] at hx382_1); (try rw [show ((0 : Int)).toNat = 0 from rfl] at hx382_2); (try rw [show 0 * 4 = 0 from rfl] at hx382_2); (try rw [Addr.add_zero'] at hx382_2); (try rw [show ((0 : Int)).toNat = 0 from rfl] at hx382_3); (try rw [show 0 * 4 = 0 from rfl] at hx382_3); (try rw [Addr.add_zero'] at hx382_3); have hn382_0 : ad382.block ≠ Za := Kd.own_blk (fun he => by have z := HO_6.out.1 _ he.symm; simp at z); have hn382_1 : ad382.block ≠ Za := Kd.own_blk (fun he => by have z := HO_6.out.1 _ he.symm; simp at z); have hn382_2 : ad382.block ≠ Za := Kd.own_blk (fun he => by have z := HO_6.out.1 _ he.symm; simp at z); have hn382_3 : ad382.block ≠ Za := Kd.own_blk (fun he => by have z := HO_6.out.1 _ he.symm; simp at z); replace hx382_0 := (cell_far (p := ⟨Za, 0, none⟩) (by first | (rw [add_block]; exact hn382_0) | (show (Addr.add _ _).block ≠ _; rw [add_block]; exact hn382_0) | exact hn382_0) (.int .i64 t377)).trans hx382_0; replace hx382_1 := (cell_far (p := ⟨Za, 0, none⟩) (by first | (rw [add_block]; exact hn382_0) | (show (Addr.add _ _).block ≠ _; rw [add_block]; exact hn382_0) | exact hn382_0) (.int .i64 t377)).trans hx382_1; replace hx382_2 := (cell_far (p := ⟨Za, 0, none⟩) (by first | (rw [add_block]; exact hn382_0) | (show (Addr.add _ _).block ≠ _; rw [add_block]; exact hn382_0) | exact hn382_0) (.int .i64 t377)).trans hx382_2; replace hx382_3 := (cell_far (p := ⟨Za, 0, none⟩) (by first | (rw [add_block]; exact hn382_0) | (show (Addr.add _ _).block ≠ _; rw [add_block]; exact hn382_0) | exact hn382_0) (.int .i64 t377)).trans hx382_3; replace hx382_0 := (cell_far (p := ⟨Za, 1, none⟩) (by first | (rw [add_block]; exact hn382_1) | (show (Addr.add _ _).block ≠ _; rw [add_block]; exact hn382_1) | exact hn382_1) (.int .i64 t378)).trans hx382_0; replace hx382_1 := (cell_far (p := ⟨Za, 1, none⟩) (by first | (rw [add_block]; exact hn382_1) | (show (Addr.add _ _).block ≠ _; rw [add_block]; exact hn382_1) | exact hn382_1) (.int .i64 t378)).trans hx382_1; replace hx382_2 := (cell_far (p := ⟨Za, 1, none⟩) (by first | (rw [add_block]; exact hn382_1) | (show (Addr.add _ _).block ≠ _; rw [add_block]; exact hn382_1) | exact hn382_1) (.int .i64 t378)).trans hx382_2; replace hx382_3 := (cell_far (p := ⟨Za, 1, none⟩) (by first | (rw [add_block]; exact hn382_1) | (show (Addr.add _ _).block ≠ _; rw [add_block]; exact hn382_1) | exact hn382_1) (.int .i64 t378)).trans hx382_3; replace hx382_0 := (cell_far (p := ⟨Za, 2, none⟩) (by first | (rw [add_block]; exact hn382_2) | (show (Addr.add _ _).block ≠ _; rw [add_block]; exact hn382_2) | exact hn382_2) (.int .i64 t379)).trans hx382_0; replace hx382_1 := (cell_far (p := ⟨Za, 2, none⟩) (by first | (rw [add_block]; exact hn382_2) | (show (Addr.add _ _).block ≠ _; rw [add_block]; exact hn382_2) | exact hn382_2) (.int .i64 t379)).trans hx382_1; replace hx382_2 := (cell_far (p := ⟨Za, 2, none⟩) (by first | (rw [add_block]; exact hn382_2) | (show (Addr.add _ _).block ≠ _; rw [add_block]; exact hn382_2) | exact hn382_2) (.int .i64 t379)).trans hx382_2; replace hx382_3 := (cell_far (p := ⟨Za, 2, none⟩) (by first | (rw [add_block]; exact hn382_2) | (show (Addr.add _ _).block ≠ _; rw [add_block]; exact hn382_2) | exact hn382_2) (.int .i64 t379)).trans hx382_3; replace hx382_0 := (cell_far (p := ⟨Za, 3, none⟩) (by first | (rw [add_block]; exact hn382_3) | (show (Addr.add _ _).block ≠ _; rw [add_block]; exact hn382_3) | exact hn382_3) (.int .i64 t380)).trans hx382_0; replace hx382_1 := (cell_far (p := ⟨Za, 3, none⟩) (by first | (rw [add_block]; exact hn382_3) | (show (Addr.add _ _).block ≠ _; rw [add_block]; exact hn382_3) | exact hn382_3) (.int .i64 t380)).trans hx382_1; replace hx382_2 := (cell_far (p := ⟨Za, 3, none⟩) (by first | (rw [add_block]; exact hn382_3) | (show (Addr.add _ _).block ≠ _; rw [add_block]; exact hn382_3) | exact hn382_3) (.int .i64 t380)).trans hx382_2; replace hx382_3 := (cell_far (p := ⟨Za, 3, none⟩) (by first | (rw [add_block]; exact hn382_3) | (show (Addr.add _ _).block ≠ _; rw [add_block]; exact hn382_3) | exact hn382_3) (.int .i64 t380)).trans hx382_3; clear hn382_0; clear hn382_1; clear hn382_2; clear hn382_3; replace p382 := eq_true p382; replace q382 := eq_true q382) | ((with_reducible refine gate_dst (N := 8) rfl ?_); (try (refine gate_guard (by rfl) ?_; dsimp only)); refine box_event ?hg (N := 8) ?hd (cs := #[.int .i64 0, .int .i64 0, .int .i64 0, .int .i64 0]) (t := 25) ?hr ?_; (case hd => rfl); (case hg => rfl); (case hr => first | (go_simp; done) | (go_simp; rfl)); intro Zn hg w30 hbox hb; have n0_ := mA (Kd.R_below (Kd.R_elderB (by (with_reducible repeat (first | apply Kd.R_alloc | apply Kd.R_drewN | apply Kd.R_drew)); exact (Kd.R_mono (Kd.R_far (p := ⟨Za, 3, none⟩) (Kd.R_far (p := ⟨Za, 2, none⟩) (Kd.R_far (p := ⟨Za, 1, none⟩) (Kd.R_far (p := ⟨Za, 0, none⟩) (Kd.R_mono HO_6.out (fun k_ hk => (⟨hk, hk.2⟩ : _ ∧ k_ ≠ Za))) (fun _ hk => hk.2) (.int .i64 t377)) (fun _ hk => hk.2) (.int .i64 t378)) (fun _ hk => hk.2) (.int .i64 t379)) (fun _ hk => hk.2) (.int .i64 t380)) (fun _ h_ => h_.1))) Zn (Nat.le_of_eq hg.symm)) hb); have n1_ := mA (blk_below (g := Za) (o := cQ25 t377 t378 t379 t380) (by (with_reducible repeat (first | refine blk_drewN ?_ _ | refine blk_drew ?_ | refine blk_alloc ?_ _)); refine put4 (v0 := .int .i64 0) (v1 := .int .i64 0) (v2 := .int .i64 0) (v3 := .int .i64 0) ?_ _ _ _ _; (with_reducible repeat (first | refine blk_drewN ?_ _ | refine blk_drew ?_ | refine blk_alloc ?_ _)); exact Zb.out) hb); have n2_ := mA (below_step (by repeat (first | (with_reducible first | exact HB.out | apply below_alloc | apply pw_below_drewN | apply below_drew1 | refine below_set ?_ Zd.out) | exact HB.out)) hb); have n3_ := mA (hbox); have n4_ := mA ((by rw [hg]; exact (below_size (by repeat (first | (with_reducible first | exact HB.out | apply below_alloc | apply pw_below_drewN | apply below_drew1 | refine below_set ?_ Zd.out) | exact HB.out))) : w.heap.size ≤ Zn)); have n5_ := mA ((by rw [hg]; exact (below_size (by repeat (first | (with_reducible first | exact HB.out | apply below_alloc | apply pw_below_drewN | apply below_drew1 | refine below_set ?_ Zd.out) | exact HB.out))) : w.heap.size ≤ Zn)); have n6_ := mA ((by rw [hg]; exact Nat.ne_of_lt (blk_lt (g := Za) (o := cQ25 t377 t378 t379 t380) (by (with_reducible repeat (first | refine blk_drewN ?_ _ | refine blk_drew ?_ | refine blk_alloc ?_ _)); refine put4 (v0 := .int .i64 0) (v1 := .int .i64 0) (v2 := .int .i64 0) (v3 := .int .i64 0) ?_ _ _ _ _; (with_reducible repeat (first | refine blk_drewN ?_ _ | refine blk_drew ?_ | refine blk_alloc ?_ _)); exact Zb.out)) : Za ≠ Zn)); have n7_ := mA ((by rw [hg]; exact Nat.ne_of_gt (blk_lt (g := Za) (o := cQ25 t377 t378 t379 t380) (by (with_reducible repeat (first | refine blk_drewN ?_ _ | refine blk_drew ?_ | refine blk_alloc ?_ _)); refine put4 (v0 := .int .i64 0) (v1 := .int .i64 0) (v2 := .int .i64 0) (v3 := .int .i64 0) ?_ _ _ _ _; (with_reducible repeat (first | refine blk_drewN ?_ _ | refine blk_drew ?_ | refine blk_alloc ?_ _)); exact Zb.out)) : Zn ≠ Za)); clear HO_6; clear Zb; clear HB; have HO_6 := n0_; have Zb := n1_; have HB := n2_; have Zp := n3_; have Zq := n4_; have Zr := n5_; have Zs := n6_; have Zt := n7_; clear n0_ n1_ n2_ n3_ n4_ n5_ n6_ n7_; clear hb hbox hg; have Zu := Zt.out; have Zv := Zs.out; have Zw : w30.cell? ⟨Zn, 0, none⟩ = some (.int .i64 0) := (blk_cell Zp.out 0).trans rfl; have Zx : w30.cell? ⟨Zn, 1, none⟩ = some (.int .i64 0) := (blk_cell Zp.out 1).trans rfl; have Zy : w30.cell? ⟨Zn, 2, none⟩ = some (.int .i64 0) := (blk_cell Zp.out 2).trans rfl; have Zz : w30.cell? ⟨Zn, 3, none⟩ = some (.int .i64 0) := (blk_cell Zp.out 3).trans rfl; have Zba := blk_frozen Zp.out 0; have Zbb := blk_frozen Zp.out 1; have Zbc := blk_frozen Zp.out 2; have Zbd := blk_frozen Zp.out 3; have p384 : 0 ≤ (0 : Int) := (by omega); have q384 : 0 < (t372.length : Int) := of_decide_eq_true (by first | (with_reducible assumption) | assumption); obtain ⟨ad384, e384, hx384_0, hx384_1, hx384_2, hx384_3⟩ := at_T25 (Kd.R_reads' HO_6.out).2.2 0 p384 q384; obtain rfl : ad382 = ad384 := (by injection e384); have qi384 : (0 < t372.length) = True := eq_true (by omega); (try rw [show ((0 : Int)).toNat = 0 from rfl] at hx384_0); (try rw [show 0 * 4 = 0 from rfl] at hx384_0); (try rw [Addr.add_zero'] at hx384_0); (try rw [show ((0 : Int)).toNat = 0 from rfl] at hx384_1); (try rw [show 0 * 4 = 0 from rfl] at hx384_1); (try rw [Addr.add_zero'] at hx384_1); (try rw [show ((0 : Int)).toNat = 0 from rfl] at hx384_2); (try rw [show 0 * 4 = 0 from rfl] at hx384_2); (try rw [Addr.add_zero'] at hx384_2); (try rw [show ((0 : Int)).toNat = 0 from rfl] at hx384_3); (try rw [show 0 * 4 = 0 from rfl] at hx384_3); (try rw [Addr.add_zero'] at hx384_3); have hn384_0 : ad382.block ≠ Zn := Kd.own_blk (fun he => by have z := HO_6.out.1 _ he.symm; simp at z); have hn384_1 : ad382.block ≠ Zn := Kd.own_blk (fun he => by have z := HO_6.out.1 _ he.symm; simp at z); have hn384_2 : ad382.block ≠ Zn := Kd.own_blk (fun he => by have z := HO_6.out.1 _ he.symm; simp at z); have hn384_3 : ad382.block ≠ Zn := Kd.own_blk (fun he => by have z := HO_6.out.1 _ he.symm; simp at z); replace hx384_0 := (cell_far (p := ⟨Zn, 0, none⟩) (by first | (rw [add_block]; exact hn384_0) | (show (Addr.add _ _).block ≠ _; rw [add_block]; exact hn384_0) | exact hn384_0) (.int .i64 ((rd_T25 t372 0).f0))).trans hx384_0; replace hx384_1 := (cell_far (p := ⟨Zn, 0, none⟩) (by first | (rw [add_block]; exact hn384_0) | (show (Addr.add _ _).block ≠ _; rw [add_block]; exact hn384_0) | exact hn384_0) (.int .i64 ((rd_T25 t372 0).f0))).trans hx384_1; replace hx384_2 := (cell_far (p := ⟨Zn, 0, none⟩) (by first | (rw [add_block]; exact hn384_0) | (show (Addr.add _ _).block ≠ _; rw [add_block]; exact hn384_0) | exact hn384_0) (.int .i64 ((rd_T25 t372 0).f0))).trans hx384_2; replace hx384_3 := (cell_far (p := ⟨Zn, 0, none⟩) (by first | (rw [add_block]; exact hn384_0) | (show (Addr.add _ _).block ≠ _; rw [add_block]; exact hn384_0) | exact hn384_0) (.int .i64 ((rd_T25 t372 0).f0))).trans hx384_3; replace hx384_0 := (cell_far (p := ⟨Zn, 1, none⟩) (by first | (rw [add_block]; exact hn384_1) | (show (Addr.add _ _).block ≠ _; rw [add_block]; exact hn384_1) | exact hn384_1) (.int .i64 ((rd_T25 t372 0).f1))).trans hx384_0; replace hx384_1 := (cell_far (p := ⟨Zn, 1, none⟩) (by first | (rw [add_block]; exact hn384_1) | (show (Addr.add _ _).block ≠ _; rw [add_block]; exact hn384_1) | exact hn384_1) (.int .i64 ((rd_T25 t372 0).f1))).trans hx384_1; replace hx384_2 := (cell_far (p := ⟨Zn, 1, none⟩) (by first | (rw [add_block]; exact hn384_1) | (show (Addr.add _ _).block ≠ _; rw [add_block]; exact hn384_1) | exact hn384_1) (.int .i64 ((rd_T25 t372 0).f1))).trans hx384_2; replace hx384_3 := (cell_far (p := ⟨Zn, 1, none⟩) (by first | (rw [add_block]; exact hn384_1) | (show (Addr.add _ _).block ≠ _; rw [add_block]; exact hn384_1) | exact hn384_1) (.int .i64 ((rd_T25 t372 0).f1))).trans hx384_3; replace hx384_0 := (cell_far (p := ⟨Zn, 2, none⟩) (by first | (rw [add_block]; exact hn384_2) | (show (Addr.add _ _).block ≠ _; rw [add_block]; exact hn384_2) | exact hn384_2) (.int .i64 ((rd_T25 t372 0).f2))).trans hx384_0; replace hx384_1 := (cell_far (p := ⟨Zn, 2, none⟩) (by first | (rw [add_block]; exact hn384_2) | (show (Addr.add _ _).block ≠ _; rw [add_block]; exact hn384_2) | exact hn384_2) (.int .i64 ((rd_T25 t372 0).f2))).trans hx384_1; replace hx384_2 := (cell_far (p := ⟨Zn, 2, none⟩) (by first | (rw [add_block]; exact hn384_2) | (show (Addr.add _ _).block ≠ _; rw [add_block]; exact hn384_2) | exact hn384_2) (.int .i64 ((rd_T25 t372 0).f2))).trans hx384_2; replace hx384_3 := (cell_far (p := ⟨Zn, 2, none⟩) (by first | (rw [add_block]; exact hn384_2) | (show (Addr.add _ _).block ≠ _; rw [add_block]; exact hn384_2) | exact hn384_2) (.int .i64 ((rd_T25 t372 0).f2))).trans hx384_3; replace hx384_0 := (cell_far (p := ⟨Zn, 3, none⟩) (by first | (rw [add_block]; exact hn384_3) | (show (Addr.add _ _).block ≠ _; rw [add_block]; exact hn384_3) | exact hn384_3) (.int .i64 ((rd_T25 t372 0).f3))).trans hx384_0; replace hx384_1 := (cell_far (p := ⟨Zn, 3, none⟩) (by first | (rw [add_block]; exact hn384_3) | (show (Addr.add _ _).block ≠ _; rw [add_block]; exact hn384_3) | exact hn384_3) (.int .i64 ((rd_T25 t372 0).f3))).trans hx384_1; replace hx384_2 := (cell_far (p := ⟨Zn, 3, none⟩) (by first | (rw [add_block]; exact hn384_3) | (show (Addr.add _ _).block ≠ _; rw [add_block]; exact hn384_3) | exact hn384_3) (.int .i64 ((rd_T25 t372 0).f3))).trans hx384_2; replace hx384_3 := (cell_far (p := ⟨Zn, 3, none⟩) (by first | (rw [add_block]; exact hn384_3) | (show (Addr.add _ _).block ≠ _; rw [add_block]; exact hn384_3) | exact hn384_3) (.int .i64 ((rd_T25 t372 0).f3))).trans hx384_3; clear hn384_0; clear hn384_1; clear hn384_2; clear hn384_3; replace p384 := eq_true p384; replace q384 := eq_true q384) | ((with_reducible refine gate_dst (N := 9) rfl ?_); (try (refine gate_guard (by rfl) ?_; dsimp only)); refine box_event ?hg (N := 9) ?hd (cs := #[.int .i64 0, .int .i64 0, .int .i64 0, .int .i64 0]) (t := 25) ?hr ?_; (case hd => rfl); (case hg => rfl); (case hr => first | (go_simp; done) | (go_simp; rfl)); intro Zbe hg w33 hbox hb; have n0_ := mA (Kd.R_below (Kd.R_elderB (by (with_reducible repeat (first | apply Kd.R_alloc | apply Kd.R_drewN | apply Kd.R_drew)); exact (Kd.R_mono (Kd.R_far (p := ⟨Zn, 3, none⟩) (Kd.R_far (p := ⟨Zn, 2, none⟩) (Kd.R_far (p := ⟨Zn, 1, none⟩) (Kd.R_far (p := ⟨Zn, 0, none⟩) (Kd.R_mono HO_6.out (fun k_ hk => (⟨hk, hk.2⟩ : _ ∧ k_ ≠ Zn))) (fun _ hk => hk.2) (.int .i64 ((rd_T25 t372 0).f0))) (fun _ hk => hk.2) (.int .i64 ((rd_T25 t372 0).f1))) (fun _ hk => hk.2) (.int .i64 ((rd_T25 t372 0).f2))) (fun _ hk => hk.2) (.int .i64 ((rd_T25 t372 0).f3))) (fun _ h_ => h_.1))) Zbe (Nat.le_of_eq hg.symm)) hb); have n1_ := mA (blk_below (g := Za) (o := cQ25 t377 t378 t379 t380) (by (with_reducible repeat (first | refine blk_drewN ?_ _ | refine blk_drew ?_ | refine blk_alloc ?_ _)); refine far4 ?_ Zs.out _ _ _ _; (with_reducible repeat (first | refine blk_drewN ?_ _ | refine blk_drew ?_ | refine blk_alloc ?_ _)); exact Zb.out) hb); have n2_ := mA (blk_below (g := Zn) (o := cQ25 (((rd_T25 t372 0).f0)) (((rd_T25 t372 0).f1)) (((rd_T25 t372 0).f2)) (((rd_T25 t372 0).f3))) (by (with_reducible repeat (first | refine blk_drewN ?_ _ | refine blk_drew ?_ | refine blk_alloc ?_ _)); refine put4 (v0 := .int .i64 0) (v1 := .int .i64 0) (v2 := .int .i64 0) (v3 := .int .i64 0) ?_ _ _ _ _; (with_reducible repeat (first | refine blk_drewN ?_ _ | refine blk_drew ?_ | refine blk_alloc ?_ _)); exact Zp.out) hb); have n3_ := mA (below_step (by repeat (first | (with_reducible first | exact HB.out | apply below_alloc | apply pw_below_drewN | apply below_drew1 | refine below_set ?_ Zd.out | refine below_set ?_ Zr.out) | exact HB.out)) hb); have n4_ := mA (hbox); have n5_ := mA ((by rw [hg]; exact (below_size (by repeat (first | (with_reducible first | exact HB.out | apply below_alloc | apply pw_below_drewN | apply below_drew1 | refine below_set ?_ Zd.out | refine below_set ?_ Zr.out) | exact HB.out))) : w.heap.size ≤ Zbe)); have n6_ := mA ((by rw [hg]; exact (below_size (by repeat (first | (with_reducible first | exact HB.out | apply below_alloc | apply pw_below_drewN | apply below_drew1 | refine below_set ?_ Zd.out | refine below_set ?_ Zr.out) | exact HB.out))) : w.heap.size ≤ Zbe)); have n7_ := mA ((by rw [hg]; exact Nat.ne_of_lt (blk_lt (g := Za) (o := cQ25 t377 t378 t379 t380) (by (with_reducible repeat (first | refine blk_drewN ?_ _ | refine blk_drew ?_ | refine blk_alloc ?_ _)); refine far4 ?_ Zs.out _ _ _ _; (with_reducible repeat (first | refine blk_drewN ?_ _ | refine blk_drew ?_ | refine blk_alloc ?_ _)); exact Zb.out)) : Za ≠ Zbe)); have n8_ := mA ((by rw [hg]; exact Nat.ne_of_gt (blk_lt (g := Za) (o := cQ25 t377 t378 t379 t380) (by (with_reducible repeat (first | refine blk_drewN ?_ _ | refine blk_drew ?_ | refine blk_alloc ?_ _)); refine far4 ?_ Zs.out _ _ _ _; (with_reducible repeat (first | refine blk_drewN ?_ _ | refine blk_drew ?_ | refine blk_alloc ?_ _)); exact Zb.out)) : Zbe ≠ Za)); have n9_ := mA ((by rw [hg]; exact Nat.ne_of_lt (blk_lt (g := Zn) (o := cQ25 (((rd_T25 t372 0).f0)) (((rd_T25 t372 0).f1)) (((rd_T25 t372 0).f2)) (((rd_T25 t372 0).f3))) (by (with_reducible repeat (first | refine blk_drewN ?_ _ | refine blk_drew ?_ | refine blk_alloc ?_ _)); refine put4 (v0 := .int .i64 0) (v1 := .int .i64 0) (v2 := .int .i64 0) (v3 := .int .i64 0) ?_ _ _ _ _; (with_reducible repeat (first | refine blk_drewN ?_ _ | refine blk_drew ?_ | refine blk_alloc ?_ _)); exact Zp.out)) : Zn ≠ Zbe)); have n10_ := mA ((by rw [hg]; exact Nat.ne_of_gt (blk_lt (g := Zn) (o := cQ25 (((rd_T25 t372 0).f0)) (((rd_T25 t372 0).f1)) (((rd_T25 t372 0).f2)) (((rd_T25 t372 0).f3))) (by (with_reducible repeat (first | refine blk_drewN ?_ _ | refine blk_drew ?_ | refine blk_alloc ?_ _)); refine put4 (v0 := .int .i64 0) (v1 := .int .i64 0) (v2 := .int .i64 0) (v3 := .int .i64 0) ?_ _ _ _ _; (with_reducible repeat (first | refine blk_drewN ?_ _ | refine blk_drew ?_ | refine blk_alloc ?_ _)); exact Zp.out)) : Zbe ≠ Zn)); clear HO_6; clear Zb; clear Zp; clear HB; have HO_6 := n0_; have Zb := n1_; have Zp := n2_; have HB := n3_; have Zbf := n4_; have Zbg := n5_; have Zbh := n6_; have Zbi := n7_; have Zbj := n8_; have Zbk := n9_; have Zbm := n10_; clear n0_ n1_ n2_ n3_ n4_ n5_ n6_ n7_ n8_ n9_ n10_; clear hb hbox hg; have Zbn := Zbj.out; have Zbp := Zbi.out; have Zbq := Zbm.out; have Zbr := Zbk.out; have Zbs : w33.cell? ⟨Zbe, 0, none⟩ = some (.int .i64 0) := (blk_cell Zbf.out 0).trans rfl; have Zbt : w33.cell? ⟨Zbe, 1, none⟩ = some (.int .i64 0) := (blk_cell Zbf.out 1).trans rfl; have Zbu : w33.cell? ⟨Zbe, 2, none⟩ = some (.int .i64 0) := (blk_cell Zbf.out 2).trans rfl; have Zbv : w33.cell? ⟨Zbe, 3, none⟩ = some (.int .i64 0) := (blk_cell Zbf.out 3).trans rfl; have Zbw := blk_frozen Zbf.out 0; have Zbx := blk_frozen Zbf.out 1; have Zby := blk_frozen Zbf.out 2; have Zbz := blk_frozen Zbf.out 3))
 go_loopg [10] kj7 (fun kq v10 w' => ∃ (x10_2 : Int) (x382000_2 : Int) (x382001_2 : Int) (x382002_2 : Int) (x382003_2 : Int) (x384000_2 : Int) (x384001_2 : Int) (x384002_2 : Int) (x384003_2 : Int) (x386000_2 : Int) (x386001_2 : Int) (x386002_2 : Int) (x386003_2 : Int), v10 = .int .i64 x10_2 ∧ Aside0 (laws_FnThreeSteps.l0 kq t372 x10_2 x382000_2 x382001_2 x382002_2 x382003_2 x384000_2 x384001_2 x384002_2 x384003_2 x386000_2 x386001_2 x386002_2 x386003_2 = some r) ∧ Aside0 (kq ≤ kj7) ∧ Aside0 (Kd.R k25 25 w' w.heap.size (fun k_ => k_ ≠ Za ∧ k_ ≠ Zn ∧ k_ ≠ Zbe) (.slice (some ad382) t372.length co29) t372) ∧ Aside0 (w'.heap[Za]? = some (.cells #[.int .i64 x382000_2, .int .i64 x382001_2, .int .i64 x382002_2, .int .i64 x382003_2] 25 (0, 0))) ∧ Aside0 (w'.heap[Zn]? = some (.cells #[.int .i64 x384000_2, .int .i64 x384001_2, .int .i64 x384002_2, .int .i64 x384003_2] 25 (0, 0))) ∧ Aside0 (w'.heap[Zbe]? = some (.cells #[.int .i64 x386000_2, .int .i64 x386001_2, .int .i64 x386002_2, .int .i64 x386003_2] 25 (0, 0))) ∧ Aside0 (Below w.heap.size w w'))
 case atStart => exact ⟨(0), (t377), (t378), (t379), (t380), ((rd_T25 t372 0).f0), ((rd_T25 t372 0).f1), ((rd_T25 t372 0).f2), ((rd_T25 t372 0).f3), ((rd_T25 t372 0).f0), ((rd_T25 t372 0).f1), ((rd_T25 t372 0).f2), ((rd_T25 t372 0).f3), (by first | rfl | (simp; done) | (simp [*]; done)), H', ⟨Nat.le_refl _⟩, ⟨by (with_reducible repeat (first | apply Kd.R_alloc | apply Kd.R_drewN | apply Kd.R_drew)); exact Kd.R_mono (Kd.R_far (p := ⟨Zbe, 3, none⟩) (Kd.R_far (p := ⟨Zbe, 2, none⟩) (Kd.R_far (p := ⟨Zbe, 1, none⟩) (Kd.R_far (p := ⟨Zbe, 0, none⟩) (Kd.R_mono HO_6.out (fun k_ hk => (⟨hk, hk.2⟩ : _ ∧ k_ ≠ Zbe))) (fun _ hk => hk.2) (.int .i64 ((rd_T25 t372 0).f0))) (fun _ hk => hk.2) (.int .i64 ((rd_T25 t372 0).f1))) (fun _ hk => hk.2) (.int .i64 ((rd_T25 t372 0).f2))) (fun _ hk => hk.2) (.int .i64 ((rd_T25 t372 0).f3))) (fun _ hk => ⟨hk.1.1.1.2, ⟨hk.1.1.2, hk.1.2⟩⟩)⟩, ⟨by (with_reducible repeat (first | refine blk_drewN ?_ _ | refine blk_drew ?_ | refine blk_alloc ?_ _)); refine far4 ?_ Zbi.out _ _ _ _; (with_reducible repeat (first | refine blk_drewN ?_ _ | refine blk_drew ?_ | refine blk_alloc ?_ _)); exact Zb.out⟩, ⟨by (with_reducible repeat (first | refine blk_drewN ?_ _ | refine blk_drew ?_ | refine blk_alloc ?_ _)); refine far4 ?_ Zbk.out _ _ _ _; (with_reducible repeat (first | refine blk_drewN ?_ _ | refine blk_drew ?_ | refine blk_alloc ?_ _)); exact Zp.out⟩, ⟨by (with_reducible repeat (first | refine blk_drewN ?_ _ | refine blk_drew ?_ | refine blk_alloc ?_ _)); refine put4 (v0 := .int .i64 0) (v1 := .int .i64 0) (v2 := .int .i64 0) (v3 := .int .i64 0) ?_ _ _ _ _; (with_reducible repeat (first | refine blk_drewN ?_ _ | refine blk_drew ?_ | refine blk_alloc ?_ _)); exact Zbf.out⟩, ⟨by repeat (first | (with_reducible first | exact HB.out | apply below_alloc | apply pw_below_drewN | apply below_drew1 | refine below_set ?_ Zd.out | refine below_set ?_ Zr.out | refine below_set ?_ Zbh.out) | exact HB.out)⟩⟩
 clear H'
 try clear c1
 try clear c2
 try clear p2
 try clear c3
 try clear p3
 try clear q3
 try clear hx3
 try clear qi3
 try clear p6
 try clear c11
 try clear c12
 try clear c12b0
 try clear c12b1
 try clear c13
 try clear c13b0
 try clear c13b1
 try clear c13b2
 try clear c15
 try clear c15b0
 try clear c22
 try clear c23
 try clear c25
 try clear c25b0
 try clear c25b1
 try clear c31
 try clear c34
 try clear c35
 try clear Ze
 try clear Zf
 try clear Zg
 try clear Zh
 try clear Zw
 try clear Zx
 try clear Zy
 try clear Zz
 try clear Zbs
 try clear Zbt
 try clear Zbu
 try clear Zbv
 try clear Zi
 try clear Zj
 try clear Zk
 try clear Zm
 try clear Zba
 try clear Zbb
 try clear Zbc
 try clear Zbd
 try clear Zbw
 try clear Zbx
 try clear Zby
 try clear Zbz
 try clear hx382_0
 try clear hx382_1
 try clear hx382_2
 try clear hx382_3
 try clear hx384_0
 try clear hx384_1
 try clear hx384_2
 try clear hx384_3
 try clear p2
 try clear p382
 try clear p384
 try clear p6
 try clear q382
 try clear q384
 obtain ⟨x10_2, x382000_2, x382001_2, x382002_2, x382003_2, x384000_2, x384001_2, x384002_2, x384003_2, x386000_2, x386001_2, x386002_2, x386003_2, rfl, HA, HK2, HO_6, Zb, Zp, Zbf, HB⟩ := hrel
 cases gk with
 | zero => exact absurd HA.out (by simp [laws_FnThreeSteps.l0])
 | succ k2 =>
 have H := HA.out
 clear HA
 simp only [laws_FnThreeSteps.l0] at H
 by_cases c37 : x10_2 < (t372.length : Int)
 case neg =>
  rw [if_neg c37] at H
  have c37b0 : decide (x10_2 < (t372.length : Int)) = false := decide_eq_false c37
  clear c37
  have H' := mA H
  clear H
  go_wp2
  go_loopg [13] k2 (fun kq v13 w' => ∃ (x13_3 : Int), v13 = .int .i64 x13_3 ∧ Aside0 (laws_FnThreeSteps.l1 kq t372 x13_3 x382000_2 x382001_2 x382002_2 x382003_2 x384000_2 x384001_2 x384002_2 x384003_2 x386000_2 x386001_2 x386002_2 x386003_2 = some r) ∧ Aside0 (kq ≤ k2) ∧ Aside0 (Kd.R k25 25 w' w.heap.size (fun k_ => k_ ≠ Za ∧ k_ ≠ Zn ∧ k_ ≠ Zbe) (.slice (some ad382) t372.length co29) t372) ∧ Aside0 (w'.heap[Za]? = some (.cells #[.int .i64 x382000_2, .int .i64 x382001_2, .int .i64 x382002_2, .int .i64 x382003_2] 25 (0, 0))) ∧ Aside0 (w'.heap[Zn]? = some (.cells #[.int .i64 x384000_2, .int .i64 x384001_2, .int .i64 x384002_2, .int .i64 x384003_2] 25 (0, 0))) ∧ Aside0 (w'.heap[Zbe]? = some (.cells #[.int .i64 x386000_2, .int .i64 x386001_2, .int .i64 x386002_2, .int .i64 x386003_2] 25 (0, 0))) ∧ Aside0 (Below w.heap.size w w'))
  case atStart => exact ⟨(0), (by first | rfl | (simp; done) | (simp [*]; done)), H', ⟨Nat.le_refl _⟩, ⟨by (with_reducible repeat (first | apply Kd.R_alloc | apply Kd.R_drewN | apply Kd.R_drew)); exact HO_6.out⟩, ⟨by (with_reducible repeat (first | refine blk_drewN ?_ _ | refine blk_drew ?_ | refine blk_alloc ?_ _)); exact Zb.out⟩, ⟨by (with_reducible repeat (first | refine blk_drewN ?_ _ | refine blk_drew ?_ | refine blk_alloc ?_ _)); exact Zp.out⟩, ⟨by (with_reducible repeat (first | refine blk_drewN ?_ _ | refine blk_drew ?_ | refine blk_alloc ?_ _)); exact Zbf.out⟩, ⟨by repeat (first | (with_reducible first | exact HB.out | apply below_alloc | apply pw_below_drewN | apply below_drew1 | refine below_set ?_ Zd.out | refine below_set ?_ Zr.out | refine below_set ?_ Zbh.out) | exact HB.out)⟩⟩
  clear H'
  try clear c1
  try clear p2
  try clear c3
  try clear p3
  try clear q3
  try clear hx3
  try clear p4
  try clear q4
  try clear hx4
  try clear c5
  try clear p6
  try clear c9
  try clear c10
  try clear c11
  try clear c30
  try clear c37
  try clear c37b0
  try clear c38
  try clear p39
  try clear q39
  try clear hx39
  try clear p40
  try clear q40
  try clear hx40
  try clear c53
  try clear c54
  try clear p64
  try clear c91
  try clear c91b0
  try clear c92
  try clear c93
  try clear c94
  try clear c96
  try clear c97
  try clear c104
  try clear c106
  try clear c107
  try clear c108
  try clear c110
  try clear c111
  try clear Zca
  try clear Zcb
  try clear Zcc
  try clear Zcd
  try clear Zce
  try clear Zcf
  try clear Zcg
  try clear Zch
  try clear Zci
  try clear Zcj
  try clear Zck
  try clear Zcm
  try clear Zcn
  try clear Zcp
  try clear Zcq
  try clear Zcr
  try clear Zcs
  try clear Zct
  try clear Zcu
  try clear Zcv
  try clear Zcw
  try clear Zcx
  try clear Zcy
  try clear Zcz
  try clear Zda
  try clear Zdb
  try clear Zdc
  try clear Zdd
  try clear Zde
  try clear Zdf
  try clear Zdg
  try clear Zdh
  try clear Zdi
  try clear Zdj
  try clear Zdk
  try clear Zdm
  try clear Zdn
  try clear Zdp
  try clear Zdq
  try clear Zdr
  try clear hx395_0
  try clear hx395_1
  try clear hx395_2
  try clear hx395_3
  try clear hx401_0
  try clear hx401_1
  try clear hx401_2
  try clear hx401_3
  try clear hx403_0
  try clear hx403_1
  try clear hx403_2
  try clear hx403_3
  try clear p395
  try clear p401
  try clear p403
  try clear q395
  try clear q401
  try clear q403
  obtain ⟨x13_3, rfl, HA, HK3, HO_6, Zb, Zp, Zbf, HB⟩ := hrel
  cases gk with
  | zero => exact absurd HA.out (by simp [laws_FnThreeSteps.l1])
  | succ k3 =>
  have H := HA.out
  clear HA
  simp only [laws_FnThreeSteps.l1] at H
  by_cases c118 : x13_3 < (t372.length : Int)
  case neg =>
   rw [if_neg c118] at H
   have c118b0 : decide (x13_3 < (t372.length : Int)) = false := decide_eq_false c118
   clear c118
   replace H := Option.bind_eq_some_iff.mp H
   obtain ⟨⟨t404, t405, t406, t407⟩, A1680, H⟩ := H
   replace H : (some (x382000_2 == t404 && (x382001_2 == t405 && (x382002_2 == t406 && (x382003_2 == t407))))) = some r := H
   have A168 := mA A1680
   clear A1680
   obtain rfl := Option.some.inj H
   try go_wp2
   have n0_ := mA (Kd.R_drew HO_6.out)
   have n1_ := mA (blk_drew Zb.out)
   have n2_ := mA (blk_drew Zp.out)
   have n3_ := mA (blk_drew Zbf.out)
   have n4_ := mA (below_drew1 HB.out)
   clear HO_6
   clear Zb
   clear Zp
   clear Zbf
   clear HB
   have HO_6 := n0_
   have Zb := n1_
   have Zp := n2_
   have Zbf := n3_
   have HB := n4_
   clear n0_ n1_ n2_ n3_ n4_
   refine start_ (n := 4) (S := fun w' => w'.cell? ⟨Za, 0, none⟩ = some (.int .i64 x382000_2) ∧ w'.cell? ⟨Za, 1, none⟩ = some (.int .i64 x382001_2) ∧ w'.cell? ⟨Za, 2, none⟩ = some (.int .i64 x382002_2) ∧ w'.cell? ⟨Za, 3, none⟩ = some (.int .i64 x382003_2)) (ds := []) #[false, false, false, false] (by kernel_rfl) rfl rfl ⟨(blk_cell Zb.out 0).trans rfl, (blk_cell Zb.out 1).trans rfl, (blk_cell Zb.out 2).trans rfl, (blk_cell Zb.out 3).trans rfl⟩ (fun hHeld => ?_)
   generalize wr.drew = w169 at HO_6 Zb Zp Zbf HB hHeld ⊢
   refine take_ (i := 0) (N := some 145) (v := ?_) (a' := ?_) #[true, false, false, false] rfl rfl (by kernel_rfl) (fun _ _ _ h => h) (Or.inl ⟨by rfl, ?_⟩) hHeld ?_ ?_
   rotate_left
   · rintro w' ⟨s0, s1, s2, s3⟩
     go_simp
     with_reducible rfl
   rotate_left
   · simp only [Act.put, List.setIfInBounds_toArray, List.set_cons_zero, List.set_cons_succ, i64_w, i32_w]
     rfl
   refine one_ (i := 1) (N := some 146) #[true, true, false, false] rfl rfl (by kernel_rfl) (by decide) (fun K hK => ?_)
   refine goes_ Try.func25 (by kernel_rfl) rfl #[.int .i64 1, .int .i64 0, .int .i64 0] (by rfl) rfl rfl (by (try simp only [List.map_toArray, List.map_cons, List.map_nil]); first | done | rfl | (simp only [List.length_drop, List.length_take]; rfl)) ?_
   with_reducible refine (impl_PureOf.calls 1 0 0 t404 t405 t406 t407 _ A168.out).mono ?_
   rintro e w170 ⟨rfl, hb⟩
   refine ⟨_, rfl, ?_⟩
   have n0_ := mA (Kd.R_below (by (with_reducible repeat (first | apply Kd.R_alloc | apply Kd.R_drewN | apply Kd.R_drew)); exact HO_6.out) hb)
   have n1_ := mA (blk_below (g := Za) (o := cQ25 x382000_2 x382001_2 x382002_2 x382003_2) Zb.out hb)
   have n2_ := mA (blk_below (g := Zn) (o := cQ25 x384000_2 x384001_2 x384002_2 x384003_2) Zp.out hb)
   have n3_ := mA (blk_below (g := Zbe) (o := cQ25 x386000_2 x386001_2 x386002_2 x386003_2) Zbf.out hb)
   have n4_ := mA (below_step (by repeat (first | (with_reducible first | exact HB.out | apply below_alloc | apply pw_below_drewN | apply below_drew1 | refine below_set ?_ Zd.out | refine below_set ?_ Zr.out | refine below_set ?_ Zbh.out) | exact HB.out)) hb)
   clear HO_6
   clear Zb
   clear Zp
   clear Zbf
   clear HB
   have HO_6 := n0_
   have Zb := n1_
   have Zp := n2_
   have Zbf := n3_
   have HB := n4_
   clear n0_ n1_ n2_ n3_ n4_
   (try clear hb)
   (try clear hb2)
   (try clear hk)
   (try clear hi)
   refine hK.out _ _ ⟨(blk_cell Zb.out 0).trans rfl, (blk_cell Zb.out 1).trans rfl, (blk_cell Zb.out 2).trans rfl, (blk_cell Zb.out 3).trans rfl⟩ (fun hHeld => ?_)
   clear hK K
   refine norm_ (a' := ?_) ?_ ?_
   rotate_left
   · show Act.put _ (some 146) _ = _
     simp only [Act.put, List.setIfInBounds_toArray, List.set_cons_zero, List.set_cons_succ, i64_w, i32_w]
     rfl
   refine pure_ (i := 2) (N := some 147) (v := ?_) (a' := ?_) #[true, true, true, false] rfl rfl (by kernel_rfl) (fun _ _ _ h => h) (Or.inl ⟨by rfl, ?_⟩) ?_ ?_
   rotate_left
   · intro w'
     go_simp
     with_reducible rfl
   rotate_left
   · simp only [Act.put, List.setIfInBounds_toArray, List.set_cons_zero, List.set_cons_succ, i64_w, i32_w]
     rfl
   refine pure_ (i := 3) (N := some 2) (v := ?_) (a' := ?_) #[true, true, true, true] rfl rfl (by kernel_rfl) (fun _ _ _ h => h) (Or.inl ⟨by rfl, ?_⟩) ?_ ?_
   rotate_left
   · intro w'
     go_simp
     with_reducible rfl
   rotate_left
   · simp only [Act.put, List.setIfInBounds_toArray, List.set_cons_zero, List.set_cons_succ, i64_w, i32_w]
     rfl
   refine done_ (by kernel_rfl) ?_
   try go_wp2
   go_ret
   exact ⟨by first | rfl | (simp [errW_none, errW_some] <;> rfl) | (simp [*, errW_none, errW_some] <;> rfl), by repeat (first | (with_reducible first | exact HB.out | apply below_alloc | apply pw_below_drewN | apply below_drew1 | refine below_set ?_ Zd.out | refine below_set ?_ Zr.out | refine below_set ?_ Zbh.out) | exact HB.out)⟩
  rw [if_pos c118] at H
  have c118b0 : decide (x13_3 < (t372.length : Int)) = true := decide_eq_true c118
  clear c118
  have HC119 := mA H
  clear H
  go_upto_region 26 with (fail)
  go_cut [128] (fun v128 wc => ∃ (kq : Nat) (x128_118 : Bool), v128 = .bool x128_118 ∧ Aside0 (laws_FnThreeSteps.j4 kq t372 x13_3 x128_118 x382000_2 x382001_2 x382002_2 x382003_2 x384000_2 x384001_2 x384002_2 x384003_2 x386000_2 x386001_2 x386002_2 x386003_2 = some r) ∧ Aside0 (kq ≤ k3) ∧ Aside0 (Kd.R k25 25 wc w.heap.size (fun k_ => k_ ≠ Za ∧ k_ ≠ Zn ∧ k_ ≠ Zbe) (.slice (some ad382) t372.length co29) t372) ∧ Aside0 (wc.heap[Za]? = some (.cells #[.int .i64 x382000_2, .int .i64 x382001_2, .int .i64 x382002_2, .int .i64 x382003_2] 25 (0, 0))) ∧ Aside0 (wc.heap[Zn]? = some (.cells #[.int .i64 x384000_2, .int .i64 x384001_2, .int .i64 x384002_2, .int .i64 x384003_2] 25 (0, 0))) ∧ Aside0 (wc.heap[Zbe]? = some (.cells #[.int .i64 x386000_2, .int .i64 x386001_2, .int .i64 x386002_2, .int .i64 x386003_2] 25 (0, 0))) ∧ Aside0 (Below w.heap.size w wc))
  case first =>
   have H := HC119.out
   clear HC119
   by_cases c120 : 0 ≤ x13_3
   case neg =>
    rw [if_neg c120] at H
    exact absurd H (by simp)
   rw [if_pos c120] at H
   have c120b0 : decide (0 ≤ x13_3) = true := decide_eq_true c120
   clear c120
   (first | rw [c120b0] | (simp only [i64_w, i32_w]; rw [c120b0]) | skip)
   by_cases c121 : (!(((rd_T25 t372 x13_3).f0) == x384000_2) || (!(((rd_T25 t372 x13_3).f1) == x384001_2) || (!(((rd_T25 t372 x13_3).f2) == x384002_2) || (!(((rd_T25 t372 x13_3).f3) == x384003_2))))) = true
   case neg =>
    rw [if_neg c121] at H
    have c121b0 : (!(((rd_T25 t372 x13_3).f0) == x384000_2) || (!(((rd_T25 t372 x13_3).f1) == x384001_2) || (!(((rd_T25 t372 x13_3).f2) == x384002_2) || (!(((rd_T25 t372 x13_3).f3) == x384003_2))))) = false := by simpa using c121
    clear c121
    have H' := mA H
    clear H
    try go_wp2
    have n0_ := mA (Kd.R_drew HO_6.out)
    have n1_ := mA (blk_drew Zb.out)
    have n2_ := mA (blk_drew Zp.out)
    have n3_ := mA (blk_drew Zbf.out)
    have n4_ := mA (below_drew1 HB.out)
    clear HO_6
    clear Zb
    clear Zp
    clear Zbf
    clear HB
    have HO_6 := n0_
    have Zb := n1_
    have Zp := n2_
    have Zbf := n3_
    have HB := n4_
    clear n0_ n1_ n2_ n3_ n4_
    have p408 : 0 ≤ (x13_3 : Int) := of_decide_eq_true (by first | (with_reducible assumption) | assumption)
    have q408 : x13_3 < (t372.length : Int) := of_decide_eq_true (by first | (with_reducible assumption) | assumption)
    obtain ⟨ad408, e408, hx408_0, hx408_1, hx408_2, hx408_3⟩ := at_T25 (Kd.R_reads' HO_6.out).2.2 x13_3 p408 q408
    obtain rfl : ad382 = ad408 := (by injection e408)
    replace p408 := eq_true p408
    replace q408 := eq_true q408
    refine start_ (n := 14) (S := fun w' => w'.cell? ⟨Zn, 0, none⟩ = some (.int .i64 x384000_2) ∧ w'.cell? ⟨Zn, 1, none⟩ = some (.int .i64 x384001_2) ∧ w'.cell? ⟨Zn, 2, none⟩ = some (.int .i64 x384002_2) ∧ w'.cell? ⟨Zn, 3, none⟩ = some (.int .i64 x384003_2) ∧ w'.cell? (ad382.add ((x13_3).toNat * 4)) = some (.int .i64 ((rd_T25 t372 x13_3).f0)) ∧ w'.cell? ⟨(ad382.add ((x13_3).toNat * 4)).block, (ad382.add ((x13_3).toNat * 4)).off + 1, none⟩ = some (.int .i64 ((rd_T25 t372 x13_3).f1)) ∧ w'.cell? ⟨(ad382.add ((x13_3).toNat * 4)).block, (ad382.add ((x13_3).toNat * 4)).off + 2, none⟩ = some (.int .i64 ((rd_T25 t372 x13_3).f2)) ∧ w'.cell? ⟨(ad382.add ((x13_3).toNat * 4)).block, (ad382.add ((x13_3).toNat * 4)).off + 3, none⟩ = some (.int .i64 ((rd_T25 t372 x13_3).f3))) (ds := []) #[false, false, false, false, false, false, false, false, false, false, false, false, false, false] (by kernel_rfl) rfl rfl ⟨(blk_cell Zp.out 0).trans rfl, (blk_cell Zp.out 1).trans rfl, (blk_cell Zp.out 2).trans rfl, (blk_cell Zp.out 3).trans rfl, hx408_0, hx408_1, hx408_2, hx408_3⟩ (fun hHeld => ?_); refine with_tabW laws_FnThreeSteps.tab26 laws_FnThreeSteps.bits26 (fun HT_ HW_ => ?_)
    generalize wr.drew = w123 at HO_6 Zb Zp Zbf HB hx408_0 hx408_1 hx408_2 hx408_3 hHeld ⊢
    refine pure_ (i := 0) (N := some 115) (v := ?_) (a' := ?_) #[true, false, false, false, false, false, false, false, false, false, false, false, false, false] rfl rfl (any_of HT_.out (by kernel_rfl)) (fun _ _ _ h => h) (Or.inl ⟨by rfl, ?_⟩) ?_ ?_
    rotate_left
    · intro w'
      go_simp
      with_reducible rfl
    rotate_left
    · simp only [Act.put, List.setIfInBounds_toArray, List.set_cons_zero, List.set_cons_succ, i64_w, i32_w]
      rfl
    refine pure_ (i := 1) (N := some 116) (v := ?_) (a' := ?_) #[true, true, false, false, false, false, false, false, false, false, false, false, false, false] rfl rfl (any_of HT_.out (by kernel_rfl)) (fun _ _ _ h => h) (Or.inl ⟨by rfl, ?_⟩) ?_ ?_
    rotate_left
    · intro w'
      go_simp
      with_reducible rfl
    rotate_left
    · simp only [Act.put, List.setIfInBounds_toArray, List.set_cons_zero, List.set_cons_succ, i64_w, i32_w]
      rfl
    refine pure_ (i := 2) (N := some 117) (v := ?_) (a' := ?_) #[true, true, true, false, false, false, false, false, false, false, false, false, false, false] rfl rfl (any_of HT_.out (by kernel_rfl)) (fun _ _ _ h => h) (Or.inl ⟨by rfl, ?_⟩) ?_ ?_
    rotate_left
    · intro w'
      go_simp
      with_reducible rfl
    rotate_left
    · simp only [Act.put, List.setIfInBounds_toArray, List.set_cons_zero, List.set_cons_succ, i64_w, i32_w]
      rfl
    refine take_ (i := 3) (N := some 118) (v := ?_) (a' := ?_) #[true, true, true, true, false, false, false, false, false, false, false, false, false, false] rfl rfl (take_ofW HT_.out HW_.out (by kernel_rfl)) (fun _ _ _ h => h) (Or.inl ⟨by rfl, ?_⟩) hHeld ?_ ?_
    rotate_left
    · rintro w' ⟨s0, s1, s2, s3, s4, s5, s6, s7⟩
      go_simp
      with_reducible rfl
    rotate_left
    · simp only [Act.put, List.setIfInBounds_toArray, List.set_cons_zero, List.set_cons_succ, i64_w, i32_w]
      rfl
    refine take_ (i := 4) (N := some 119) (v := ?_) (a' := ?_) #[true, true, true, true, true, false, false, false, false, false, false, false, false, false] rfl rfl (take_ofW HT_.out HW_.out (by kernel_rfl)) (fun _ _ _ h => h) (Or.inl ⟨by rfl, ?_⟩) hHeld ?_ ?_
    rotate_left
    · rintro w' ⟨s0, s1, s2, s3, s4, s5, s6, s7⟩
      go_simp
      with_reducible rfl
    rotate_left
    · simp only [Act.put, List.setIfInBounds_toArray, List.set_cons_zero, List.set_cons_succ, i64_w, i32_w]
      rfl
    refine pure_ (i := 5) (N := some 120) (v := ?_) (a' := ?_) #[true, true, true, true, true, true, false, false, false, false, false, false, false, false] rfl rfl (any_of HT_.out (by kernel_rfl)) (fun _ _ _ h => h) (Or.inl ⟨by rfl, ?_⟩) ?_ ?_
    rotate_left
    · intro w'
      go_simp
      with_reducible rfl
    rotate_left
    · simp only [Act.put, List.setIfInBounds_toArray, List.set_cons_zero, List.set_cons_succ, i64_w, i32_w]
      rfl
    refine pure_ (i := 6) (N := some 121) (v := ?_) (a' := ?_) #[true, true, true, true, true, true, true, false, false, false, false, false, false, false] rfl rfl (any_of HT_.out (by kernel_rfl)) (fun _ _ _ h => h) (Or.inl ⟨by rfl, ?_⟩) ?_ ?_
    rotate_left
    · intro w'
      go_simp
      with_reducible rfl
    rotate_left
    · simp only [Act.put, List.setIfInBounds_toArray, List.set_cons_zero, List.set_cons_succ, i64_w, i32_w]
      rfl
    refine pure_ (i := 7) (N := some 122) (v := undef) (a' := ?_) #[true, true, true, true, true, true, true, true, false, false, false, false, false, false] rfl rfl (any_of HT_.out (by kernel_rfl)) (fun _ _ _ h => h) (Or.inr ⟨by rfl, rfl⟩) ?_ ?_
    rotate_left
    · simp only [Act.put, List.setIfInBounds_toArray, List.set_cons_zero, List.set_cons_succ, i64_w, i32_w]
      rfl
    refine pure_ (i := 8) (N := some 123) (v := undef) (a' := ?_) #[true, true, true, true, true, true, true, true, true, false, false, false, false, false] rfl rfl (any_of HT_.out (by kernel_rfl)) (fun _ _ _ h => h) (Or.inr ⟨by rfl, rfl⟩) ?_ ?_
    rotate_left
    · simp only [Act.put, List.setIfInBounds_toArray, List.set_cons_zero, List.set_cons_succ, i64_w, i32_w]
      rfl
    refine pure_ (i := 9) (N := some 124) (v := undef) (a' := ?_) #[true, true, true, true, true, true, true, true, true, true, false, false, false, false] rfl rfl (any_of HT_.out (by kernel_rfl)) (fun _ _ _ h => h) (Or.inr ⟨by rfl, rfl⟩) ?_ ?_
    rotate_left
    · simp only [Act.put, List.setIfInBounds_toArray, List.set_cons_zero, List.set_cons_succ, i64_w, i32_w]
      rfl
    refine pure_ (i := 10) (N := some 125) (v := undef) (a' := ?_) #[true, true, true, true, true, true, true, true, true, true, true, false, false, false] rfl rfl (any_of HT_.out (by kernel_rfl)) (fun _ _ _ h => h) (Or.inr ⟨by rfl, rfl⟩) ?_ ?_
    rotate_left
    · simp only [Act.put, List.setIfInBounds_toArray, List.set_cons_zero, List.set_cons_succ, i64_w, i32_w]
      rfl
    refine pure_ (i := 11) (N := some 126) (v := undef) (a' := ?_) #[true, true, true, true, true, true, true, true, true, true, true, true, false, false] rfl rfl (any_of HT_.out (by kernel_rfl)) (fun _ _ _ h => h) (Or.inr ⟨by rfl, rfl⟩) ?_ ?_
    rotate_left
    · simp only [Act.put, List.setIfInBounds_toArray, List.set_cons_zero, List.set_cons_succ, i64_w, i32_w]
      rfl
    refine pure_ (i := 12) (N := some 127) (v := undef) (a' := ?_) #[true, true, true, true, true, true, true, true, true, true, true, true, true, false] rfl rfl (any_of HT_.out (by kernel_rfl)) (fun _ _ _ h => h) (Or.inr ⟨by rfl, rfl⟩) ?_ ?_
    rotate_left
    · simp only [Act.put, List.setIfInBounds_toArray, List.set_cons_zero, List.set_cons_succ, i64_w, i32_w]
      rfl
    refine pure_ (i := 13) (N := some 128) (v := ?_) (a' := ?_) #[true, true, true, true, true, true, true, true, true, true, true, true, true, true] rfl rfl (any_of HT_.out (by kernel_rfl)) (fun _ _ _ h => h) (Or.inl ⟨by rfl, ?_⟩) ?_ ?_
    rotate_left
    · intro w'
      go_simp
      with_reducible rfl
    rotate_left
    · simp only [Act.put, List.setIfInBounds_toArray, List.set_cons_zero, List.set_cons_succ, i64_w, i32_w]
      rfl
    refine done_ (done_of HT_.out (by kernel_rfl)) ?_
    try go_wp2
    go_meet
    case rel => exact ⟨_, (false), (by first | rfl | (simp; done) | (simp [*]; done)), H', ⟨by have := HJ7.out; have := HK2.out; have := HK3.out; first | omega | exact Nat.le_refl _⟩, ⟨by (with_reducible repeat (first | apply Kd.R_alloc | apply Kd.R_drewN | apply Kd.R_drew)); exact HO_6.out⟩, ⟨by (with_reducible repeat (first | refine blk_drewN ?_ _ | refine blk_drew ?_ | refine blk_alloc ?_ _)); exact Zb.out⟩, ⟨by (with_reducible repeat (first | refine blk_drewN ?_ _ | refine blk_drew ?_ | refine blk_alloc ?_ _)); exact Zp.out⟩, ⟨by (with_reducible repeat (first | refine blk_drewN ?_ _ | refine blk_drew ?_ | refine blk_alloc ?_ _)); exact Zbf.out⟩, ⟨by repeat (first | (with_reducible first | exact HB.out | apply below_alloc | apply pw_below_drewN | apply below_drew1 | refine below_set ?_ Zd.out | refine below_set ?_ Zr.out | refine below_set ?_ Zbh.out) | exact HB.out)⟩⟩
   rw [if_pos c121] at H
   have c121b0 : (!(((rd_T25 t372 x13_3).f0) == x384000_2) || (!(((rd_T25 t372 x13_3).f1) == x384001_2) || (!(((rd_T25 t372 x13_3).f2) == x384002_2) || (!(((rd_T25 t372 x13_3).f3) == x384003_2))))) = true := c121
   clear c121
   have H' := mA H
   clear H
   try go_wp2
   have n0_ := mA (Kd.R_drew HO_6.out)
   have n1_ := mA (blk_drew Zb.out)
   have n2_ := mA (blk_drew Zp.out)
   have n3_ := mA (blk_drew Zbf.out)
   have n4_ := mA (below_drew1 HB.out)
   clear HO_6
   clear Zb
   clear Zp
   clear Zbf
   clear HB
   have HO_6 := n0_
   have Zb := n1_
   have Zp := n2_
   have Zbf := n3_
   have HB := n4_
   clear n0_ n1_ n2_ n3_ n4_
   have p408 : 0 ≤ (x13_3 : Int) := of_decide_eq_true (by first | (with_reducible assumption) | assumption)
   have q408 : x13_3 < (t372.length : Int) := of_decide_eq_true (by first | (with_reducible assumption) | assumption)
   obtain ⟨ad408, e408, hx408_0, hx408_1, hx408_2, hx408_3⟩ := at_T25 (Kd.R_reads' HO_6.out).2.2 x13_3 p408 q408
   obtain rfl : ad382 = ad408 := (by injection e408)
   replace p408 := eq_true p408
   replace q408 := eq_true q408
   have p409 : 0 ≤ (x13_3 : Int) := of_decide_eq_true (by first | (with_reducible assumption) | assumption)
   have q409 : x13_3 < (t372.length : Int) := of_decide_eq_true (by first | (with_reducible assumption) | assumption)
   obtain ⟨ad409, e409, hx409_0, hx409_1, hx409_2, hx409_3⟩ := at_T25 (Kd.R_reads' HO_6.out).2.2 x13_3 p409 q409
   obtain rfl : ad382 = ad409 := (by injection e409)
   replace p409 := eq_true p409
   replace q409 := eq_true q409
   refine start_ (n := 14) (S := fun w' => w'.cell? ⟨Zn, 0, none⟩ = some (.int .i64 x384000_2) ∧ w'.cell? ⟨Zn, 1, none⟩ = some (.int .i64 x384001_2) ∧ w'.cell? ⟨Zn, 2, none⟩ = some (.int .i64 x384002_2) ∧ w'.cell? ⟨Zn, 3, none⟩ = some (.int .i64 x384003_2) ∧ w'.cell? ⟨Zbe, 0, none⟩ = some (.int .i64 x386000_2) ∧ w'.cell? ⟨Zbe, 1, none⟩ = some (.int .i64 x386001_2) ∧ w'.cell? ⟨Zbe, 2, none⟩ = some (.int .i64 x386002_2) ∧ w'.cell? ⟨Zbe, 3, none⟩ = some (.int .i64 x386003_2) ∧ w'.cell? (ad382.add ((x13_3).toNat * 4)) = some (.int .i64 ((rd_T25 t372 x13_3).f0)) ∧ w'.cell? ⟨(ad382.add ((x13_3).toNat * 4)).block, (ad382.add ((x13_3).toNat * 4)).off + 1, none⟩ = some (.int .i64 ((rd_T25 t372 x13_3).f1)) ∧ w'.cell? ⟨(ad382.add ((x13_3).toNat * 4)).block, (ad382.add ((x13_3).toNat * 4)).off + 2, none⟩ = some (.int .i64 ((rd_T25 t372 x13_3).f2)) ∧ w'.cell? ⟨(ad382.add ((x13_3).toNat * 4)).block, (ad382.add ((x13_3).toNat * 4)).off + 3, none⟩ = some (.int .i64 ((rd_T25 t372 x13_3).f3)) ∧ w'.cell? (ad382.add ((x13_3).toNat * 4)) = some (.int .i64 ((rd_T25 t372 x13_3).f0)) ∧ w'.cell? ⟨(ad382.add ((x13_3).toNat * 4)).block, (ad382.add ((x13_3).toNat * 4)).off + 1, none⟩ = some (.int .i64 ((rd_T25 t372 x13_3).f1)) ∧ w'.cell? ⟨(ad382.add ((x13_3).toNat * 4)).block, (ad382.add ((x13_3).toNat * 4)).off + 2, none⟩ = some (.int .i64 ((rd_T25 t372 x13_3).f2)) ∧ w'.cell? ⟨(ad382.add ((x13_3).toNat * 4)).block, (ad382.add ((x13_3).toNat * 4)).off + 3, none⟩ = some (.int .i64 ((rd_T25 t372 x13_3).f3))) (ds := []) #[false, false, false, false, false, false, false, false, false, false, false, false, false, false] (by kernel_rfl) rfl rfl ⟨(blk_cell Zp.out 0).trans rfl, (blk_cell Zp.out 1).trans rfl, (blk_cell Zp.out 2).trans rfl, (blk_cell Zp.out 3).trans rfl, (blk_cell Zbf.out 0).trans rfl, (blk_cell Zbf.out 1).trans rfl, (blk_cell Zbf.out 2).trans rfl, (blk_cell Zbf.out 3).trans rfl, hx408_0, hx408_1, hx408_2, hx408_3, hx409_0, hx409_1, hx409_2, hx409_3⟩ (fun hHeld => ?_); refine with_tabW laws_FnThreeSteps.tab26 laws_FnThreeSteps.bits26 (fun HT_ HW_ => ?_)
   generalize wr.drew = w122 at HO_6 Zb Zp Zbf HB hx408_0 hx408_1 hx408_2 hx408_3 hx409_0 hx409_1 hx409_2 hx409_3 hHeld ⊢
   refine pure_ (i := 0) (N := some 115) (v := ?_) (a' := ?_) #[true, false, false, false, false, false, false, false, false, false, false, false, false, false] rfl rfl (any_of HT_.out (by kernel_rfl)) (fun _ _ _ h => h) (Or.inl ⟨by rfl, ?_⟩) ?_ ?_
   rotate_left
   · intro w'
     go_simp
     with_reducible rfl
   rotate_left
   · simp only [Act.put, List.setIfInBounds_toArray, List.set_cons_zero, List.set_cons_succ, i64_w, i32_w]
     rfl
   refine pure_ (i := 1) (N := some 116) (v := ?_) (a' := ?_) #[true, true, false, false, false, false, false, false, false, false, false, false, false, false] rfl rfl (any_of HT_.out (by kernel_rfl)) (fun _ _ _ h => h) (Or.inl ⟨by rfl, ?_⟩) ?_ ?_
   rotate_left
   · intro w'
     go_simp
     with_reducible rfl
   rotate_left
   · simp only [Act.put, List.setIfInBounds_toArray, List.set_cons_zero, List.set_cons_succ, i64_w, i32_w]
     rfl
   refine pure_ (i := 2) (N := some 117) (v := ?_) (a' := ?_) #[true, true, true, false, false, false, false, false, false, false, false, false, false, false] rfl rfl (any_of HT_.out (by kernel_rfl)) (fun _ _ _ h => h) (Or.inl ⟨by rfl, ?_⟩) ?_ ?_
   rotate_left
   · intro w'
     go_simp
     with_reducible rfl
   rotate_left
   · simp only [Act.put, List.setIfInBounds_toArray, List.set_cons_zero, List.set_cons_succ, i64_w, i32_w]
     rfl
   refine take_ (i := 3) (N := some 118) (v := ?_) (a' := ?_) #[true, true, true, true, false, false, false, false, false, false, false, false, false, false] rfl rfl (take_ofW HT_.out HW_.out (by kernel_rfl)) (fun _ _ _ h => h) (Or.inl ⟨by rfl, ?_⟩) hHeld ?_ ?_
   rotate_left
   · rintro w' ⟨s0, s1, s2, s3, s4, s5, s6, s7, s8, s9, s10, s11, s12, s13, s14, s15⟩
     go_simp
     with_reducible rfl
   rotate_left
   · simp only [Act.put, List.setIfInBounds_toArray, List.set_cons_zero, List.set_cons_succ, i64_w, i32_w]
     rfl
   refine take_ (i := 4) (N := some 119) (v := ?_) (a' := ?_) #[true, true, true, true, true, false, false, false, false, false, false, false, false, false] rfl rfl (take_ofW HT_.out HW_.out (by kernel_rfl)) (fun _ _ _ h => h) (Or.inl ⟨by rfl, ?_⟩) hHeld ?_ ?_
   rotate_left
   · rintro w' ⟨s0, s1, s2, s3, s4, s5, s6, s7, s8, s9, s10, s11, s12, s13, s14, s15⟩
     go_simp
     with_reducible rfl
   rotate_left
   · simp only [Act.put, List.setIfInBounds_toArray, List.set_cons_zero, List.set_cons_succ, i64_w, i32_w]
     rfl
   refine pure_ (i := 5) (N := some 120) (v := ?_) (a' := ?_) #[true, true, true, true, true, true, false, false, false, false, false, false, false, false] rfl rfl (any_of HT_.out (by kernel_rfl)) (fun _ _ _ h => h) (Or.inl ⟨by rfl, ?_⟩) ?_ ?_
   rotate_left
   · intro w'
     go_simp
     with_reducible rfl
   rotate_left
   · simp only [Act.put, List.setIfInBounds_toArray, List.set_cons_zero, List.set_cons_succ, i64_w, i32_w]
     rfl
   refine pure_ (i := 6) (N := some 121) (v := ?_) (a' := ?_) #[true, true, true, true, true, true, true, false, false, false, false, false, false, false] rfl rfl (any_of HT_.out (by kernel_rfl)) (fun _ _ _ h => h) (Or.inl ⟨by rfl, ?_⟩) ?_ ?_
   rotate_left
   · intro w'
     go_simp
     with_reducible rfl
   rotate_left
   · simp only [Act.put, List.setIfInBounds_toArray, List.set_cons_zero, List.set_cons_succ, i64_w, i32_w]
     rfl
   refine pure_ (i := 7) (N := some 122) (v := ?_) (a' := ?_) #[true, true, true, true, true, true, true, true, false, false, false, false, false, false] rfl rfl (any_of HT_.out (by kernel_rfl)) (fun _ _ _ h => h) (Or.inl ⟨by rfl, ?_⟩) ?_ ?_
   rotate_left
   · intro w'
     go_simp
     with_reducible rfl
   rotate_left
   · simp only [Act.put, List.setIfInBounds_toArray, List.set_cons_zero, List.set_cons_succ, i64_w, i32_w]
     rfl
   refine pure_ (i := 8) (N := some 123) (v := ?_) (a' := ?_) #[true, true, true, true, true, true, true, true, true, false, false, false, false, false] rfl rfl (any_of HT_.out (by kernel_rfl)) (fun _ _ _ h => h) (Or.inl ⟨by rfl, ?_⟩) ?_ ?_
   rotate_left
   · intro w'
     go_simp
     with_reducible rfl
   rotate_left
   · simp only [Act.put, List.setIfInBounds_toArray, List.set_cons_zero, List.set_cons_succ, i64_w, i32_w]
     rfl
   refine pure_ (i := 9) (N := some 124) (v := ?_) (a' := ?_) #[true, true, true, true, true, true, true, true, true, true, false, false, false, false] rfl rfl (any_of HT_.out (by kernel_rfl)) (fun _ _ _ h => h) (Or.inl ⟨by rfl, ?_⟩) ?_ ?_
   rotate_left
   · intro w'
     go_simp
     with_reducible rfl
   rotate_left
   · simp only [Act.put, List.setIfInBounds_toArray, List.set_cons_zero, List.set_cons_succ, i64_w, i32_w]
     rfl
   refine take_ (i := 10) (N := some 125) (v := ?_) (a' := ?_) #[true, true, true, true, true, true, true, true, true, true, true, false, false, false] rfl rfl (take_ofW HT_.out HW_.out (by kernel_rfl)) (fun _ _ _ h => h) (Or.inl ⟨by rfl, ?_⟩) hHeld ?_ ?_
   rotate_left
   · rintro w' ⟨s0, s1, s2, s3, s4, s5, s6, s7, s8, s9, s10, s11, s12, s13, s14, s15⟩
     go_simp
     with_reducible rfl
   rotate_left
   · simp only [Act.put, List.setIfInBounds_toArray, List.set_cons_zero, List.set_cons_succ, i64_w, i32_w]
     rfl
   refine take_ (i := 11) (N := some 126) (v := ?_) (a' := ?_) #[true, true, true, true, true, true, true, true, true, true, true, true, false, false] rfl rfl (take_ofW HT_.out HW_.out (by kernel_rfl)) (fun _ _ _ h => h) (Or.inl ⟨by rfl, ?_⟩) hHeld ?_ ?_
   rotate_left
   · rintro w' ⟨s0, s1, s2, s3, s4, s5, s6, s7, s8, s9, s10, s11, s12, s13, s14, s15⟩
     go_simp
     with_reducible rfl
   rotate_left
   · simp only [Act.put, List.setIfInBounds_toArray, List.set_cons_zero, List.set_cons_succ, i64_w, i32_w]
     rfl
   refine pure_ (i := 12) (N := some 127) (v := ?_) (a' := ?_) #[true, true, true, true, true, true, true, true, true, true, true, true, true, false] rfl rfl (any_of HT_.out (by kernel_rfl)) (fun _ _ _ h => h) (Or.inl ⟨by rfl, ?_⟩) ?_ ?_
   rotate_left
   · intro w'
     go_simp
     with_reducible rfl
   rotate_left
   · simp only [Act.put, List.setIfInBounds_toArray, List.set_cons_zero, List.set_cons_succ, i64_w, i32_w]
     rfl
   refine pure_ (i := 13) (N := some 128) (v := ?_) (a' := ?_) #[true, true, true, true, true, true, true, true, true, true, true, true, true, true] rfl rfl (any_of HT_.out (by kernel_rfl)) (fun _ _ _ h => h) (Or.inl ⟨by rfl, ?_⟩) ?_ ?_
   rotate_left
   · intro w'
     go_simp
     with_reducible rfl
   rotate_left
   · simp only [Act.put, List.setIfInBounds_toArray, List.set_cons_zero, List.set_cons_succ, i64_w, i32_w]
     rfl
   refine done_ (done_of HT_.out (by kernel_rfl)) ?_
   try go_wp2
   go_meet
   case rel => exact ⟨_, ((!(((rd_T25 t372 x13_3).f0) == x386000_2) || (!(((rd_T25 t372 x13_3).f1) == x386001_2) || (!(((rd_T25 t372 x13_3).f2) == x386002_2) || (!(((rd_T25 t372 x13_3).f3) == x386003_2)))))), (by first | rfl | (simp; done) | (simp [*]; done)), H', ⟨by have := HJ7.out; have := HK2.out; have := HK3.out; first | omega | exact Nat.le_refl _⟩, ⟨by (with_reducible repeat (first | apply Kd.R_alloc | apply Kd.R_drewN | apply Kd.R_drew)); exact HO_6.out⟩, ⟨by (with_reducible repeat (first | refine blk_drewN ?_ _ | refine blk_drew ?_ | refine blk_alloc ?_ _)); exact Zb.out⟩, ⟨by (with_reducible repeat (first | refine blk_drewN ?_ _ | refine blk_drew ?_ | refine blk_alloc ?_ _)); exact Zp.out⟩, ⟨by (with_reducible repeat (first | refine blk_drewN ?_ _ | refine blk_drew ?_ | refine blk_alloc ?_ _)); exact Zbf.out⟩, ⟨by repeat (first | (with_reducible first | exact HB.out | apply below_alloc | apply pw_below_drewN | apply below_drew1 | refine below_set ?_ Zd.out | refine below_set ?_ Zr.out | refine below_set ?_ Zbh.out) | exact HB.out)⟩⟩
  clear HC119
  try clear c1
  try clear p2
  try clear c3
  try clear p3
  try clear q3
  try clear hx3
  try clear p4
  try clear q4
  try clear hx4
  try clear c5
  try clear p6
  try clear c9
  try clear c10
  try clear c11
  try clear c12
  try clear c30
  try clear c37
  try clear c37b0
  try clear c38
  try clear p39
  try clear q39
  try clear hx39
  try clear p40
  try clear q40
  try clear hx40
  try clear c53
  try clear c54
  try clear p64
  try clear c91
  try clear c91b0
  try clear c92
  try clear c93
  try clear c94
  try clear c96
  try clear c97
  try clear c104
  try clear c106
  try clear c107
  try clear c108
  try clear c110
  try clear c111
  try clear c118
  try clear c118b0
  try clear c120
  try clear c120b0
  try clear c121
  try clear c121b0
  try clear Zca
  try clear Zcb
  try clear Zcc
  try clear Zcd
  try clear Zce
  try clear Zcf
  try clear Zcg
  try clear Zch
  try clear Zci
  try clear Zcj
  try clear Zck
  try clear Zcm
  try clear Zcn
  try clear Zcp
  try clear Zcq
  try clear Zcr
  try clear Zcs
  try clear Zct
  try clear Zcu
  try clear Zcv
  try clear Zcw
  try clear Zcx
  try clear Zcy
  try clear Zcz
  try clear Zda
  try clear Zdb
  try clear Zdc
  try clear Zdd
  try clear Zde
  try clear Zdf
  try clear Zdg
  try clear Zdh
  try clear Zdi
  try clear Zdj
  try clear Zdk
  try clear Zdm
  try clear Zdn
  try clear Zdp
  try clear Zdq
  try clear Zdr
  try clear hx395_0
  try clear hx395_1
  try clear hx395_2
  try clear hx395_3
  try clear hx401_0
  try clear hx401_1
  try clear hx401_2
  try clear hx401_3
  try clear hx403_0
  try clear hx403_1
  try clear hx403_2
  try clear hx403_3
  try clear hx408_0
  try clear hx408_1
  try clear hx408_2
  try clear hx408_3
  try clear hx409_0
  try clear hx409_1
  try clear hx409_2
  try clear hx409_3
  try clear p2
  try clear p3
  try clear p39
  try clear p395
  try clear p4
  try clear p40
  try clear p401
  try clear p403
  try clear p408
  try clear p409
  try clear p6
  try clear p64
  try clear q3
  try clear q39
  try clear q395
  try clear q4
  try clear q40
  try clear q401
  try clear q403
  try clear q408
  try clear q409
  obtain ⟨kq, x128_118, rfl, HA, HJ118, HO_6, Zb, Zp, Zbf, HB⟩ := hcut
  cases kq with
  | zero => exact absurd HA.out (by simp [laws_FnThreeSteps.j4])
  | succ kj118 =>
  have H := HA.out
  clear HA
  simp only [laws_FnThreeSteps.j4] at H
  by_cases c124 : x128_118 = true
  case neg =>
   replace c124 := Bool.eq_false_iff.mpr c124
   subst c124
   have H1 : (laws_FnThreeSteps.l1 kj118 t372 (wrap64 (x13_3 + 1)) x382000_2 x382001_2 x382002_2 x382003_2 x384000_2 x384001_2 x384002_2 x384003_2 x386000_2 x386001_2 x386002_2 x386003_2) = some r := by rw [if_neg (show ¬ (false = true) by decide)] at H; exact H
   clear H
   have H := H1
   clear H1
   have H' := mA H
   clear H
   go_wp2
   go_roundg kj118
   case measure => have := HJ7.out; have := HK2.out; have := HK3.out; have := HJ118.out; omega
   case rel => exact ⟨(wrap64 (x13_3 + 1)), (by first | rfl | (simp; done) | (simp [*]; done)), H', ⟨by have := HJ7.out; have := HK2.out; have := HK3.out; have := HJ118.out; omega⟩, ⟨by (with_reducible repeat (first | apply Kd.R_alloc | apply Kd.R_drewN | apply Kd.R_drew)); exact HO_6.out⟩, ⟨by (with_reducible repeat (first | refine blk_drewN ?_ _ | refine blk_drew ?_ | refine blk_alloc ?_ _)); exact Zb.out⟩, ⟨by (with_reducible repeat (first | refine blk_drewN ?_ _ | refine blk_drew ?_ | refine blk_alloc ?_ _)); exact Zp.out⟩, ⟨by (with_reducible repeat (first | refine blk_drewN ?_ _ | refine blk_drew ?_ | refine blk_alloc ?_ _)); exact Zbf.out⟩, ⟨by repeat (first | (with_reducible first | exact HB.out | apply below_alloc | apply pw_below_drewN | apply below_drew1 | refine below_set ?_ Zd.out | refine below_set ?_ Zr.out | refine below_set ?_ Zbh.out) | exact HB.out)⟩⟩
  subst c124
  rw [if_pos rfl] at H
  by_cases c125 : 0 ≤ x13_3
  case neg =>
   rw [if_neg c125] at H
   exact absurd H (by simp)
  rw [if_pos c125] at H
  have c125b0 : decide (0 ≤ x13_3) = true := decide_eq_true c125
  clear c125
  by_cases c126 : x13_3 < (t372.length : Int)
  case neg =>
   rw [if_neg c126] at H
   exact absurd H (by simp)
  rw [if_pos c126] at H
  have c126b0 : decide (x13_3 < (t372.length : Int)) = true := decide_eq_true c126
  clear c126
  replace H := Option.bind_eq_some_iff.mp H
  obtain ⟨⟨t411, t412, t413, t414, t415⟩, A1270, H⟩ := H
  replace H : (if t415 = true then (if (!(t411 == x384000_2) || (!(t412 == x384001_2) || (!(t413 == x384002_2) || (!(t414 == x384003_2))))) = true then (some false) else (laws_FnThreeSteps.l1 kj118 t372 (wrap64 (x13_3 + 1)) x382000_2 x382001_2 x382002_2 x382003_2 x384000_2 x384001_2 x384002_2 x384003_2 x386000_2 x386001_2 x386002_2 x386003_2)) else (some false)) = some r := H
  have A127 := mA A1270
  clear A1270
  by_cases c128 : t415 = true
  case neg =>
   replace c128 := Bool.eq_false_iff.mpr c128
   subst c128
   have H1 : (some false) = some r := by rw [if_neg (show ¬ (false = true) by decide)] at H; exact H
   clear H
   have H := H1
   clear H1
   exact absurd ((Option.some.inj H).trans hr) (by decide)
  subst c128
  rw [if_pos rfl] at H
  by_cases c129 : (!(t411 == x384000_2) || (!(t412 == x384001_2) || (!(t413 == x384002_2) || (!(t414 == x384003_2))))) = true
  case pos =>
   rw [if_pos c129] at H
   have c129b0 : (!(t411 == x384000_2) || (!(t412 == x384001_2) || (!(t413 == x384002_2) || (!(t414 == x384003_2))))) = true := c129
   clear c129
   exact absurd ((Option.some.inj H).trans hr) (by decide)
  rw [if_neg c129] at H
  have c129b0 : (!(t411 == x384000_2) || (!(t412 == x384001_2) || (!(t413 == x384002_2) || (!(t414 == x384003_2))))) = false := by simpa using c129
  clear c129
  have H' := mA H
  clear H
  try go_wp2
  have n0_ := mA (Kd.R_drew HO_6.out)
  have n1_ := mA (blk_drew Zb.out)
  have n2_ := mA (blk_drew Zp.out)
  have n3_ := mA (blk_drew Zbf.out)
  have n4_ := mA (below_drew1 HB.out)
  clear HO_6
  clear Zb
  clear Zp
  clear Zbf
  clear HB
  have HO_6 := n0_
  have Zb := n1_
  have Zp := n2_
  have Zbf := n3_
  have HB := n4_
  clear n0_ n1_ n2_ n3_ n4_
  have p410 : 0 ≤ (x13_3 : Int) := of_decide_eq_true (by first | (with_reducible assumption) | assumption)
  have q410 : x13_3 < (t372.length : Int) := of_decide_eq_true (by first | (with_reducible assumption) | assumption)
  obtain ⟨ad410, e410, hx410_0, hx410_1, hx410_2, hx410_3⟩ := at_T25 (Kd.R_reads' HO_6.out).2.2 x13_3 p410 q410
  obtain rfl : ad382 = ad410 := (by injection e410)
  replace p410 := eq_true p410
  replace q410 := eq_true q410
  refine start_ (n := 12) (S := fun w' => w'.cell? ⟨Zbe, 0, none⟩ = some (.int .i64 x386000_2) ∧ w'.cell? ⟨Zbe, 1, none⟩ = some (.int .i64 x386001_2) ∧ w'.cell? ⟨Zbe, 2, none⟩ = some (.int .i64 x386002_2) ∧ w'.cell? ⟨Zbe, 3, none⟩ = some (.int .i64 x386003_2) ∧ w'.cell? (ad382.add ((x13_3).toNat * 4)) = some (.int .i64 ((rd_T25 t372 x13_3).f0)) ∧ w'.cell? ⟨(ad382.add ((x13_3).toNat * 4)).block, (ad382.add ((x13_3).toNat * 4)).off + 1, none⟩ = some (.int .i64 ((rd_T25 t372 x13_3).f1)) ∧ w'.cell? ⟨(ad382.add ((x13_3).toNat * 4)).block, (ad382.add ((x13_3).toNat * 4)).off + 2, none⟩ = some (.int .i64 ((rd_T25 t372 x13_3).f2)) ∧ w'.cell? ⟨(ad382.add ((x13_3).toNat * 4)).block, (ad382.add ((x13_3).toNat * 4)).off + 3, none⟩ = some (.int .i64 ((rd_T25 t372 x13_3).f3))) (ds := []) #[false, false, false, false, false, false, false, false, false, false, false, false] (by kernel_rfl) rfl rfl ⟨(blk_cell Zbf.out 0).trans rfl, (blk_cell Zbf.out 1).trans rfl, (blk_cell Zbf.out 2).trans rfl, (blk_cell Zbf.out 3).trans rfl, hx410_0, hx410_1, hx410_2, hx410_3⟩ (fun hHeld => ?_); refine with_tabW laws_FnThreeSteps.tab27 laws_FnThreeSteps.bits27 (fun HT_ HW_ => ?_)
  generalize wc.drew = w145 at HO_6 Zb Zp Zbf HB hx410_0 hx410_1 hx410_2 hx410_3 hHeld ⊢
  refine pure_ (i := 0) (N := some 130) (v := ?_) (a' := ?_) #[true, false, false, false, false, false, false, false, false, false, false, false] rfl rfl (any_of HT_.out (by kernel_rfl)) (fun _ _ _ h => h) (Or.inl ⟨by rfl, ?_⟩) ?_ ?_
  rotate_left
  · intro w'
    go_simp
    with_reducible rfl
  rotate_left
  · simp only [Act.put, List.setIfInBounds_toArray, List.set_cons_zero, List.set_cons_succ, i64_w, i32_w]
    rfl
  refine pure_ (i := 1) (N := some 131) (v := ?_) (a' := ?_) #[true, true, false, false, false, false, false, false, false, false, false, false] rfl rfl (any_of HT_.out (by kernel_rfl)) (fun _ _ _ h => h) (Or.inl ⟨by rfl, ?_⟩) ?_ ?_
  rotate_left
  · intro w'
    go_simp
    with_reducible rfl
  rotate_left
  · simp only [Act.put, List.setIfInBounds_toArray, List.set_cons_zero, List.set_cons_succ, i64_w, i32_w]
    rfl
  refine pure_ (i := 2) (N := some 132) (v := ?_) (a' := ?_) #[true, true, true, false, false, false, false, false, false, false, false, false] rfl rfl (any_of HT_.out (by kernel_rfl)) (fun _ _ _ h => h) (Or.inl ⟨by rfl, ?_⟩) ?_ ?_
  rotate_left
  · intro w'
    go_simp
    with_reducible rfl
  rotate_left
  · simp only [Act.put, List.setIfInBounds_toArray, List.set_cons_zero, List.set_cons_succ, i64_w, i32_w]
    rfl
  refine take_ (i := 3) (N := some 133) (v := ?_) (a' := ?_) #[true, true, true, true, false, false, false, false, false, false, false, false] rfl rfl (take_ofW HT_.out HW_.out (by kernel_rfl)) (fun _ _ _ h => h) (Or.inl ⟨by rfl, ?_⟩) hHeld ?_ ?_
  rotate_left
  · rintro w' ⟨s0, s1, s2, s3, s4, s5, s6, s7⟩
    go_simp
    with_reducible rfl
  rotate_left
  · simp only [Act.put, List.setIfInBounds_toArray, List.set_cons_zero, List.set_cons_succ, i64_w, i32_w]
    rfl
  refine take_ (i := 4) (N := some 134) (v := ?_) (a' := ?_) #[true, true, true, true, true, false, false, false, false, false, false, false] rfl rfl (take_ofW HT_.out HW_.out (by kernel_rfl)) (fun _ _ _ h => h) (Or.inl ⟨by rfl, ?_⟩) hHeld ?_ ?_
  rotate_left
  · rintro w' ⟨s0, s1, s2, s3, s4, s5, s6, s7⟩
    go_simp
    with_reducible rfl
  rotate_left
  · simp only [Act.put, List.setIfInBounds_toArray, List.set_cons_zero, List.set_cons_succ, i64_w, i32_w]
    rfl
  refine join_ (σ := Nat) 2 #[true, true, true, true, true, true, true, true, true, true, false, false] (fun s_ => [(135, .tuple #[.agg #[.int .i64 t411, .int .i64 t412, .int .i64 t413, .int .i64 t414], .bool true]), (14, .pointer (some ⟨s_, 0, none⟩)), (129, .tuple #[.agg #[.int .i64 t411, .int .i64 t412, .int .i64 t413, .int .i64 t414], .bool true]), (136, .agg #[.int .i64 t411, .int .i64 t412, .int .i64 t413, .int .i64 t414]), (137, .bool true)]) (fun s_ w' => (w'.cell? ⟨Zbe, 0, none⟩ = some (.int .i64 x386000_2) ∧ w'.cell? ⟨Zbe, 1, none⟩ = some (.int .i64 x386001_2) ∧ w'.cell? ⟨Zbe, 2, none⟩ = some (.int .i64 x386002_2) ∧ w'.cell? ⟨Zbe, 3, none⟩ = some (.int .i64 x386003_2) ∧ w'.cell? (ad382.add ((x13_3).toNat * 4)) = some (.int .i64 ((rd_T25 t372 x13_3).f0)) ∧ w'.cell? ⟨(ad382.add ((x13_3).toNat * 4)).block, (ad382.add ((x13_3).toNat * 4)).off + 1, none⟩ = some (.int .i64 ((rd_T25 t372 x13_3).f1)) ∧ w'.cell? ⟨(ad382.add ((x13_3).toNat * 4)).block, (ad382.add ((x13_3).toNat * 4)).off + 2, none⟩ = some (.int .i64 ((rd_T25 t372 x13_3).f2)) ∧ w'.cell? ⟨(ad382.add ((x13_3).toNat * 4)).block, (ad382.add ((x13_3).toNat * 4)).off + 3, none⟩ = some (.int .i64 ((rd_T25 t372 x13_3).f3))) ∧ (Kd.R k25 25 w' w.heap.size (fun k_ => k_ ≠ Za ∧ k_ ≠ Zn ∧ k_ ≠ Zbe ∧ k_ ≠ s_) (.slice (some ad382) t372.length co29) t372) ∧ (w'.heap[Za]? = some (.cells #[.int .i64 x382000_2, .int .i64 x382001_2, .int .i64 x382002_2, .int .i64 x382003_2] 25 (0, 0))) ∧ (w'.heap[Zn]? = some (.cells #[.int .i64 x384000_2, .int .i64 x384001_2, .int .i64 x384002_2, .int .i64 x384003_2] 25 (0, 0))) ∧ (w'.heap[Zbe]? = some (.cells #[.int .i64 x386000_2, .int .i64 x386001_2, .int .i64 x386002_2, .int .i64 x386003_2] 25 (0, 0))) ∧ (w'.heap[s_]? = some (.cells #[.int .i64 0, .int .i64 0, .int .i64 0, .int .i64 0] 25 (0, 0))) ∧ (w.heap.size ≤ s_) ∧ (w.heap.size ≤ s_) ∧ (Za ≠ s_) ∧ (s_ ≠ Za) ∧ (Zn ≠ s_) ∧ (s_ ≠ Zn) ∧ (Zbe ≠ s_) ∧ (s_ ≠ Zbe) ∧ (Below w.heap.size w w')) ?_ ?_
  rotate_left
  · intro hCont
    refine two_ (i := 5) (j := 9) (Ni := some 135) (Nj := some 14) #[true, true, true, true, true, true, false, false, false, false, false, false] #[true, true, true, true, true, false, false, false, false, true, false, false] rfl rfl rfl rfl (two_of HT_.out (by kernel_rfl)) (by decide) (by decide) (fun K hK => ?_) (fun K hK => ?_)
    · skip
      refine goes_ Try.func24 (by kernel_rfl) rfl #[.agg #[.int .i64 ((rd_T25 t372 x13_3).f0), .int .i64 ((rd_T25 t372 x13_3).f1), .int .i64 ((rd_T25 t372 x13_3).f2), .int .i64 ((rd_T25 t372 x13_3).f3)], .agg #[.int .i64 x386000_2, .int .i64 x386001_2, .int .i64 x386002_2, .int .i64 x386003_2]] (by rfl) rfl rfl (by (try simp only [List.map_toArray, List.map_cons, List.map_nil]); first | done | rfl | (simp only [List.length_drop, List.length_take]; rfl)) ?_
      with_reducible refine (impl_AddIntervals.calls kj118 ((rd_T25 t372 x13_3).f0) ((rd_T25 t372 x13_3).f1) ((rd_T25 t372 x13_3).f2) ((rd_T25 t372 x13_3).f3) x386000_2 x386001_2 x386002_2 x386003_2 t411 t412 t413 t414 true _ A127.out).mono ?_
      rintro e w146 ⟨rfl, hb⟩
      have HS4_ := (hb.cell (World.block_lt_of_cell? _ _ (hHeld.2.2.2.2.1))).trans (hHeld.2.2.2.2.1)
      have HS5_ := (hb.cell (World.block_lt_of_cell? _ _ (hHeld.2.2.2.2.2.1))).trans (hHeld.2.2.2.2.2.1)
      have HS6_ := (hb.cell (World.block_lt_of_cell? _ _ (hHeld.2.2.2.2.2.2.1))).trans (hHeld.2.2.2.2.2.2.1)
      have HS7_ := (hb.cell (World.block_lt_of_cell? _ _ (hHeld.2.2.2.2.2.2.2))).trans (hHeld.2.2.2.2.2.2.2)
      refine ⟨_, rfl, ?_⟩
      have n0_ := mA (Kd.R_below (by (with_reducible repeat (first | apply Kd.R_alloc | apply Kd.R_drewN | apply Kd.R_drew)); exact HO_6.out) hb)
      have n1_ := mA (blk_below (g := Za) (o := cQ25 x382000_2 x382001_2 x382002_2 x382003_2) Zb.out hb)
      have n2_ := mA (blk_below (g := Zn) (o := cQ25 x384000_2 x384001_2 x384002_2 x384003_2) Zp.out hb)
      have n3_ := mA (blk_below (g := Zbe) (o := cQ25 x386000_2 x386001_2 x386002_2 x386003_2) Zbf.out hb)
      have n4_ := mA (below_step (by repeat (first | (with_reducible first | exact HB.out | apply below_alloc | apply pw_below_drewN | apply below_drew1 | refine below_set ?_ Zd.out | refine below_set ?_ Zr.out | refine below_set ?_ Zbh.out) | exact HB.out)) hb)
      clear HO_6
      clear Zb
      clear Zp
      clear Zbf
      clear HB
      have HO_6 := n0_
      have Zb := n1_
      have Zp := n2_
      have Zbf := n3_
      have HB := n4_
      clear n0_ n1_ n2_ n3_ n4_
      (try clear hb)
      (try clear hb2)
      (try clear hk)
      (try clear hi)
      refine hK.out _ _ ⟨(blk_cell Zbf.out 0).trans rfl, (blk_cell Zbf.out 1).trans rfl, (blk_cell Zbf.out 2).trans rfl, (blk_cell Zbf.out 3).trans rfl, HS4_, HS5_, HS6_, HS7_⟩ (fun hHeld => ?_)
      clear hK K
      refine norm_ (a' := ?_) ?_ ?_
      rotate_left
      · show Act.put _ (some 135) _ = _
        simp only [Act.put, List.setIfInBounds_toArray, List.set_cons_zero, List.set_cons_succ, i64_w, i32_w]
        rfl
      refine pure_ (i := 6) (N := some 129) (v := ?_) (a' := ?_) #[true, true, true, true, true, true, true, false, false, false, false, false] rfl rfl (any_of HT_.out (by kernel_rfl)) (fun _ _ _ h => h) (Or.inl ⟨by rfl, ?_⟩) ?_ ?_
      rotate_left
      · intro w'
        go_simp
        with_reducible rfl
      rotate_left
      · simp only [Act.put, List.setIfInBounds_toArray, List.set_cons_zero, List.set_cons_succ, i64_w, i32_w]
        rfl
      refine pure_ (i := 7) (N := some 136) (v := ?_) (a' := ?_) #[true, true, true, true, true, true, true, true, false, false, false, false] rfl rfl (any_of HT_.out (by kernel_rfl)) (fun _ _ _ h => h) (Or.inl ⟨by rfl, ?_⟩) ?_ ?_
      rotate_left
      · intro w'
        go_simp
        with_reducible rfl
      rotate_left
      · simp only [Act.put, List.setIfInBounds_toArray, List.set_cons_zero, List.set_cons_succ, i64_w, i32_w]
        rfl
      refine pure_ (i := 8) (N := some 137) (v := ?_) (a' := ?_) #[true, true, true, true, true, true, true, true, true, false, false, false] rfl rfl (any_of HT_.out (by kernel_rfl)) (fun _ _ _ h => h) (Or.inl ⟨by rfl, ?_⟩) ?_ ?_
      rotate_left
      · intro w'
        go_simp
        with_reducible rfl
      rotate_left
      · simp only [Act.put, List.setIfInBounds_toArray, List.set_cons_zero, List.set_cons_succ, i64_w, i32_w]
        rfl
      refine one_ (i := 9) (N := some 14) #[true, true, true, true, true, true, true, true, true, true, false, false] rfl rfl (one_of HT_.out (by kernel_rfl)) (by decide) (fun K hK => ?_)
      refine box_step ?hg (N := 14) ?hd (cs := #[.int .i64 0, .int .i64 0, .int .i64 0, .int .i64 0]) (t := 25) ?hr ?_; (case hd => rfl); (case hg => rfl); (case hr => first | (go_simp; done) | (go_simp; rfl))
      intro Zds hg w147 hbox hb
      have HS4_ := (hb.cell (World.block_lt_of_cell? _ _ (hHeld.2.2.2.2.1))).trans (hHeld.2.2.2.2.1)
      have HS5_ := (hb.cell (World.block_lt_of_cell? _ _ (hHeld.2.2.2.2.2.1))).trans (hHeld.2.2.2.2.2.1)
      have HS6_ := (hb.cell (World.block_lt_of_cell? _ _ (hHeld.2.2.2.2.2.2.1))).trans (hHeld.2.2.2.2.2.2.1)
      have HS7_ := (hb.cell (World.block_lt_of_cell? _ _ (hHeld.2.2.2.2.2.2.2))).trans (hHeld.2.2.2.2.2.2.2)
      have n0_ := mA (Kd.R_below (Kd.R_elderB (by (with_reducible repeat (first | apply Kd.R_alloc | apply Kd.R_drewN | apply Kd.R_drew)); exact HO_6.out) Zds (Nat.le_of_eq hg.symm)) hb)
      have n1_ := mA (blk_below (g := Za) (o := cQ25 x382000_2 x382001_2 x382002_2 x382003_2) Zb.out hb)
      have n2_ := mA (blk_below (g := Zn) (o := cQ25 x384000_2 x384001_2 x384002_2 x384003_2) Zp.out hb)
      have n3_ := mA (blk_below (g := Zbe) (o := cQ25 x386000_2 x386001_2 x386002_2 x386003_2) Zbf.out hb)
      have n4_ := mA (below_step (by repeat (first | (with_reducible first | exact HB.out | apply below_alloc | apply pw_below_drewN | apply below_drew1 | refine below_set ?_ Zd.out | refine below_set ?_ Zr.out | refine below_set ?_ Zbh.out) | exact HB.out)) hb)
      have n5_ := mA (hbox)
      have n6_ := mA ((by rw [hg]; exact (below_size (by repeat (first | (with_reducible first | exact HB.out | apply below_alloc | apply pw_below_drewN | apply below_drew1 | refine below_set ?_ Zd.out | refine below_set ?_ Zr.out | refine below_set ?_ Zbh.out) | exact HB.out))) : w.heap.size ≤ Zds))
      have n7_ := mA ((by rw [hg]; exact (below_size (by repeat (first | (with_reducible first | exact HB.out | apply below_alloc | apply pw_below_drewN | apply below_drew1 | refine below_set ?_ Zd.out | refine below_set ?_ Zr.out | refine below_set ?_ Zbh.out) | exact HB.out))) : w.heap.size ≤ Zds))
      have n8_ := mA ((by rw [hg]; exact Nat.ne_of_lt (blk_lt (g := Za) (o := cQ25 x382000_2 x382001_2 x382002_2 x382003_2) Zb.out) : Za ≠ Zds))
      have n9_ := mA ((by rw [hg]; exact Nat.ne_of_gt (blk_lt (g := Za) (o := cQ25 x382000_2 x382001_2 x382002_2 x382003_2) Zb.out) : Zds ≠ Za))
      have n10_ := mA ((by rw [hg]; exact Nat.ne_of_lt (blk_lt (g := Zn) (o := cQ25 x384000_2 x384001_2 x384002_2 x384003_2) Zp.out) : Zn ≠ Zds))
      have n11_ := mA ((by rw [hg]; exact Nat.ne_of_gt (blk_lt (g := Zn) (o := cQ25 x384000_2 x384001_2 x384002_2 x384003_2) Zp.out) : Zds ≠ Zn))
      have n12_ := mA ((by rw [hg]; exact Nat.ne_of_lt (blk_lt (g := Zbe) (o := cQ25 x386000_2 x386001_2 x386002_2 x386003_2) Zbf.out) : Zbe ≠ Zds))
      have n13_ := mA ((by rw [hg]; exact Nat.ne_of_gt (blk_lt (g := Zbe) (o := cQ25 x386000_2 x386001_2 x386002_2 x386003_2) Zbf.out) : Zds ≠ Zbe))
      clear HO_6
      clear Zb
      clear Zp
      clear Zbf
      clear HB
      have HO_6 := n0_
      have Zb := n1_
      have Zp := n2_
      have Zbf := n3_
      have HB := n4_
      have Zdt := n5_
      have Zdu := n6_
      have Zdv := n7_
      have Zdw := n8_
      have Zdx := n9_
      have Zdy := n10_
      have Zdz := n11_
      have Zea := n12_
      have Zeb := n13_
      clear n0_ n1_ n2_ n3_ n4_ n5_ n6_ n7_ n8_ n9_ n10_ n11_ n12_ n13_
      clear hb hbox hg
      refine hK.out _ _ ⟨(blk_cell Zbf.out 0).trans rfl, (blk_cell Zbf.out 1).trans rfl, (blk_cell Zbf.out 2).trans rfl, (blk_cell Zbf.out 3).trans rfl, HS4_, HS5_, HS6_, HS7_⟩ (fun hHeld => ?_)
      clear hK K
      refine norm_ (a' := ?_) ?_ ?_
      rotate_left
      · show Act.put _ (some 14) _ = _
        simp only [Act.put, List.setIfInBounds_toArray, List.set_cons_zero, List.set_cons_succ, i64_w, i32_w]
        rfl
      exact norm_ (by simp only [putAll, Act.put, List.setIfInBounds_toArray, List.set_cons_zero, List.set_cons_succ]) (hCont (Zds) _ ⟨hHeld, (by (with_reducible repeat (first | apply Kd.R_alloc | apply Kd.R_drewN | apply Kd.R_drew)); exact Kd.R_mono HO_6.out (fun _ hk => ⟨hk.1.1, ⟨hk.1.2.1, ⟨hk.1.2.2, hk.2⟩⟩⟩)), Zb.out, Zp.out, Zbf.out, Zdt.out, Zdu.out, Zdv.out, Zdw.out, Zdx.out, Zdy.out, Zdz.out, Zea.out, Zeb.out, (by repeat (first | (with_reducible first | exact HB.out | apply below_alloc | apply pw_below_drewN | apply below_drew1 | refine below_set ?_ Zd.out | refine below_set ?_ Zr.out | refine below_set ?_ Zbh.out | refine below_set ?_ Zdv.out) | exact HB.out))⟩)
    · skip
      refine box_step ?hg (N := 14) ?hd (cs := #[.int .i64 0, .int .i64 0, .int .i64 0, .int .i64 0]) (t := 25) ?hr ?_; (case hd => rfl); (case hg => rfl); (case hr => first | (go_simp; done) | (go_simp; rfl))
      intro Zds hg w146 hbox hb
      have HS4_ := (hb.cell (World.block_lt_of_cell? _ _ (hHeld.2.2.2.2.1))).trans (hHeld.2.2.2.2.1)
      have HS5_ := (hb.cell (World.block_lt_of_cell? _ _ (hHeld.2.2.2.2.2.1))).trans (hHeld.2.2.2.2.2.1)
      have HS6_ := (hb.cell (World.block_lt_of_cell? _ _ (hHeld.2.2.2.2.2.2.1))).trans (hHeld.2.2.2.2.2.2.1)
      have HS7_ := (hb.cell (World.block_lt_of_cell? _ _ (hHeld.2.2.2.2.2.2.2))).trans (hHeld.2.2.2.2.2.2.2)
      have n0_ := mA (Kd.R_below (Kd.R_elderB (by (with_reducible repeat (first | apply Kd.R_alloc | apply Kd.R_drewN | apply Kd.R_drew)); exact HO_6.out) Zds (Nat.le_of_eq hg.symm)) hb)
      have n1_ := mA (blk_below (g := Za) (o := cQ25 x382000_2 x382001_2 x382002_2 x382003_2) Zb.out hb)
      have n2_ := mA (blk_below (g := Zn) (o := cQ25 x384000_2 x384001_2 x384002_2 x384003_2) Zp.out hb)
      have n3_ := mA (blk_below (g := Zbe) (o := cQ25 x386000_2 x386001_2 x386002_2 x386003_2) Zbf.out hb)
      have n4_ := mA (below_step (by repeat (first | (with_reducible first | exact HB.out | apply below_alloc | apply pw_below_drewN | apply below_drew1 | refine below_set ?_ Zd.out | refine below_set ?_ Zr.out | refine below_set ?_ Zbh.out) | exact HB.out)) hb)
      have n5_ := mA (hbox)
      have n6_ := mA ((by rw [hg]; exact (below_size (by repeat (first | (with_reducible first | exact HB.out | apply below_alloc | apply pw_below_drewN | apply below_drew1 | refine below_set ?_ Zd.out | refine below_set ?_ Zr.out | refine below_set ?_ Zbh.out) | exact HB.out))) : w.heap.size ≤ Zds))
      have n7_ := mA ((by rw [hg]; exact (below_size (by repeat (first | (with_reducible first | exact HB.out | apply below_alloc | apply pw_below_drewN | apply below_drew1 | refine below_set ?_ Zd.out | refine below_set ?_ Zr.out | refine below_set ?_ Zbh.out) | exact HB.out))) : w.heap.size ≤ Zds))
      have n8_ := mA ((by rw [hg]; exact Nat.ne_of_lt (blk_lt (g := Za) (o := cQ25 x382000_2 x382001_2 x382002_2 x382003_2) Zb.out) : Za ≠ Zds))
      have n9_ := mA ((by rw [hg]; exact Nat.ne_of_gt (blk_lt (g := Za) (o := cQ25 x382000_2 x382001_2 x382002_2 x382003_2) Zb.out) : Zds ≠ Za))
      have n10_ := mA ((by rw [hg]; exact Nat.ne_of_lt (blk_lt (g := Zn) (o := cQ25 x384000_2 x384001_2 x384002_2 x384003_2) Zp.out) : Zn ≠ Zds))
      have n11_ := mA ((by rw [hg]; exact Nat.ne_of_gt (blk_lt (g := Zn) (o := cQ25 x384000_2 x384001_2 x384002_2 x384003_2) Zp.out) : Zds ≠ Zn))
      have n12_ := mA ((by rw [hg]; exact Nat.ne_of_lt (blk_lt (g := Zbe) (o := cQ25 x386000_2 x386001_2 x386002_2 x386003_2) Zbf.out) : Zbe ≠ Zds))
      have n13_ := mA ((by rw [hg]; exact Nat.ne_of_gt (blk_lt (g := Zbe) (o := cQ25 x386000_2 x386001_2 x386002_2 x386003_2) Zbf.out) : Zds ≠ Zbe))
      clear HO_6
      clear Zb
      clear Zp
      clear Zbf
      clear HB
      have HO_6 := n0_
      have Zb := n1_
      have Zp := n2_
      have Zbf := n3_
      have HB := n4_
      have Zdt := n5_
      have Zdu := n6_
      have Zdv := n7_
      have Zdw := n8_
      have Zdx := n9_
      have Zdy := n10_
      have Zdz := n11_
      have Zea := n12_
      have Zeb := n13_
      clear n0_ n1_ n2_ n3_ n4_ n5_ n6_ n7_ n8_ n9_ n10_ n11_ n12_ n13_
      clear hb hbox hg
      refine hK.out _ _ ⟨(blk_cell Zbf.out 0).trans rfl, (blk_cell Zbf.out 1).trans rfl, (blk_cell Zbf.out 2).trans rfl, (blk_cell Zbf.out 3).trans rfl, HS4_, HS5_, HS6_, HS7_⟩ (fun hHeld => ?_)
      clear hK K
      refine norm_ (a' := ?_) ?_ ?_
      rotate_left
      · show Act.put _ (some 14) _ = _
        simp only [Act.put, List.setIfInBounds_toArray, List.set_cons_zero, List.set_cons_succ, i64_w, i32_w]
        rfl
      refine one_ (i := 5) (N := some 135) #[true, true, true, true, true, true, false, false, false, true, false, false] rfl rfl (one_of HT_.out (by kernel_rfl)) (by decide) (fun K hK => ?_)
      refine goes_ Try.func24 (by kernel_rfl) rfl #[.agg #[.int .i64 ((rd_T25 t372 x13_3).f0), .int .i64 ((rd_T25 t372 x13_3).f1), .int .i64 ((rd_T25 t372 x13_3).f2), .int .i64 ((rd_T25 t372 x13_3).f3)], .agg #[.int .i64 x386000_2, .int .i64 x386001_2, .int .i64 x386002_2, .int .i64 x386003_2]] (by rfl) rfl rfl (by (try simp only [List.map_toArray, List.map_cons, List.map_nil]); first | done | rfl | (simp only [List.length_drop, List.length_take]; rfl)) ?_
      with_reducible refine (impl_AddIntervals.calls kj118 ((rd_T25 t372 x13_3).f0) ((rd_T25 t372 x13_3).f1) ((rd_T25 t372 x13_3).f2) ((rd_T25 t372 x13_3).f3) x386000_2 x386001_2 x386002_2 x386003_2 t411 t412 t413 t414 true _ A127.out).mono ?_
      rintro e w147 ⟨rfl, hb⟩
      have HS4_ := (hb.cell (World.block_lt_of_cell? _ _ (hHeld.2.2.2.2.1))).trans (hHeld.2.2.2.2.1)
      have HS5_ := (hb.cell (World.block_lt_of_cell? _ _ (hHeld.2.2.2.2.2.1))).trans (hHeld.2.2.2.2.2.1)
      have HS6_ := (hb.cell (World.block_lt_of_cell? _ _ (hHeld.2.2.2.2.2.2.1))).trans (hHeld.2.2.2.2.2.2.1)
      have HS7_ := (hb.cell (World.block_lt_of_cell? _ _ (hHeld.2.2.2.2.2.2.2))).trans (hHeld.2.2.2.2.2.2.2)
      refine ⟨_, rfl, ?_⟩
      have n0_ := mA (Kd.R_below (by (with_reducible repeat (first | apply Kd.R_alloc | apply Kd.R_drewN | apply Kd.R_drew)); exact HO_6.out) hb)
      have n1_ := mA (blk_below (g := Za) (o := cQ25 x382000_2 x382001_2 x382002_2 x382003_2) Zb.out hb)
      have n2_ := mA (blk_below (g := Zn) (o := cQ25 x384000_2 x384001_2 x384002_2 x384003_2) Zp.out hb)
      have n3_ := mA (blk_below (g := Zbe) (o := cQ25 x386000_2 x386001_2 x386002_2 x386003_2) Zbf.out hb)
      have n4_ := mA (blk_below (g := Zds) (o := cQ25 0 0 0 0) Zdt.out hb)
      have n5_ := mA (below_step (by repeat (first | (with_reducible first | exact HB.out | apply below_alloc | apply pw_below_drewN | apply below_drew1 | refine below_set ?_ Zd.out | refine below_set ?_ Zr.out | refine below_set ?_ Zbh.out | refine below_set ?_ Zdv.out) | exact HB.out)) hb)
      clear HO_6
      clear Zb
      clear Zp
      clear Zbf
      clear Zdt
      clear HB
      have HO_6 := n0_
      have Zb := n1_
      have Zp := n2_
      have Zbf := n3_
      have Zdt := n4_
      have HB := n5_
      clear n0_ n1_ n2_ n3_ n4_ n5_
      (try clear hb)
      (try clear hb2)
      (try clear hk)
      (try clear hi)
      refine hK.out _ _ ⟨(blk_cell Zbf.out 0).trans rfl, (blk_cell Zbf.out 1).trans rfl, (blk_cell Zbf.out 2).trans rfl, (blk_cell Zbf.out 3).trans rfl, HS4_, HS5_, HS6_, HS7_⟩ (fun hHeld => ?_)
      clear hK K
      refine norm_ (a' := ?_) ?_ ?_
      rotate_left
      · show Act.put _ (some 135) _ = _
        simp only [Act.put, List.setIfInBounds_toArray, List.set_cons_zero, List.set_cons_succ, i64_w, i32_w]
        rfl
      refine pure_ (i := 6) (N := some 129) (v := ?_) (a' := ?_) #[true, true, true, true, true, true, true, false, false, true, false, false] rfl rfl (any_of HT_.out (by kernel_rfl)) (fun _ _ _ h => h) (Or.inl ⟨by rfl, ?_⟩) ?_ ?_
      rotate_left
      · intro w'
        go_simp
        with_reducible rfl
      rotate_left
      · simp only [Act.put, List.setIfInBounds_toArray, List.set_cons_zero, List.set_cons_succ, i64_w, i32_w]
        rfl
      refine pure_ (i := 7) (N := some 136) (v := ?_) (a' := ?_) #[true, true, true, true, true, true, true, true, false, true, false, false] rfl rfl (any_of HT_.out (by kernel_rfl)) (fun _ _ _ h => h) (Or.inl ⟨by rfl, ?_⟩) ?_ ?_
      rotate_left
      · intro w'
        go_simp
        with_reducible rfl
      rotate_left
      · simp only [Act.put, List.setIfInBounds_toArray, List.set_cons_zero, List.set_cons_succ, i64_w, i32_w]
        rfl
      refine pure_ (i := 8) (N := some 137) (v := ?_) (a' := ?_) #[true, true, true, true, true, true, true, true, true, true, false, false] rfl rfl (any_of HT_.out (by kernel_rfl)) (fun _ _ _ h => h) (Or.inl ⟨by rfl, ?_⟩) ?_ ?_
      rotate_left
      · intro w'
        go_simp
        with_reducible rfl
      rotate_left
      · simp only [Act.put, List.setIfInBounds_toArray, List.set_cons_zero, List.set_cons_succ, i64_w, i32_w]
        rfl
      exact norm_ (by simp only [putAll, Act.put, List.setIfInBounds_toArray, List.set_cons_zero, List.set_cons_succ]) (hCont (Zds) _ ⟨hHeld, (by (with_reducible repeat (first | apply Kd.R_alloc | apply Kd.R_drewN | apply Kd.R_drew)); exact Kd.R_mono HO_6.out (fun _ hk => ⟨hk.1.1, ⟨hk.1.2.1, ⟨hk.1.2.2, hk.2⟩⟩⟩)), Zb.out, Zp.out, Zbf.out, Zdt.out, Zdu.out, Zdv.out, Zdw.out, Zdx.out, Zdy.out, Zdz.out, Zea.out, Zeb.out, (by repeat (first | (with_reducible first | exact HB.out | apply below_alloc | apply pw_below_drewN | apply below_drew1 | refine below_set ?_ Zd.out | refine below_set ?_ Zr.out | refine below_set ?_ Zbh.out | refine below_set ?_ Zdv.out) | exact HB.out))⟩)
  rintro Zds w148 ⟨hS_, h0_, h1_, h2_, h3_, h4_, h5_, h6_, h7_, h8_, h9_, h10_, h11_, h12_, h13_⟩
  have n0_ : Aside0 (Kd.R k25 25 w148 w.heap.size (fun k_ => k_ ≠ Za ∧ k_ ≠ Zn ∧ k_ ≠ Zbe ∧ k_ ≠ Zds) (.slice (some ad382) t372.length co29) t372) := ⟨h0_⟩
  have n1_ : Aside0 (w148.heap[Za]? = some (.cells #[.int .i64 x382000_2, .int .i64 x382001_2, .int .i64 x382002_2, .int .i64 x382003_2] 25 (0, 0))) := ⟨h1_⟩
  have n2_ : Aside0 (w148.heap[Zn]? = some (.cells #[.int .i64 x384000_2, .int .i64 x384001_2, .int .i64 x384002_2, .int .i64 x384003_2] 25 (0, 0))) := ⟨h2_⟩
  have n3_ : Aside0 (w148.heap[Zbe]? = some (.cells #[.int .i64 x386000_2, .int .i64 x386001_2, .int .i64 x386002_2, .int .i64 x386003_2] 25 (0, 0))) := ⟨h3_⟩
  have n4_ : Aside0 (w148.heap[Zds]? = some (.cells #[.int .i64 0, .int .i64 0, .int .i64 0, .int .i64 0] 25 (0, 0))) := ⟨h4_⟩
  have n5_ : Aside0 (w.heap.size ≤ Zds) := ⟨h5_⟩
  have n6_ : Aside0 (w.heap.size ≤ Zds) := ⟨h6_⟩
  have n7_ : Aside0 (Za ≠ Zds) := ⟨h7_⟩
  have n8_ : Aside0 (Zds ≠ Za) := ⟨h8_⟩
  have n9_ : Aside0 (Zn ≠ Zds) := ⟨h9_⟩
  have n10_ : Aside0 (Zds ≠ Zn) := ⟨h10_⟩
  have n11_ : Aside0 (Zbe ≠ Zds) := ⟨h11_⟩
  have n12_ : Aside0 (Zds ≠ Zbe) := ⟨h12_⟩
  have n13_ : Aside0 (Below w.heap.size w w148) := ⟨h13_⟩
  clear HO_6
  clear Zb
  clear Zp
  clear Zbf
  clear HB
  clear h0_ h1_ h2_ h3_ h4_ h5_ h6_ h7_ h8_ h9_ h10_ h11_ h12_ h13_
  have HO_6 := n0_
  have Zb := n1_
  have Zp := n2_
  have Zbf := n3_
  have Zdt := n4_
  have Zdu := n5_
  have Zdv := n6_
  have Zdw := n7_
  have Zdx := n8_
  have Zdy := n9_
  have Zdz := n10_
  have Zea := n11_
  have Zeb := n12_
  have HB := n13_
  clear n0_ n1_ n2_ n3_ n4_ n5_ n6_ n7_ n8_ n9_ n10_ n11_ n12_ n13_
  have hHeld : w148.cell? ⟨Zbe, 0, none⟩ = some (.int .i64 x386000_2) ∧ w148.cell? ⟨Zbe, 1, none⟩ = some (.int .i64 x386001_2) ∧ w148.cell? ⟨Zbe, 2, none⟩ = some (.int .i64 x386002_2) ∧ w148.cell? ⟨Zbe, 3, none⟩ = some (.int .i64 x386003_2) ∧ w148.cell? (ad382.add ((x13_3).toNat * 4)) = some (.int .i64 ((rd_T25 t372 x13_3).f0)) ∧ w148.cell? ⟨(ad382.add ((x13_3).toNat * 4)).block, (ad382.add ((x13_3).toNat * 4)).off + 1, none⟩ = some (.int .i64 ((rd_T25 t372 x13_3).f1)) ∧ w148.cell? ⟨(ad382.add ((x13_3).toNat * 4)).block, (ad382.add ((x13_3).toNat * 4)).off + 2, none⟩ = some (.int .i64 ((rd_T25 t372 x13_3).f2)) ∧ w148.cell? ⟨(ad382.add ((x13_3).toNat * 4)).block, (ad382.add ((x13_3).toNat * 4)).off + 3, none⟩ = some (.int .i64 ((rd_T25 t372 x13_3).f3)) := hS_
  refine norm_ (a' := ?_) ?_ ?_
  rotate_left
  · simp only [putAll, Act.put, List.setIfInBounds_toArray, List.set_cons_zero, List.set_cons_succ]
    rfl
  refine one_ (i := 10) (N := none) #[true, true, true, true, true, true, true, true, true, true, true, false] rfl rfl (one_of HT_.out (by kernel_rfl)) (by decide) (fun K hK => ?_)
  have Zec : w148.cell? ⟨Zds, 0, none⟩ = some (.int .i64 0) := (blk_cell Zdt.out 0).trans rfl
  have Zed := blk_frozen Zdt.out 0
  have Zee := Zdw.out
  have Zef := Zdy.out
  have Zeg := Zea.out
  have Zeh := Zdx.out
  have Zei := Zdz.out
  have Zej := Zeb.out
  have Zek : w148.cell? ⟨Zds, 1, none⟩ = some (.int .i64 0) := (blk_cell Zdt.out 1).trans rfl
  have Zem := blk_frozen Zdt.out 1
  have Zen := Zdw.out
  have Zep := Zdy.out
  have Zeq := Zea.out
  have Zer := Zdx.out
  have Zes := Zdz.out
  have Zet := Zeb.out
  have Zeu : w148.cell? ⟨Zds, 2, none⟩ = some (.int .i64 0) := (blk_cell Zdt.out 2).trans rfl
  have Zev := blk_frozen Zdt.out 2
  have Zew := Zdw.out
  have Zex := Zdy.out
  have Zey := Zea.out
  have Zez := Zdx.out
  have Zfa := Zdz.out
  have Zfb := Zeb.out
  have Zfc : w148.cell? ⟨Zds, 3, none⟩ = some (.int .i64 0) := (blk_cell Zdt.out 3).trans rfl
  have Zfd := blk_frozen Zdt.out 3
  have Zfe := Zdw.out
  have Zff := Zdy.out
  have Zfg := Zea.out
  have Zfh := Zdx.out
  have Zfi := Zdz.out
  have Zfj := Zeb.out
  refine skip_ (w1 := ?_) (by rfl) rfl ?_ ?_
  rotate_left
  · go_simp
    rfl
  refine hK.out _ _ ⟨((cell_far (p := ⟨Zds, _, none⟩) Zea.out _).trans (((cell_far (p := ⟨Zds, _, none⟩) Zea.out _).trans (((cell_far (p := ⟨Zds, _, none⟩) Zea.out _).trans (((cell_far (p := ⟨Zds, _, none⟩) Zea.out _).trans (hHeld.1)))))))), ((cell_far (p := ⟨Zds, _, none⟩) Zea.out _).trans (((cell_far (p := ⟨Zds, _, none⟩) Zea.out _).trans (((cell_far (p := ⟨Zds, _, none⟩) Zea.out _).trans (((cell_far (p := ⟨Zds, _, none⟩) Zea.out _).trans (hHeld.2.1)))))))), ((cell_far (p := ⟨Zds, _, none⟩) Zea.out _).trans (((cell_far (p := ⟨Zds, _, none⟩) Zea.out _).trans (((cell_far (p := ⟨Zds, _, none⟩) Zea.out _).trans (((cell_far (p := ⟨Zds, _, none⟩) Zea.out _).trans (hHeld.2.2.1)))))))), ((cell_far (p := ⟨Zds, _, none⟩) Zea.out _).trans (((cell_far (p := ⟨Zds, _, none⟩) Zea.out _).trans (((cell_far (p := ⟨Zds, _, none⟩) Zea.out _).trans (((cell_far (p := ⟨Zds, _, none⟩) Zea.out _).trans (hHeld.2.2.2.1)))))))), ((cell_far (p := ⟨Zds, _, none⟩) (by first | exact Kd.own_blk (Kd.R_away HO_6.out (fun _ hk => hk.2.2.2)) | (rw [add_block]; exact Kd.own_blk (Kd.R_away HO_6.out (fun _ hk => hk.2.2.2))) | (show (Addr.add _ _).block ≠ _; rw [add_block]; exact Kd.own_blk (Kd.R_away HO_6.out (fun _ hk => hk.2.2.2))) | (dsimp only; exact Kd.own_blk (Kd.R_away HO_6.out (fun _ hk => hk.2.2.2)))) _).trans (((cell_far (p := ⟨Zds, _, none⟩) (by first | exact Kd.own_blk (Kd.R_away HO_6.out (fun _ hk => hk.2.2.2)) | (rw [add_block]; exact Kd.own_blk (Kd.R_away HO_6.out (fun _ hk => hk.2.2.2))) | (show (Addr.add _ _).block ≠ _; rw [add_block]; exact Kd.own_blk (Kd.R_away HO_6.out (fun _ hk => hk.2.2.2))) | (dsimp only; exact Kd.own_blk (Kd.R_away HO_6.out (fun _ hk => hk.2.2.2)))) _).trans (((cell_far (p := ⟨Zds, _, none⟩) (by first | exact Kd.own_blk (Kd.R_away HO_6.out (fun _ hk => hk.2.2.2)) | (rw [add_block]; exact Kd.own_blk (Kd.R_away HO_6.out (fun _ hk => hk.2.2.2))) | (show (Addr.add _ _).block ≠ _; rw [add_block]; exact Kd.own_blk (Kd.R_away HO_6.out (fun _ hk => hk.2.2.2))) | (dsimp only; exact Kd.own_blk (Kd.R_away HO_6.out (fun _ hk => hk.2.2.2)))) _).trans (((cell_far (p := ⟨Zds, _, none⟩) (by first | exact Kd.own_blk (Kd.R_away HO_6.out (fun _ hk => hk.2.2.2)) | (rw [add_block]; exact Kd.own_blk (Kd.R_away HO_6.out (fun _ hk => hk.2.2.2))) | (show (Addr.add _ _).block ≠ _; rw [add_block]; exact Kd.own_blk (Kd.R_away HO_6.out (fun _ hk => hk.2.2.2))) | (dsimp only; exact Kd.own_blk (Kd.R_away HO_6.out (fun _ hk => hk.2.2.2)))) _).trans (hHeld.2.2.2.2.1)))))))), ((cell_far (p := ⟨Zds, _, none⟩) (by first | exact Kd.own_blk (Kd.R_away HO_6.out (fun _ hk => hk.2.2.2)) | (rw [add_block]; exact Kd.own_blk (Kd.R_away HO_6.out (fun _ hk => hk.2.2.2))) | (show (Addr.add _ _).block ≠ _; rw [add_block]; exact Kd.own_blk (Kd.R_away HO_6.out (fun _ hk => hk.2.2.2))) | (dsimp only; exact Kd.own_blk (Kd.R_away HO_6.out (fun _ hk => hk.2.2.2)))) _).trans (((cell_far (p := ⟨Zds, _, none⟩) (by first | exact Kd.own_blk (Kd.R_away HO_6.out (fun _ hk => hk.2.2.2)) | (rw [add_block]; exact Kd.own_blk (Kd.R_away HO_6.out (fun _ hk => hk.2.2.2))) | (show (Addr.add _ _).block ≠ _; rw [add_block]; exact Kd.own_blk (Kd.R_away HO_6.out (fun _ hk => hk.2.2.2))) | (dsimp only; exact Kd.own_blk (Kd.R_away HO_6.out (fun _ hk => hk.2.2.2)))) _).trans (((cell_far (p := ⟨Zds, _, none⟩) (by first | exact Kd.own_blk (Kd.R_away HO_6.out (fun _ hk => hk.2.2.2)) | (rw [add_block]; exact Kd.own_blk (Kd.R_away HO_6.out (fun _ hk => hk.2.2.2))) | (show (Addr.add _ _).block ≠ _; rw [add_block]; exact Kd.own_blk (Kd.R_away HO_6.out (fun _ hk => hk.2.2.2))) | (dsimp only; exact Kd.own_blk (Kd.R_away HO_6.out (fun _ hk => hk.2.2.2)))) _).trans (((cell_far (p := ⟨Zds, _, none⟩) (by first | exact Kd.own_blk (Kd.R_away HO_6.out (fun _ hk => hk.2.2.2)) | (rw [add_block]; exact Kd.own_blk (Kd.R_away HO_6.out (fun _ hk => hk.2.2.2))) | (show (Addr.add _ _).block ≠ _; rw [add_block]; exact Kd.own_blk (Kd.R_away HO_6.out (fun _ hk => hk.2.2.2))) | (dsimp only; exact Kd.own_blk (Kd.R_away HO_6.out (fun _ hk => hk.2.2.2)))) _).trans (hHeld.2.2.2.2.2.1)))))))), ((cell_far (p := ⟨Zds, _, none⟩) (by first | exact Kd.own_blk (Kd.R_away HO_6.out (fun _ hk => hk.2.2.2)) | (rw [add_block]; exact Kd.own_blk (Kd.R_away HO_6.out (fun _ hk => hk.2.2.2))) | (show (Addr.add _ _).block ≠ _; rw [add_block]; exact Kd.own_blk (Kd.R_away HO_6.out (fun _ hk => hk.2.2.2))) | (dsimp only; exact Kd.own_blk (Kd.R_away HO_6.out (fun _ hk => hk.2.2.2)))) _).trans (((cell_far (p := ⟨Zds, _, none⟩) (by first | exact Kd.own_blk (Kd.R_away HO_6.out (fun _ hk => hk.2.2.2)) | (rw [add_block]; exact Kd.own_blk (Kd.R_away HO_6.out (fun _ hk => hk.2.2.2))) | (show (Addr.add _ _).block ≠ _; rw [add_block]; exact Kd.own_blk (Kd.R_away HO_6.out (fun _ hk => hk.2.2.2))) | (dsimp only; exact Kd.own_blk (Kd.R_away HO_6.out (fun _ hk => hk.2.2.2)))) _).trans (((cell_far (p := ⟨Zds, _, none⟩) (by first | exact Kd.own_blk (Kd.R_away HO_6.out (fun _ hk => hk.2.2.2)) | (rw [add_block]; exact Kd.own_blk (Kd.R_away HO_6.out (fun _ hk => hk.2.2.2))) | (show (Addr.add _ _).block ≠ _; rw [add_block]; exact Kd.own_blk (Kd.R_away HO_6.out (fun _ hk => hk.2.2.2))) | (dsimp only; exact Kd.own_blk (Kd.R_away HO_6.out (fun _ hk => hk.2.2.2)))) _).trans (((cell_far (p := ⟨Zds, _, none⟩) (by first | exact Kd.own_blk (Kd.R_away HO_6.out (fun _ hk => hk.2.2.2)) | (rw [add_block]; exact Kd.own_blk (Kd.R_away HO_6.out (fun _ hk => hk.2.2.2))) | (show (Addr.add _ _).block ≠ _; rw [add_block]; exact Kd.own_blk (Kd.R_away HO_6.out (fun _ hk => hk.2.2.2))) | (dsimp only; exact Kd.own_blk (Kd.R_away HO_6.out (fun _ hk => hk.2.2.2)))) _).trans (hHeld.2.2.2.2.2.2.1)))))))), ((cell_far (p := ⟨Zds, _, none⟩) (by first | exact Kd.own_blk (Kd.R_away HO_6.out (fun _ hk => hk.2.2.2)) | (rw [add_block]; exact Kd.own_blk (Kd.R_away HO_6.out (fun _ hk => hk.2.2.2))) | (show (Addr.add _ _).block ≠ _; rw [add_block]; exact Kd.own_blk (Kd.R_away HO_6.out (fun _ hk => hk.2.2.2))) | (dsimp only; exact Kd.own_blk (Kd.R_away HO_6.out (fun _ hk => hk.2.2.2)))) _).trans (((cell_far (p := ⟨Zds, _, none⟩) (by first | exact Kd.own_blk (Kd.R_away HO_6.out (fun _ hk => hk.2.2.2)) | (rw [add_block]; exact Kd.own_blk (Kd.R_away HO_6.out (fun _ hk => hk.2.2.2))) | (show (Addr.add _ _).block ≠ _; rw [add_block]; exact Kd.own_blk (Kd.R_away HO_6.out (fun _ hk => hk.2.2.2))) | (dsimp only; exact Kd.own_blk (Kd.R_away HO_6.out (fun _ hk => hk.2.2.2)))) _).trans (((cell_far (p := ⟨Zds, _, none⟩) (by first | exact Kd.own_blk (Kd.R_away HO_6.out (fun _ hk => hk.2.2.2)) | (rw [add_block]; exact Kd.own_blk (Kd.R_away HO_6.out (fun _ hk => hk.2.2.2))) | (show (Addr.add _ _).block ≠ _; rw [add_block]; exact Kd.own_blk (Kd.R_away HO_6.out (fun _ hk => hk.2.2.2))) | (dsimp only; exact Kd.own_blk (Kd.R_away HO_6.out (fun _ hk => hk.2.2.2)))) _).trans (((cell_far (p := ⟨Zds, _, none⟩) (by first | exact Kd.own_blk (Kd.R_away HO_6.out (fun _ hk => hk.2.2.2)) | (rw [add_block]; exact Kd.own_blk (Kd.R_away HO_6.out (fun _ hk => hk.2.2.2))) | (show (Addr.add _ _).block ≠ _; rw [add_block]; exact Kd.own_blk (Kd.R_away HO_6.out (fun _ hk => hk.2.2.2))) | (dsimp only; exact Kd.own_blk (Kd.R_away HO_6.out (fun _ hk => hk.2.2.2)))) _).trans (hHeld.2.2.2.2.2.2.2))))))))⟩ (fun hHeld => ?_)
  clear hK K
  refine pure_ (i := 11) (N := some 15) (v := ?_) (a' := ?_) #[true, true, true, true, true, true, true, true, true, true, true, true] rfl rfl (any_of HT_.out (by kernel_rfl)) (fun _ _ _ h => h) (Or.inl ⟨by rfl, ?_⟩) ?_ ?_
  rotate_left
  · intro w'
    go_simp
    with_reducible rfl
  rotate_left
  · simp only [Act.put, List.setIfInBounds_toArray, List.set_cons_zero, List.set_cons_succ, i64_w, i32_w]
    rfl
  refine done_ (done_of HT_.out (by kernel_rfl)) ?_
  have Zfk := Zdx.out
  have Zfm := Zdw.out
  have Zfn := Zdz.out
  have Zfp := Zdy.out
  have Zfq := Zeb.out
  have Zfr := Zea.out
  have Zfs : w148.cell? ⟨Zds, 0, none⟩ = some (.int .i64 0) := (blk_cell Zdt.out 0).trans rfl
  have Zft : w148.cell? ⟨Zds, 1, none⟩ = some (.int .i64 0) := (blk_cell Zdt.out 1).trans rfl
  have Zfu : w148.cell? ⟨Zds, 2, none⟩ = some (.int .i64 0) := (blk_cell Zdt.out 2).trans rfl
  have Zfv : w148.cell? ⟨Zds, 3, none⟩ = some (.int .i64 0) := (blk_cell Zdt.out 3).trans rfl
  have Zfw := blk_frozen Zdt.out 0
  have Zfx := blk_frozen Zdt.out 1
  have Zfy := blk_frozen Zdt.out 2
  have Zfz := blk_frozen Zdt.out 3
  have Zga := Zt.out
  have Zgb := Zs.out
  have Zgc := Zbk.out
  have Zgd := Zbm.out
  have Zge : w148.cell? ⟨Zn, 0, none⟩ = some (.int .i64 x384000_2) := (blk_cell Zp.out 0).trans rfl
  have Zgf : w148.cell? ⟨Zn, 1, none⟩ = some (.int .i64 x384001_2) := (blk_cell Zp.out 1).trans rfl
  have Zgg : w148.cell? ⟨Zn, 2, none⟩ = some (.int .i64 x384002_2) := (blk_cell Zp.out 2).trans rfl
  have Zgh : w148.cell? ⟨Zn, 3, none⟩ = some (.int .i64 x384003_2) := (blk_cell Zp.out 3).trans rfl
  have Zgi := blk_frozen Zp.out 0
  have Zgj := blk_frozen Zp.out 1
  have Zgk := blk_frozen Zp.out 2
  have Zgm := blk_frozen Zp.out 3
  try go_wp2
  go_roundg kj118
  case measure => have := HJ7.out; have := HK2.out; have := HK3.out; have := HJ118.out; omega
  case rel => exact ⟨(wrap64 (x13_3 + 1)), (by first | rfl | (simp; done) | (simp [*]; done)), H', ⟨by have := HJ7.out; have := HK2.out; have := HK3.out; have := HJ118.out; omega⟩, ⟨by (with_reducible repeat (first | apply Kd.R_alloc | apply Kd.R_drewN | apply Kd.R_drew)); exact Kd.R_mono (Kd.R_far (p := ⟨Zds, 3, none⟩) (Kd.R_far (p := ⟨Zds, 2, none⟩) (Kd.R_far (p := ⟨Zds, 1, none⟩) (Kd.R_far (p := ⟨Zds, 0, none⟩) (Kd.R_mono HO_6.out (fun k_ hk => (⟨hk, hk.2.2.2⟩ : _ ∧ k_ ≠ Zds))) (fun _ hk => hk.2) (.int .i64 t411)) (fun _ hk => hk.2) (.int .i64 t412)) (fun _ hk => hk.2) (.int .i64 t413)) (fun _ hk => hk.2) (.int .i64 t414)) (fun _ hk => ⟨hk.1.1, ⟨hk.1.2.1, hk.1.2.2.1⟩⟩)⟩, ⟨by (with_reducible repeat (first | refine blk_drewN ?_ _ | refine blk_drew ?_ | refine blk_alloc ?_ _)); refine far4 ?_ Zdw.out _ _ _ _; (with_reducible repeat (first | refine blk_drewN ?_ _ | refine blk_drew ?_ | refine blk_alloc ?_ _)); exact Zb.out⟩, ⟨by (with_reducible repeat (first | refine blk_drewN ?_ _ | refine blk_drew ?_ | refine blk_alloc ?_ _)); refine far4 ?_ Zdy.out _ _ _ _; (with_reducible repeat (first | refine blk_drewN ?_ _ | refine blk_drew ?_ | refine blk_alloc ?_ _)); exact Zp.out⟩, ⟨by (with_reducible repeat (first | refine blk_drewN ?_ _ | refine blk_drew ?_ | refine blk_alloc ?_ _)); refine far4 ?_ Zea.out _ _ _ _; (with_reducible repeat (first | refine blk_drewN ?_ _ | refine blk_drew ?_ | refine blk_alloc ?_ _)); exact Zbf.out⟩, ⟨by repeat (first | (with_reducible first | exact HB.out | apply below_alloc | apply pw_below_drewN | apply below_drew1 | refine below_set ?_ Zd.out | refine below_set ?_ Zr.out | refine below_set ?_ Zbh.out | refine below_set ?_ Zdv.out) | exact HB.out)⟩⟩
 rw [if_pos c37] at H
 have c37b0 : decide (x10_2 < (t372.length : Int)) = true := decide_eq_true c37
 clear c37
 by_cases c38 : 0 ≤ x10_2
 case neg =>
  rw [if_neg c38] at H
  exact absurd H (by simp)
 rw [if_pos c38] at H
 have c38b0 : decide (0 ≤ x10_2) = true := decide_eq_true c38
 clear c38
 replace H := Option.bind_eq_some_iff.mp H
 obtain ⟨⟨t387, t388, t389, t390, t391⟩, A390, H⟩ := H
 replace H : (if t391 = true then ((impl_SignOf.f k2 ((rd_T25 t372 x10_2).f0) ((rd_T25 t372 x10_2).f1) ((rd_T25 t372 x10_2).f2) ((rd_T25 t372 x10_2).f3)).bind fun t394 => (laws_FnThreeSteps.j2 k2 t372 x10_2 (decide (t394 ≤ 0)) x384000_2 x384001_2 x384002_2 x384003_2 x386000_2 x386001_2 x386002_2 x386003_2 t387 t388 t389 t390)) else (laws_FnThreeSteps.j2 k2 t372 x10_2 true x384000_2 x384001_2 x384002_2 x384003_2 x386000_2 x386001_2 x386002_2 x386003_2 t387 t388 t389 t390)) = some r := H
 have A39 := mA A390
 clear A390
 have HC40 := mA H
 clear H
 try go_wp2
 have n0_ := mA (Kd.R_drew HO_6.out)
 have n1_ := mA (blk_drew Zb.out)
 have n2_ := mA (blk_drew Zp.out)
 have n3_ := mA (blk_drew Zbf.out)
 have n4_ := mA (below_drew1 HB.out)
 clear HO_6
 clear Zb
 clear Zp
 clear Zbf
 clear HB
 have HO_6 := n0_
 have Zb := n1_
 have Zp := n2_
 have Zbf := n3_
 have HB := n4_
 clear n0_ n1_ n2_ n3_ n4_
 have p386 : 0 ≤ (x10_2 : Int) := of_decide_eq_true (by first | (with_reducible assumption) | assumption)
 have q386 : x10_2 < (t372.length : Int) := of_decide_eq_true (by first | (with_reducible assumption) | assumption)
 obtain ⟨ad386, e386, hx386_0, hx386_1, hx386_2, hx386_3⟩ := at_T25 (Kd.R_reads' HO_6.out).2.2 x10_2 p386 q386
 obtain rfl : ad382 = ad386 := (by injection e386)
 replace p386 := eq_true p386
 replace q386 := eq_true q386
 refine start_ (n := 12) (S := fun w' => w'.cell? ⟨Za, 0, none⟩ = some (.int .i64 x382000_2) ∧ w'.cell? ⟨Za, 1, none⟩ = some (.int .i64 x382001_2) ∧ w'.cell? ⟨Za, 2, none⟩ = some (.int .i64 x382002_2) ∧ w'.cell? ⟨Za, 3, none⟩ = some (.int .i64 x382003_2) ∧ w'.cell? (ad382.add ((x10_2).toNat * 4)) = some (.int .i64 ((rd_T25 t372 x10_2).f0)) ∧ w'.cell? ⟨(ad382.add ((x10_2).toNat * 4)).block, (ad382.add ((x10_2).toNat * 4)).off + 1, none⟩ = some (.int .i64 ((rd_T25 t372 x10_2).f1)) ∧ w'.cell? ⟨(ad382.add ((x10_2).toNat * 4)).block, (ad382.add ((x10_2).toNat * 4)).off + 2, none⟩ = some (.int .i64 ((rd_T25 t372 x10_2).f2)) ∧ w'.cell? ⟨(ad382.add ((x10_2).toNat * 4)).block, (ad382.add ((x10_2).toNat * 4)).off + 3, none⟩ = some (.int .i64 ((rd_T25 t372 x10_2).f3))) (ds := []) #[false, false, false, false, false, false, false, false, false, false, false, false] (by kernel_rfl) rfl rfl ⟨(blk_cell Zb.out 0).trans rfl, (blk_cell Zb.out 1).trans rfl, (blk_cell Zb.out 2).trans rfl, (blk_cell Zb.out 3).trans rfl, hx386_0, hx386_1, hx386_2, hx386_3⟩ (fun hHeld => ?_); refine with_tabW laws_FnThreeSteps.tab15 laws_FnThreeSteps.bits15 (fun HT_ HW_ => ?_)
 generalize wr.drew = w41 at HO_6 Zb Zp Zbf HB hx386_0 hx386_1 hx386_2 hx386_3 hHeld ⊢
 refine pure_ (i := 1) (N := some 69) (v := ?_) (a' := ?_) #[false, true, false, false, false, false, false, false, false, false, false, false] rfl rfl (any_of HT_.out (by kernel_rfl)) (fun _ _ _ h => h) (Or.inl ⟨by rfl, ?_⟩) ?_ ?_
 rotate_left
 · intro w'
   go_simp
   with_reducible rfl
 rotate_left
 · simp only [Act.put, List.setIfInBounds_toArray, List.set_cons_zero, List.set_cons_succ, i64_w, i32_w]
   rfl
 refine pure_ (i := 2) (N := some 70) (v := ?_) (a' := ?_) #[false, true, true, false, false, false, false, false, false, false, false, false] rfl rfl (any_of HT_.out (by kernel_rfl)) (fun _ _ _ h => h) (Or.inl ⟨by rfl, ?_⟩) ?_ ?_
 rotate_left
 · intro w'
   go_simp
   with_reducible rfl
 rotate_left
 · simp only [Act.put, List.setIfInBounds_toArray, List.set_cons_zero, List.set_cons_succ, i64_w, i32_w]
   rfl
 refine pure_ (i := 3) (N := some 71) (v := ?_) (a' := ?_) #[false, true, true, true, false, false, false, false, false, false, false, false] rfl rfl (any_of HT_.out (by kernel_rfl)) (fun _ _ _ h => h) (Or.inl ⟨by rfl, ?_⟩) ?_ ?_
 rotate_left
 · intro w'
   go_simp
   with_reducible rfl
 rotate_left
 · simp only [Act.put, List.setIfInBounds_toArray, List.set_cons_zero, List.set_cons_succ, i64_w, i32_w]
   rfl
 refine take_ (i := 0) (N := some 68) (v := ?_) (a' := ?_) #[true, true, true, true, false, false, false, false, false, false, false, false] rfl rfl (take_ofW HT_.out HW_.out (by kernel_rfl)) (fun _ _ _ h => h) (Or.inl ⟨by rfl, ?_⟩) hHeld ?_ ?_
 rotate_left
 · rintro w' ⟨s0, s1, s2, s3, s4, s5, s6, s7⟩
   go_simp
   with_reducible rfl
 rotate_left
 · simp only [Act.put, List.setIfInBounds_toArray, List.set_cons_zero, List.set_cons_succ, i64_w, i32_w]
   rfl
 refine take_ (i := 4) (N := some 72) (v := ?_) (a' := ?_) #[true, true, true, true, true, false, false, false, false, false, false, false] rfl rfl (take_ofW HT_.out HW_.out (by kernel_rfl)) (fun _ _ _ h => h) (Or.inl ⟨by rfl, ?_⟩) hHeld ?_ ?_
 rotate_left
 · rintro w' ⟨s0, s1, s2, s3, s4, s5, s6, s7⟩
   go_simp
   with_reducible rfl
 rotate_left
 · simp only [Act.put, List.setIfInBounds_toArray, List.set_cons_zero, List.set_cons_succ, i64_w, i32_w]
   rfl
 refine join_ (σ := Nat) 2 #[true, true, true, true, true, true, true, true, true, true, false, false] (fun s_ => [(73, .tuple #[.agg #[.int .i64 t387, .int .i64 t388, .int .i64 t389, .int .i64 t390], .bool t391]), (11, .pointer (some ⟨s_, 0, none⟩)), (67, .tuple #[.agg #[.int .i64 t387, .int .i64 t388, .int .i64 t389, .int .i64 t390], .bool t391]), (74, .agg #[.int .i64 t387, .int .i64 t388, .int .i64 t389, .int .i64 t390]), (75, .bool t391)]) (fun s_ w' => (w'.cell? ⟨Za, 0, none⟩ = some (.int .i64 x382000_2) ∧ w'.cell? ⟨Za, 1, none⟩ = some (.int .i64 x382001_2) ∧ w'.cell? ⟨Za, 2, none⟩ = some (.int .i64 x382002_2) ∧ w'.cell? ⟨Za, 3, none⟩ = some (.int .i64 x382003_2) ∧ w'.cell? (ad382.add ((x10_2).toNat * 4)) = some (.int .i64 ((rd_T25 t372 x10_2).f0)) ∧ w'.cell? ⟨(ad382.add ((x10_2).toNat * 4)).block, (ad382.add ((x10_2).toNat * 4)).off + 1, none⟩ = some (.int .i64 ((rd_T25 t372 x10_2).f1)) ∧ w'.cell? ⟨(ad382.add ((x10_2).toNat * 4)).block, (ad382.add ((x10_2).toNat * 4)).off + 2, none⟩ = some (.int .i64 ((rd_T25 t372 x10_2).f2)) ∧ w'.cell? ⟨(ad382.add ((x10_2).toNat * 4)).block, (ad382.add ((x10_2).toNat * 4)).off + 3, none⟩ = some (.int .i64 ((rd_T25 t372 x10_2).f3))) ∧ (Kd.R k25 25 w' w.heap.size (fun k_ => k_ ≠ Za ∧ k_ ≠ Zn ∧ k_ ≠ Zbe ∧ k_ ≠ s_) (.slice (some ad382) t372.length co29) t372) ∧ (w'.heap[Za]? = some (.cells #[.int .i64 x382000_2, .int .i64 x382001_2, .int .i64 x382002_2, .int .i64 x382003_2] 25 (0, 0))) ∧ (w'.heap[Zn]? = some (.cells #[.int .i64 x384000_2, .int .i64 x384001_2, .int .i64 x384002_2, .int .i64 x384003_2] 25 (0, 0))) ∧ (w'.heap[Zbe]? = some (.cells #[.int .i64 x386000_2, .int .i64 x386001_2, .int .i64 x386002_2, .int .i64 x386003_2] 25 (0, 0))) ∧ (w'.heap[s_]? = some (.cells #[.int .i64 0, .int .i64 0, .int .i64 0, .int .i64 0] 25 (0, 0))) ∧ (w.heap.size ≤ s_) ∧ (w.heap.size ≤ s_) ∧ (Za ≠ s_) ∧ (s_ ≠ Za) ∧ (Zn ≠ s_) ∧ (s_ ≠ Zn) ∧ (Zbe ≠ s_) ∧ (s_ ≠ Zbe) ∧ (Below w.heap.size w w')) ?_ ?_
 rotate_left
 · intro hCont
   refine two_ (i := 5) (j := 9) (Ni := some 73) (Nj := some 11) #[true, true, true, true, true, true, false, false, false, false, false, false] #[true, true, true, true, true, false, false, false, false, true, false, false] rfl rfl rfl rfl (two_of HT_.out (by kernel_rfl)) (by decide) (by decide) (fun K hK => ?_) (fun K hK => ?_)
   · skip
     refine goes_ Try.func24 (by kernel_rfl) rfl #[.agg #[.int .i64 x382000_2, .int .i64 x382001_2, .int .i64 x382002_2, .int .i64 x382003_2], .agg #[.int .i64 ((rd_T25 t372 x10_2).f0), .int .i64 ((rd_T25 t372 x10_2).f1), .int .i64 ((rd_T25 t372 x10_2).f2), .int .i64 ((rd_T25 t372 x10_2).f3)]] (by rfl) rfl rfl (by (try simp only [List.map_toArray, List.map_cons, List.map_nil]); first | done | rfl | (simp only [List.length_drop, List.length_take]; rfl)) ?_
     with_reducible refine (impl_AddIntervals.calls k2 x382000_2 x382001_2 x382002_2 x382003_2 ((rd_T25 t372 x10_2).f0) ((rd_T25 t372 x10_2).f1) ((rd_T25 t372 x10_2).f2) ((rd_T25 t372 x10_2).f3) t387 t388 t389 t390 t391 _ A39.out).mono ?_
     rintro e w42 ⟨rfl, hb⟩
     have HS4_ := (hb.cell (World.block_lt_of_cell? _ _ (hHeld.2.2.2.2.1))).trans (hHeld.2.2.2.2.1)
     have HS5_ := (hb.cell (World.block_lt_of_cell? _ _ (hHeld.2.2.2.2.2.1))).trans (hHeld.2.2.2.2.2.1)
     have HS6_ := (hb.cell (World.block_lt_of_cell? _ _ (hHeld.2.2.2.2.2.2.1))).trans (hHeld.2.2.2.2.2.2.1)
     have HS7_ := (hb.cell (World.block_lt_of_cell? _ _ (hHeld.2.2.2.2.2.2.2))).trans (hHeld.2.2.2.2.2.2.2)
     refine ⟨_, rfl, ?_⟩
     have n0_ := mA (Kd.R_below (by (with_reducible repeat (first | apply Kd.R_alloc | apply Kd.R_drewN | apply Kd.R_drew)); exact HO_6.out) hb)
     have n1_ := mA (blk_below (g := Za) (o := cQ25 x382000_2 x382001_2 x382002_2 x382003_2) Zb.out hb)
     have n2_ := mA (blk_below (g := Zn) (o := cQ25 x384000_2 x384001_2 x384002_2 x384003_2) Zp.out hb)
     have n3_ := mA (blk_below (g := Zbe) (o := cQ25 x386000_2 x386001_2 x386002_2 x386003_2) Zbf.out hb)
     have n4_ := mA (below_step (by repeat (first | (with_reducible first | exact HB.out | apply below_alloc | apply pw_below_drewN | apply below_drew1 | refine below_set ?_ Zd.out | refine below_set ?_ Zr.out | refine below_set ?_ Zbh.out) | exact HB.out)) hb)
     clear HO_6
     clear Zb
     clear Zp
     clear Zbf
     clear HB
     have HO_6 := n0_
     have Zb := n1_
     have Zp := n2_
     have Zbf := n3_
     have HB := n4_
     clear n0_ n1_ n2_ n3_ n4_
     (try clear hb)
     (try clear hb2)
     (try clear hk)
     (try clear hi)
     refine hK.out _ _ ⟨(blk_cell Zb.out 0).trans rfl, (blk_cell Zb.out 1).trans rfl, (blk_cell Zb.out 2).trans rfl, (blk_cell Zb.out 3).trans rfl, HS4_, HS5_, HS6_, HS7_⟩ (fun hHeld => ?_)
     clear hK K
     refine norm_ (a' := ?_) ?_ ?_
     rotate_left
     · show Act.put _ (some 73) _ = _
       simp only [Act.put, List.setIfInBounds_toArray, List.set_cons_zero, List.set_cons_succ, i64_w, i32_w]
       rfl
     refine pure_ (i := 6) (N := some 67) (v := ?_) (a' := ?_) #[true, true, true, true, true, true, true, false, false, false, false, false] rfl rfl (any_of HT_.out (by kernel_rfl)) (fun _ _ _ h => h) (Or.inl ⟨by rfl, ?_⟩) ?_ ?_
     rotate_left
     · intro w'
       go_simp
       with_reducible rfl
     rotate_left
     · simp only [Act.put, List.setIfInBounds_toArray, List.set_cons_zero, List.set_cons_succ, i64_w, i32_w]
       rfl
     refine pure_ (i := 7) (N := some 74) (v := ?_) (a' := ?_) #[true, true, true, true, true, true, true, true, false, false, false, false] rfl rfl (any_of HT_.out (by kernel_rfl)) (fun _ _ _ h => h) (Or.inl ⟨by rfl, ?_⟩) ?_ ?_
     rotate_left
     · intro w'
       go_simp
       with_reducible rfl
     rotate_left
     · simp only [Act.put, List.setIfInBounds_toArray, List.set_cons_zero, List.set_cons_succ, i64_w, i32_w]
       rfl
     refine pure_ (i := 8) (N := some 75) (v := ?_) (a' := ?_) #[true, true, true, true, true, true, true, true, true, false, false, false] rfl rfl (any_of HT_.out (by kernel_rfl)) (fun _ _ _ h => h) (Or.inl ⟨by rfl, ?_⟩) ?_ ?_
     rotate_left
     · intro w'
       go_simp
       with_reducible rfl
     rotate_left
     · simp only [Act.put, List.setIfInBounds_toArray, List.set_cons_zero, List.set_cons_succ, i64_w, i32_w]
       rfl
     refine one_ (i := 9) (N := some 11) #[true, true, true, true, true, true, true, true, true, true, false, false] rfl rfl (one_of HT_.out (by kernel_rfl)) (by decide) (fun K hK => ?_)
     refine box_step ?hg (N := 11) ?hd (cs := #[.int .i64 0, .int .i64 0, .int .i64 0, .int .i64 0]) (t := 25) ?hr ?_; (case hd => rfl); (case hg => rfl); (case hr => first | (go_simp; done) | (go_simp; rfl))
     intro Zgn hg w43 hbox hb
     have HS4_ := (hb.cell (World.block_lt_of_cell? _ _ (hHeld.2.2.2.2.1))).trans (hHeld.2.2.2.2.1)
     have HS5_ := (hb.cell (World.block_lt_of_cell? _ _ (hHeld.2.2.2.2.2.1))).trans (hHeld.2.2.2.2.2.1)
     have HS6_ := (hb.cell (World.block_lt_of_cell? _ _ (hHeld.2.2.2.2.2.2.1))).trans (hHeld.2.2.2.2.2.2.1)
     have HS7_ := (hb.cell (World.block_lt_of_cell? _ _ (hHeld.2.2.2.2.2.2.2))).trans (hHeld.2.2.2.2.2.2.2)
     have n0_ := mA (Kd.R_below (Kd.R_elderB (by (with_reducible repeat (first | apply Kd.R_alloc | apply Kd.R_drewN | apply Kd.R_drew)); exact HO_6.out) Zgn (Nat.le_of_eq hg.symm)) hb)
     have n1_ := mA (blk_below (g := Za) (o := cQ25 x382000_2 x382001_2 x382002_2 x382003_2) Zb.out hb)
     have n2_ := mA (blk_below (g := Zn) (o := cQ25 x384000_2 x384001_2 x384002_2 x384003_2) Zp.out hb)
     have n3_ := mA (blk_below (g := Zbe) (o := cQ25 x386000_2 x386001_2 x386002_2 x386003_2) Zbf.out hb)
     have n4_ := mA (below_step (by repeat (first | (with_reducible first | exact HB.out | apply below_alloc | apply pw_below_drewN | apply below_drew1 | refine below_set ?_ Zd.out | refine below_set ?_ Zr.out | refine below_set ?_ Zbh.out) | exact HB.out)) hb)
     have n5_ := mA (hbox)
     have n6_ := mA ((by rw [hg]; exact (below_size (by repeat (first | (with_reducible first | exact HB.out | apply below_alloc | apply pw_below_drewN | apply below_drew1 | refine below_set ?_ Zd.out | refine below_set ?_ Zr.out | refine below_set ?_ Zbh.out) | exact HB.out))) : w.heap.size ≤ Zgn))
     have n7_ := mA ((by rw [hg]; exact (below_size (by repeat (first | (with_reducible first | exact HB.out | apply below_alloc | apply pw_below_drewN | apply below_drew1 | refine below_set ?_ Zd.out | refine below_set ?_ Zr.out | refine below_set ?_ Zbh.out) | exact HB.out))) : w.heap.size ≤ Zgn))
     have n8_ := mA ((by rw [hg]; exact Nat.ne_of_lt (blk_lt (g := Za) (o := cQ25 x382000_2 x382001_2 x382002_2 x382003_2) Zb.out) : Za ≠ Zgn))
     have n9_ := mA ((by rw [hg]; exact Nat.ne_of_gt (blk_lt (g := Za) (o := cQ25 x382000_2 x382001_2 x382002_2 x382003_2) Zb.out) : Zgn ≠ Za))
     have n10_ := mA ((by rw [hg]; exact Nat.ne_of_lt (blk_lt (g := Zn) (o := cQ25 x384000_2 x384001_2 x384002_2 x384003_2) Zp.out) : Zn ≠ Zgn))
     have n11_ := mA ((by rw [hg]; exact Nat.ne_of_gt (blk_lt (g := Zn) (o := cQ25 x384000_2 x384001_2 x384002_2 x384003_2) Zp.out) : Zgn ≠ Zn))
     have n12_ := mA ((by rw [hg]; exact Nat.ne_of_lt (blk_lt (g := Zbe) (o := cQ25 x386000_2 x386001_2 x386002_2 x386003_2) Zbf.out) : Zbe ≠ Zgn))
     have n13_ := mA ((by rw [hg]; exact Nat.ne_of_gt (blk_lt (g := Zbe) (o := cQ25 x386000_2 x386001_2 x386002_2 x386003_2) Zbf.out) : Zgn ≠ Zbe))
     clear HO_6
     clear Zb
     clear Zp
     clear Zbf
     clear HB
     have HO_6 := n0_
     have Zb := n1_
     have Zp := n2_
     have Zbf := n3_
     have HB := n4_
     have Zgp := n5_
     have Zgq := n6_
     have Zgr := n7_
     have Zgs := n8_
     have Zgt := n9_
     have Zgu := n10_
     have Zgv := n11_
     have Zgw := n12_
     have Zgx := n13_
     clear n0_ n1_ n2_ n3_ n4_ n5_ n6_ n7_ n8_ n9_ n10_ n11_ n12_ n13_
     clear hb hbox hg
     refine hK.out _ _ ⟨(blk_cell Zb.out 0).trans rfl, (blk_cell Zb.out 1).trans rfl, (blk_cell Zb.out 2).trans rfl, (blk_cell Zb.out 3).trans rfl, HS4_, HS5_, HS6_, HS7_⟩ (fun hHeld => ?_)
     clear hK K
     refine norm_ (a' := ?_) ?_ ?_
     rotate_left
     · show Act.put _ (some 11) _ = _
       simp only [Act.put, List.setIfInBounds_toArray, List.set_cons_zero, List.set_cons_succ, i64_w, i32_w]
       rfl
     exact norm_ (by simp only [putAll, Act.put, List.setIfInBounds_toArray, List.set_cons_zero, List.set_cons_succ]) (hCont (Zgn) _ ⟨hHeld, (by (with_reducible repeat (first | apply Kd.R_alloc | apply Kd.R_drewN | apply Kd.R_drew)); exact Kd.R_mono HO_6.out (fun _ hk => ⟨hk.1.1, ⟨hk.1.2.1, ⟨hk.1.2.2, hk.2⟩⟩⟩)), Zb.out, Zp.out, Zbf.out, Zgp.out, Zgq.out, Zgr.out, Zgs.out, Zgt.out, Zgu.out, Zgv.out, Zgw.out, Zgx.out, (by repeat (first | (with_reducible first | exact HB.out | apply below_alloc | apply pw_below_drewN | apply below_drew1 | refine below_set ?_ Zd.out | refine below_set ?_ Zr.out | refine below_set ?_ Zbh.out | refine below_set ?_ Zgr.out) | exact HB.out))⟩)
   · skip
     refine box_step ?hg (N := 11) ?hd (cs := #[.int .i64 0, .int .i64 0, .int .i64 0, .int .i64 0]) (t := 25) ?hr ?_; (case hd => rfl); (case hg => rfl); (case hr => first | (go_simp; done) | (go_simp; rfl))
     intro Zgn hg w42 hbox hb
     have HS4_ := (hb.cell (World.block_lt_of_cell? _ _ (hHeld.2.2.2.2.1))).trans (hHeld.2.2.2.2.1)
     have HS5_ := (hb.cell (World.block_lt_of_cell? _ _ (hHeld.2.2.2.2.2.1))).trans (hHeld.2.2.2.2.2.1)
     have HS6_ := (hb.cell (World.block_lt_of_cell? _ _ (hHeld.2.2.2.2.2.2.1))).trans (hHeld.2.2.2.2.2.2.1)
     have HS7_ := (hb.cell (World.block_lt_of_cell? _ _ (hHeld.2.2.2.2.2.2.2))).trans (hHeld.2.2.2.2.2.2.2)
     have n0_ := mA (Kd.R_below (Kd.R_elderB (by (with_reducible repeat (first | apply Kd.R_alloc | apply Kd.R_drewN | apply Kd.R_drew)); exact HO_6.out) Zgn (Nat.le_of_eq hg.symm)) hb)
     have n1_ := mA (blk_below (g := Za) (o := cQ25 x382000_2 x382001_2 x382002_2 x382003_2) Zb.out hb)
     have n2_ := mA (blk_below (g := Zn) (o := cQ25 x384000_2 x384001_2 x384002_2 x384003_2) Zp.out hb)
     have n3_ := mA (blk_below (g := Zbe) (o := cQ25 x386000_2 x386001_2 x386002_2 x386003_2) Zbf.out hb)
     have n4_ := mA (below_step (by repeat (first | (with_reducible first | exact HB.out | apply below_alloc | apply pw_below_drewN | apply below_drew1 | refine below_set ?_ Zd.out | refine below_set ?_ Zr.out | refine below_set ?_ Zbh.out) | exact HB.out)) hb)
     have n5_ := mA (hbox)
     have n6_ := mA ((by rw [hg]; exact (below_size (by repeat (first | (with_reducible first | exact HB.out | apply below_alloc | apply pw_below_drewN | apply below_drew1 | refine below_set ?_ Zd.out | refine below_set ?_ Zr.out | refine below_set ?_ Zbh.out) | exact HB.out))) : w.heap.size ≤ Zgn))
     have n7_ := mA ((by rw [hg]; exact (below_size (by repeat (first | (with_reducible first | exact HB.out | apply below_alloc | apply pw_below_drewN | apply below_drew1 | refine below_set ?_ Zd.out | refine below_set ?_ Zr.out | refine below_set ?_ Zbh.out) | exact HB.out))) : w.heap.size ≤ Zgn))
     have n8_ := mA ((by rw [hg]; exact Nat.ne_of_lt (blk_lt (g := Za) (o := cQ25 x382000_2 x382001_2 x382002_2 x382003_2) Zb.out) : Za ≠ Zgn))
     have n9_ := mA ((by rw [hg]; exact Nat.ne_of_gt (blk_lt (g := Za) (o := cQ25 x382000_2 x382001_2 x382002_2 x382003_2) Zb.out) : Zgn ≠ Za))
     have n10_ := mA ((by rw [hg]; exact Nat.ne_of_lt (blk_lt (g := Zn) (o := cQ25 x384000_2 x384001_2 x384002_2 x384003_2) Zp.out) : Zn ≠ Zgn))
     have n11_ := mA ((by rw [hg]; exact Nat.ne_of_gt (blk_lt (g := Zn) (o := cQ25 x384000_2 x384001_2 x384002_2 x384003_2) Zp.out) : Zgn ≠ Zn))
     have n12_ := mA ((by rw [hg]; exact Nat.ne_of_lt (blk_lt (g := Zbe) (o := cQ25 x386000_2 x386001_2 x386002_2 x386003_2) Zbf.out) : Zbe ≠ Zgn))
     have n13_ := mA ((by rw [hg]; exact Nat.ne_of_gt (blk_lt (g := Zbe) (o := cQ25 x386000_2 x386001_2 x386002_2 x386003_2) Zbf.out) : Zgn ≠ Zbe))
     clear HO_6
     clear Zb
     clear Zp
     clear Zbf
     clear HB
     have HO_6 := n0_
     have Zb := n1_
     have Zp := n2_
     have Zbf := n3_
     have HB := n4_
     have Zgp := n5_
     have Zgq := n6_
     have Zgr := n7_
     have Zgs := n8_
     have Zgt := n9_
     have Zgu := n10_
     have Zgv := n11_
     have Zgw := n12_
     have Zgx := n13_
     clear n0_ n1_ n2_ n3_ n4_ n5_ n6_ n7_ n8_ n9_ n10_ n11_ n12_ n13_
     clear hb hbox hg
     refine hK.out _ _ ⟨(blk_cell Zb.out 0).trans rfl, (blk_cell Zb.out 1).trans rfl, (blk_cell Zb.out 2).trans rfl, (blk_cell Zb.out 3).trans rfl, HS4_, HS5_, HS6_, HS7_⟩ (fun hHeld => ?_)
     clear hK K
     refine norm_ (a' := ?_) ?_ ?_
     rotate_left
     · show Act.put _ (some 11) _ = _
       simp only [Act.put, List.setIfInBounds_toArray, List.set_cons_zero, List.set_cons_succ, i64_w, i32_w]
       rfl
     refine one_ (i := 5) (N := some 73) #[true, true, true, true, true, true, false, false, false, true, false, false] rfl rfl (one_of HT_.out (by kernel_rfl)) (by decide) (fun K hK => ?_)
     refine goes_ Try.func24 (by kernel_rfl) rfl #[.agg #[.int .i64 x382000_2, .int .i64 x382001_2, .int .i64 x382002_2, .int .i64 x382003_2], .agg #[.int .i64 ((rd_T25 t372 x10_2).f0), .int .i64 ((rd_T25 t372 x10_2).f1), .int .i64 ((rd_T25 t372 x10_2).f2), .int .i64 ((rd_T25 t372 x10_2).f3)]] (by rfl) rfl rfl (by (try simp only [List.map_toArray, List.map_cons, List.map_nil]); first | done | rfl | (simp only [List.length_drop, List.length_take]; rfl)) ?_
     with_reducible refine (impl_AddIntervals.calls k2 x382000_2 x382001_2 x382002_2 x382003_2 ((rd_T25 t372 x10_2).f0) ((rd_T25 t372 x10_2).f1) ((rd_T25 t372 x10_2).f2) ((rd_T25 t372 x10_2).f3) t387 t388 t389 t390 t391 _ A39.out).mono ?_
     rintro e w43 ⟨rfl, hb⟩
     have HS4_ := (hb.cell (World.block_lt_of_cell? _ _ (hHeld.2.2.2.2.1))).trans (hHeld.2.2.2.2.1)
     have HS5_ := (hb.cell (World.block_lt_of_cell? _ _ (hHeld.2.2.2.2.2.1))).trans (hHeld.2.2.2.2.2.1)
     have HS6_ := (hb.cell (World.block_lt_of_cell? _ _ (hHeld.2.2.2.2.2.2.1))).trans (hHeld.2.2.2.2.2.2.1)
     have HS7_ := (hb.cell (World.block_lt_of_cell? _ _ (hHeld.2.2.2.2.2.2.2))).trans (hHeld.2.2.2.2.2.2.2)
     refine ⟨_, rfl, ?_⟩
     have n0_ := mA (Kd.R_below (by (with_reducible repeat (first | apply Kd.R_alloc | apply Kd.R_drewN | apply Kd.R_drew)); exact HO_6.out) hb)
     have n1_ := mA (blk_below (g := Za) (o := cQ25 x382000_2 x382001_2 x382002_2 x382003_2) Zb.out hb)
     have n2_ := mA (blk_below (g := Zn) (o := cQ25 x384000_2 x384001_2 x384002_2 x384003_2) Zp.out hb)
     have n3_ := mA (blk_below (g := Zbe) (o := cQ25 x386000_2 x386001_2 x386002_2 x386003_2) Zbf.out hb)
     have n4_ := mA (blk_below (g := Zgn) (o := cQ25 0 0 0 0) Zgp.out hb)
     have n5_ := mA (below_step (by repeat (first | (with_reducible first | exact HB.out | apply below_alloc | apply pw_below_drewN | apply below_drew1 | refine below_set ?_ Zd.out | refine below_set ?_ Zr.out | refine below_set ?_ Zbh.out | refine below_set ?_ Zgr.out) | exact HB.out)) hb)
     clear HO_6
     clear Zb
     clear Zp
     clear Zbf
     clear Zgp
     clear HB
     have HO_6 := n0_
     have Zb := n1_
     have Zp := n2_
     have Zbf := n3_
     have Zgp := n4_
     have HB := n5_
     clear n0_ n1_ n2_ n3_ n4_ n5_
     (try clear hb)
     (try clear hb2)
     (try clear hk)
     (try clear hi)
     refine hK.out _ _ ⟨(blk_cell Zb.out 0).trans rfl, (blk_cell Zb.out 1).trans rfl, (blk_cell Zb.out 2).trans rfl, (blk_cell Zb.out 3).trans rfl, HS4_, HS5_, HS6_, HS7_⟩ (fun hHeld => ?_)
     clear hK K
     refine norm_ (a' := ?_) ?_ ?_
     rotate_left
     · show Act.put _ (some 73) _ = _
       simp only [Act.put, List.setIfInBounds_toArray, List.set_cons_zero, List.set_cons_succ, i64_w, i32_w]
       rfl
     refine pure_ (i := 6) (N := some 67) (v := ?_) (a' := ?_) #[true, true, true, true, true, true, true, false, false, true, false, false] rfl rfl (any_of HT_.out (by kernel_rfl)) (fun _ _ _ h => h) (Or.inl ⟨by rfl, ?_⟩) ?_ ?_
     rotate_left
     · intro w'
       go_simp
       with_reducible rfl
     rotate_left
     · simp only [Act.put, List.setIfInBounds_toArray, List.set_cons_zero, List.set_cons_succ, i64_w, i32_w]
       rfl
     refine pure_ (i := 7) (N := some 74) (v := ?_) (a' := ?_) #[true, true, true, true, true, true, true, true, false, true, false, false] rfl rfl (any_of HT_.out (by kernel_rfl)) (fun _ _ _ h => h) (Or.inl ⟨by rfl, ?_⟩) ?_ ?_
     rotate_left
     · intro w'
       go_simp
       with_reducible rfl
     rotate_left
     · simp only [Act.put, List.setIfInBounds_toArray, List.set_cons_zero, List.set_cons_succ, i64_w, i32_w]
       rfl
     refine pure_ (i := 8) (N := some 75) (v := ?_) (a' := ?_) #[true, true, true, true, true, true, true, true, true, true, false, false] rfl rfl (any_of HT_.out (by kernel_rfl)) (fun _ _ _ h => h) (Or.inl ⟨by rfl, ?_⟩) ?_ ?_
     rotate_left
     · intro w'
       go_simp
       with_reducible rfl
     rotate_left
     · simp only [Act.put, List.setIfInBounds_toArray, List.set_cons_zero, List.set_cons_succ, i64_w, i32_w]
       rfl
     exact norm_ (by simp only [putAll, Act.put, List.setIfInBounds_toArray, List.set_cons_zero, List.set_cons_succ]) (hCont (Zgn) _ ⟨hHeld, (by (with_reducible repeat (first | apply Kd.R_alloc | apply Kd.R_drewN | apply Kd.R_drew)); exact Kd.R_mono HO_6.out (fun _ hk => ⟨hk.1.1, ⟨hk.1.2.1, ⟨hk.1.2.2, hk.2⟩⟩⟩)), Zb.out, Zp.out, Zbf.out, Zgp.out, Zgq.out, Zgr.out, Zgs.out, Zgt.out, Zgu.out, Zgv.out, Zgw.out, Zgx.out, (by repeat (first | (with_reducible first | exact HB.out | apply below_alloc | apply pw_below_drewN | apply below_drew1 | refine below_set ?_ Zd.out | refine below_set ?_ Zr.out | refine below_set ?_ Zbh.out | refine below_set ?_ Zgr.out) | exact HB.out))⟩)
 rintro Zgn w44 ⟨hS_, h0_, h1_, h2_, h3_, h4_, h5_, h6_, h7_, h8_, h9_, h10_, h11_, h12_, h13_⟩
 have n0_ : Aside0 (Kd.R k25 25 w44 w.heap.size (fun k_ => k_ ≠ Za ∧ k_ ≠ Zn ∧ k_ ≠ Zbe ∧ k_ ≠ Zgn) (.slice (some ad382) t372.length co29) t372) := ⟨h0_⟩
 have n1_ : Aside0 (w44.heap[Za]? = some (.cells #[.int .i64 x382000_2, .int .i64 x382001_2, .int .i64 x382002_2, .int .i64 x382003_2] 25 (0, 0))) := ⟨h1_⟩
 have n2_ : Aside0 (w44.heap[Zn]? = some (.cells #[.int .i64 x384000_2, .int .i64 x384001_2, .int .i64 x384002_2, .int .i64 x384003_2] 25 (0, 0))) := ⟨h2_⟩
 have n3_ : Aside0 (w44.heap[Zbe]? = some (.cells #[.int .i64 x386000_2, .int .i64 x386001_2, .int .i64 x386002_2, .int .i64 x386003_2] 25 (0, 0))) := ⟨h3_⟩
 have n4_ : Aside0 (w44.heap[Zgn]? = some (.cells #[.int .i64 0, .int .i64 0, .int .i64 0, .int .i64 0] 25 (0, 0))) := ⟨h4_⟩
 have n5_ : Aside0 (w.heap.size ≤ Zgn) := ⟨h5_⟩
 have n6_ : Aside0 (w.heap.size ≤ Zgn) := ⟨h6_⟩
 have n7_ : Aside0 (Za ≠ Zgn) := ⟨h7_⟩
 have n8_ : Aside0 (Zgn ≠ Za) := ⟨h8_⟩
 have n9_ : Aside0 (Zn ≠ Zgn) := ⟨h9_⟩
 have n10_ : Aside0 (Zgn ≠ Zn) := ⟨h10_⟩
 have n11_ : Aside0 (Zbe ≠ Zgn) := ⟨h11_⟩
 have n12_ : Aside0 (Zgn ≠ Zbe) := ⟨h12_⟩
 have n13_ : Aside0 (Below w.heap.size w w44) := ⟨h13_⟩
 clear HO_6
 clear Zb
 clear Zp
 clear Zbf
 clear HB
 clear h0_ h1_ h2_ h3_ h4_ h5_ h6_ h7_ h8_ h9_ h10_ h11_ h12_ h13_
 have HO_6 := n0_
 have Zb := n1_
 have Zp := n2_
 have Zbf := n3_
 have Zgp := n4_
 have Zgq := n5_
 have Zgr := n6_
 have Zgs := n7_
 have Zgt := n8_
 have Zgu := n9_
 have Zgv := n10_
 have Zgw := n11_
 have Zgx := n12_
 have HB := n13_
 clear n0_ n1_ n2_ n3_ n4_ n5_ n6_ n7_ n8_ n9_ n10_ n11_ n12_ n13_
 have hHeld : w44.cell? ⟨Za, 0, none⟩ = some (.int .i64 x382000_2) ∧ w44.cell? ⟨Za, 1, none⟩ = some (.int .i64 x382001_2) ∧ w44.cell? ⟨Za, 2, none⟩ = some (.int .i64 x382002_2) ∧ w44.cell? ⟨Za, 3, none⟩ = some (.int .i64 x382003_2) ∧ w44.cell? (ad382.add ((x10_2).toNat * 4)) = some (.int .i64 ((rd_T25 t372 x10_2).f0)) ∧ w44.cell? ⟨(ad382.add ((x10_2).toNat * 4)).block, (ad382.add ((x10_2).toNat * 4)).off + 1, none⟩ = some (.int .i64 ((rd_T25 t372 x10_2).f1)) ∧ w44.cell? ⟨(ad382.add ((x10_2).toNat * 4)).block, (ad382.add ((x10_2).toNat * 4)).off + 2, none⟩ = some (.int .i64 ((rd_T25 t372 x10_2).f2)) ∧ w44.cell? ⟨(ad382.add ((x10_2).toNat * 4)).block, (ad382.add ((x10_2).toNat * 4)).off + 3, none⟩ = some (.int .i64 ((rd_T25 t372 x10_2).f3)) := hS_
 refine norm_ (a' := ?_) ?_ ?_
 rotate_left
 · simp only [putAll, Act.put, List.setIfInBounds_toArray, List.set_cons_zero, List.set_cons_succ]
   rfl
 refine one_ (i := 10) (N := none) #[true, true, true, true, true, true, true, true, true, true, true, false] rfl rfl (one_of HT_.out (by kernel_rfl)) (by decide) (fun K hK => ?_)
 have Zgy : w44.cell? ⟨Zgn, 0, none⟩ = some (.int .i64 0) := (blk_cell Zgp.out 0).trans rfl
 have Zgz := blk_frozen Zgp.out 0
 have Zha := Zgs.out
 have Zhb := Zgu.out
 have Zhc := Zgw.out
 have Zhd := Zgt.out
 have Zhe := Zgv.out
 have Zhf := Zgx.out
 have Zhg : w44.cell? ⟨Zgn, 1, none⟩ = some (.int .i64 0) := (blk_cell Zgp.out 1).trans rfl
 have Zhh := blk_frozen Zgp.out 1
 have Zhi := Zgs.out
 have Zhj := Zgu.out
 have Zhk := Zgw.out
 have Zhm := Zgt.out
 have Zhn := Zgv.out
 have Zhp := Zgx.out
 have Zhq : w44.cell? ⟨Zgn, 2, none⟩ = some (.int .i64 0) := (blk_cell Zgp.out 2).trans rfl
 have Zhr := blk_frozen Zgp.out 2
 have Zhs := Zgs.out
 have Zht := Zgu.out
 have Zhu := Zgw.out
 have Zhv := Zgt.out
 have Zhw := Zgv.out
 have Zhx := Zgx.out
 have Zhy : w44.cell? ⟨Zgn, 3, none⟩ = some (.int .i64 0) := (blk_cell Zgp.out 3).trans rfl
 have Zhz := blk_frozen Zgp.out 3
 have Zia := Zgs.out
 have Zib := Zgu.out
 have Zic := Zgw.out
 have Zid := Zgt.out
 have Zie := Zgv.out
 have Zif := Zgx.out
 refine skip_ (w1 := ?_) (by rfl) rfl ?_ ?_
 rotate_left
 · go_simp
   rfl
 refine hK.out _ _ ⟨((cell_far (p := ⟨Zgn, _, none⟩) Zgs.out _).trans (((cell_far (p := ⟨Zgn, _, none⟩) Zgs.out _).trans (((cell_far (p := ⟨Zgn, _, none⟩) Zgs.out _).trans (((cell_far (p := ⟨Zgn, _, none⟩) Zgs.out _).trans (hHeld.1)))))))), ((cell_far (p := ⟨Zgn, _, none⟩) Zgs.out _).trans (((cell_far (p := ⟨Zgn, _, none⟩) Zgs.out _).trans (((cell_far (p := ⟨Zgn, _, none⟩) Zgs.out _).trans (((cell_far (p := ⟨Zgn, _, none⟩) Zgs.out _).trans (hHeld.2.1)))))))), ((cell_far (p := ⟨Zgn, _, none⟩) Zgs.out _).trans (((cell_far (p := ⟨Zgn, _, none⟩) Zgs.out _).trans (((cell_far (p := ⟨Zgn, _, none⟩) Zgs.out _).trans (((cell_far (p := ⟨Zgn, _, none⟩) Zgs.out _).trans (hHeld.2.2.1)))))))), ((cell_far (p := ⟨Zgn, _, none⟩) Zgs.out _).trans (((cell_far (p := ⟨Zgn, _, none⟩) Zgs.out _).trans (((cell_far (p := ⟨Zgn, _, none⟩) Zgs.out _).trans (((cell_far (p := ⟨Zgn, _, none⟩) Zgs.out _).trans (hHeld.2.2.2.1)))))))), ((cell_far (p := ⟨Zgn, _, none⟩) (by first | exact Kd.own_blk (Kd.R_away HO_6.out (fun _ hk => hk.2.2.2)) | (rw [add_block]; exact Kd.own_blk (Kd.R_away HO_6.out (fun _ hk => hk.2.2.2))) | (show (Addr.add _ _).block ≠ _; rw [add_block]; exact Kd.own_blk (Kd.R_away HO_6.out (fun _ hk => hk.2.2.2))) | (dsimp only; exact Kd.own_blk (Kd.R_away HO_6.out (fun _ hk => hk.2.2.2)))) _).trans (((cell_far (p := ⟨Zgn, _, none⟩) (by first | exact Kd.own_blk (Kd.R_away HO_6.out (fun _ hk => hk.2.2.2)) | (rw [add_block]; exact Kd.own_blk (Kd.R_away HO_6.out (fun _ hk => hk.2.2.2))) | (show (Addr.add _ _).block ≠ _; rw [add_block]; exact Kd.own_blk (Kd.R_away HO_6.out (fun _ hk => hk.2.2.2))) | (dsimp only; exact Kd.own_blk (Kd.R_away HO_6.out (fun _ hk => hk.2.2.2)))) _).trans (((cell_far (p := ⟨Zgn, _, none⟩) (by first | exact Kd.own_blk (Kd.R_away HO_6.out (fun _ hk => hk.2.2.2)) | (rw [add_block]; exact Kd.own_blk (Kd.R_away HO_6.out (fun _ hk => hk.2.2.2))) | (show (Addr.add _ _).block ≠ _; rw [add_block]; exact Kd.own_blk (Kd.R_away HO_6.out (fun _ hk => hk.2.2.2))) | (dsimp only; exact Kd.own_blk (Kd.R_away HO_6.out (fun _ hk => hk.2.2.2)))) _).trans (((cell_far (p := ⟨Zgn, _, none⟩) (by first | exact Kd.own_blk (Kd.R_away HO_6.out (fun _ hk => hk.2.2.2)) | (rw [add_block]; exact Kd.own_blk (Kd.R_away HO_6.out (fun _ hk => hk.2.2.2))) | (show (Addr.add _ _).block ≠ _; rw [add_block]; exact Kd.own_blk (Kd.R_away HO_6.out (fun _ hk => hk.2.2.2))) | (dsimp only; exact Kd.own_blk (Kd.R_away HO_6.out (fun _ hk => hk.2.2.2)))) _).trans (hHeld.2.2.2.2.1)))))))), ((cell_far (p := ⟨Zgn, _, none⟩) (by first | exact Kd.own_blk (Kd.R_away HO_6.out (fun _ hk => hk.2.2.2)) | (rw [add_block]; exact Kd.own_blk (Kd.R_away HO_6.out (fun _ hk => hk.2.2.2))) | (show (Addr.add _ _).block ≠ _; rw [add_block]; exact Kd.own_blk (Kd.R_away HO_6.out (fun _ hk => hk.2.2.2))) | (dsimp only; exact Kd.own_blk (Kd.R_away HO_6.out (fun _ hk => hk.2.2.2)))) _).trans (((cell_far (p := ⟨Zgn, _, none⟩) (by first | exact Kd.own_blk (Kd.R_away HO_6.out (fun _ hk => hk.2.2.2)) | (rw [add_block]; exact Kd.own_blk (Kd.R_away HO_6.out (fun _ hk => hk.2.2.2))) | (show (Addr.add _ _).block ≠ _; rw [add_block]; exact Kd.own_blk (Kd.R_away HO_6.out (fun _ hk => hk.2.2.2))) | (dsimp only; exact Kd.own_blk (Kd.R_away HO_6.out (fun _ hk => hk.2.2.2)))) _).trans (((cell_far (p := ⟨Zgn, _, none⟩) (by first | exact Kd.own_blk (Kd.R_away HO_6.out (fun _ hk => hk.2.2.2)) | (rw [add_block]; exact Kd.own_blk (Kd.R_away HO_6.out (fun _ hk => hk.2.2.2))) | (show (Addr.add _ _).block ≠ _; rw [add_block]; exact Kd.own_blk (Kd.R_away HO_6.out (fun _ hk => hk.2.2.2))) | (dsimp only; exact Kd.own_blk (Kd.R_away HO_6.out (fun _ hk => hk.2.2.2)))) _).trans (((cell_far (p := ⟨Zgn, _, none⟩) (by first | exact Kd.own_blk (Kd.R_away HO_6.out (fun _ hk => hk.2.2.2)) | (rw [add_block]; exact Kd.own_blk (Kd.R_away HO_6.out (fun _ hk => hk.2.2.2))) | (show (Addr.add _ _).block ≠ _; rw [add_block]; exact Kd.own_blk (Kd.R_away HO_6.out (fun _ hk => hk.2.2.2))) | (dsimp only; exact Kd.own_blk (Kd.R_away HO_6.out (fun _ hk => hk.2.2.2)))) _).trans (hHeld.2.2.2.2.2.1)))))))), ((cell_far (p := ⟨Zgn, _, none⟩) (by first | exact Kd.own_blk (Kd.R_away HO_6.out (fun _ hk => hk.2.2.2)) | (rw [add_block]; exact Kd.own_blk (Kd.R_away HO_6.out (fun _ hk => hk.2.2.2))) | (show (Addr.add _ _).block ≠ _; rw [add_block]; exact Kd.own_blk (Kd.R_away HO_6.out (fun _ hk => hk.2.2.2))) | (dsimp only; exact Kd.own_blk (Kd.R_away HO_6.out (fun _ hk => hk.2.2.2)))) _).trans (((cell_far (p := ⟨Zgn, _, none⟩) (by first | exact Kd.own_blk (Kd.R_away HO_6.out (fun _ hk => hk.2.2.2)) | (rw [add_block]; exact Kd.own_blk (Kd.R_away HO_6.out (fun _ hk => hk.2.2.2))) | (show (Addr.add _ _).block ≠ _; rw [add_block]; exact Kd.own_blk (Kd.R_away HO_6.out (fun _ hk => hk.2.2.2))) | (dsimp only; exact Kd.own_blk (Kd.R_away HO_6.out (fun _ hk => hk.2.2.2)))) _).trans (((cell_far (p := ⟨Zgn, _, none⟩) (by first | exact Kd.own_blk (Kd.R_away HO_6.out (fun _ hk => hk.2.2.2)) | (rw [add_block]; exact Kd.own_blk (Kd.R_away HO_6.out (fun _ hk => hk.2.2.2))) | (show (Addr.add _ _).block ≠ _; rw [add_block]; exact Kd.own_blk (Kd.R_away HO_6.out (fun _ hk => hk.2.2.2))) | (dsimp only; exact Kd.own_blk (Kd.R_away HO_6.out (fun _ hk => hk.2.2.2)))) _).trans (((cell_far (p := ⟨Zgn, _, none⟩) (by first | exact Kd.own_blk (Kd.R_away HO_6.out (fun _ hk => hk.2.2.2)) | (rw [add_block]; exact Kd.own_blk (Kd.R_away HO_6.out (fun _ hk => hk.2.2.2))) | (show (Addr.add _ _).block ≠ _; rw [add_block]; exact Kd.own_blk (Kd.R_away HO_6.out (fun _ hk => hk.2.2.2))) | (dsimp only; exact Kd.own_blk (Kd.R_away HO_6.out (fun _ hk => hk.2.2.2)))) _).trans (hHeld.2.2.2.2.2.2.1)))))))), ((cell_far (p := ⟨Zgn, _, none⟩) (by first | exact Kd.own_blk (Kd.R_away HO_6.out (fun _ hk => hk.2.2.2)) | (rw [add_block]; exact Kd.own_blk (Kd.R_away HO_6.out (fun _ hk => hk.2.2.2))) | (show (Addr.add _ _).block ≠ _; rw [add_block]; exact Kd.own_blk (Kd.R_away HO_6.out (fun _ hk => hk.2.2.2))) | (dsimp only; exact Kd.own_blk (Kd.R_away HO_6.out (fun _ hk => hk.2.2.2)))) _).trans (((cell_far (p := ⟨Zgn, _, none⟩) (by first | exact Kd.own_blk (Kd.R_away HO_6.out (fun _ hk => hk.2.2.2)) | (rw [add_block]; exact Kd.own_blk (Kd.R_away HO_6.out (fun _ hk => hk.2.2.2))) | (show (Addr.add _ _).block ≠ _; rw [add_block]; exact Kd.own_blk (Kd.R_away HO_6.out (fun _ hk => hk.2.2.2))) | (dsimp only; exact Kd.own_blk (Kd.R_away HO_6.out (fun _ hk => hk.2.2.2)))) _).trans (((cell_far (p := ⟨Zgn, _, none⟩) (by first | exact Kd.own_blk (Kd.R_away HO_6.out (fun _ hk => hk.2.2.2)) | (rw [add_block]; exact Kd.own_blk (Kd.R_away HO_6.out (fun _ hk => hk.2.2.2))) | (show (Addr.add _ _).block ≠ _; rw [add_block]; exact Kd.own_blk (Kd.R_away HO_6.out (fun _ hk => hk.2.2.2))) | (dsimp only; exact Kd.own_blk (Kd.R_away HO_6.out (fun _ hk => hk.2.2.2)))) _).trans (((cell_far (p := ⟨Zgn, _, none⟩) (by first | exact Kd.own_blk (Kd.R_away HO_6.out (fun _ hk => hk.2.2.2)) | (rw [add_block]; exact Kd.own_blk (Kd.R_away HO_6.out (fun _ hk => hk.2.2.2))) | (show (Addr.add _ _).block ≠ _; rw [add_block]; exact Kd.own_blk (Kd.R_away HO_6.out (fun _ hk => hk.2.2.2))) | (dsimp only; exact Kd.own_blk (Kd.R_away HO_6.out (fun _ hk => hk.2.2.2)))) _).trans (hHeld.2.2.2.2.2.2.2))))))))⟩ (fun hHeld => ?_)
 clear hK K
 refine pure_ (i := 11) (N := some 12) (v := ?_) (a' := ?_) #[true, true, true, true, true, true, true, true, true, true, true, true] rfl rfl (any_of HT_.out (by kernel_rfl)) (fun _ _ _ h => h) (Or.inl ⟨by rfl, ?_⟩) ?_ ?_
 rotate_left
 · intro w'
   go_simp
   with_reducible rfl
 rotate_left
 · simp only [Act.put, List.setIfInBounds_toArray, List.set_cons_zero, List.set_cons_succ, i64_w, i32_w]
   rfl
 refine done_ (done_of HT_.out (by kernel_rfl)) ?_
 go_upto_region 16 with (fail)
 go_cut [85] (fun v85 wc => ∃ (kq : Nat) (x85_39 : Bool), v85 = .bool x85_39 ∧ Aside0 (laws_FnThreeSteps.j2 kq t372 x10_2 x85_39 x384000_2 x384001_2 x384002_2 x384003_2 x386000_2 x386001_2 x386002_2 x386003_2 t387 t388 t389 t390 = some r) ∧ Aside0 (kq ≤ k2) ∧ Aside0 (Kd.R k25 25 wc w.heap.size (fun k_ => k_ ≠ Za ∧ k_ ≠ Zn ∧ k_ ≠ Zbe ∧ k_ ≠ Zgn) (.slice (some ad382) t372.length co29) t372) ∧ Aside0 (wc.heap[Za]? = some (.cells #[.int .i64 x382000_2, .int .i64 x382001_2, .int .i64 x382002_2, .int .i64 x382003_2] 25 (0, 0))) ∧ Aside0 (wc.heap[Zn]? = some (.cells #[.int .i64 x384000_2, .int .i64 x384001_2, .int .i64 x384002_2, .int .i64 x384003_2] 25 (0, 0))) ∧ Aside0 (wc.heap[Zbe]? = some (.cells #[.int .i64 x386000_2, .int .i64 x386001_2, .int .i64 x386002_2, .int .i64 x386003_2] 25 (0, 0))) ∧ Aside0 (wc.heap[Zgn]? = some (.cells #[.int .i64 t387, .int .i64 t388, .int .i64 t389, .int .i64 t390] 25 (0, 0))) ∧ Aside0 (Below w.heap.size w wc))
 case first =>
  have H := HC40.out
  clear HC40
  by_cases c49 : t391 = true
  case neg =>
   replace c49 := Bool.eq_false_iff.mpr c49
   subst c49
   have H1 : (laws_FnThreeSteps.j2 k2 t372 x10_2 true x384000_2 x384001_2 x384002_2 x384003_2 x386000_2 x386001_2 x386002_2 x386003_2 t387 t388 t389 t390) = some r := by rw [if_neg (show ¬ (false = true) by decide)] at H; exact H
   clear H
   have H := H1
   clear H1
   first | exact (laws_FnThreeSteps.j0_true H hr).elim | exact (laws_FnThreeSteps.j2_true H hr).elim
  subst c49
  rw [if_pos rfl] at H
  replace H := Option.bind_eq_some_iff.mp H
  obtain ⟨t394, A500, H⟩ := H
  replace H : (laws_FnThreeSteps.j2 k2 t372 x10_2 (decide (t394 ≤ 0)) x384000_2 x384001_2 x384002_2 x384003_2 x386000_2 x386001_2 x386002_2 x386003_2 t387 t388 t389 t390) = some r := H
  have A50 := mA A500
  clear A500
  have H' := mA H
  clear H
  have p393 : 0 ≤ (x10_2 : Int) := of_decide_eq_true (by first | (with_reducible assumption) | assumption)
  have q393 : x10_2 < (t372.length : Int) := of_decide_eq_true (by first | (with_reducible assumption) | assumption)
  obtain ⟨ad393, e393, hx393_0, hx393_1, hx393_2, hx393_3⟩ := at_T25 (Kd.R_reads' HO_6.out).2.2 x10_2 p393 q393
  obtain rfl : ad382 = ad393 := (by injection e393)
  have hn393_0 : ad382.block ≠ Zgn := Kd.own_blk (fun he => by have z := HO_6.out.1 _ he.symm; simp at z)
  have hn393_1 : ad382.block ≠ Zgn := Kd.own_blk (fun he => by have z := HO_6.out.1 _ he.symm; simp at z)
  have hn393_2 : ad382.block ≠ Zgn := Kd.own_blk (fun he => by have z := HO_6.out.1 _ he.symm; simp at z)
  have hn393_3 : ad382.block ≠ Zgn := Kd.own_blk (fun he => by have z := HO_6.out.1 _ he.symm; simp at z)
  replace hx393_0 := (cell_far (p := ⟨Zgn, 0, none⟩) (by first | (rw [add_block]; exact hn393_0) | (show (Addr.add _ _).block ≠ _; rw [add_block]; exact hn393_0) | exact hn393_0) (.int .i64 t387)).trans hx393_0
  replace hx393_1 := (cell_far (p := ⟨Zgn, 0, none⟩) (by first | (rw [add_block]; exact hn393_0) | (show (Addr.add _ _).block ≠ _; rw [add_block]; exact hn393_0) | exact hn393_0) (.int .i64 t387)).trans hx393_1
  replace hx393_2 := (cell_far (p := ⟨Zgn, 0, none⟩) (by first | (rw [add_block]; exact hn393_0) | (show (Addr.add _ _).block ≠ _; rw [add_block]; exact hn393_0) | exact hn393_0) (.int .i64 t387)).trans hx393_2
  replace hx393_3 := (cell_far (p := ⟨Zgn, 0, none⟩) (by first | (rw [add_block]; exact hn393_0) | (show (Addr.add _ _).block ≠ _; rw [add_block]; exact hn393_0) | exact hn393_0) (.int .i64 t387)).trans hx393_3
  replace hx393_0 := (cell_far (p := ⟨Zgn, 1, none⟩) (by first | (rw [add_block]; exact hn393_1) | (show (Addr.add _ _).block ≠ _; rw [add_block]; exact hn393_1) | exact hn393_1) (.int .i64 t388)).trans hx393_0
  replace hx393_1 := (cell_far (p := ⟨Zgn, 1, none⟩) (by first | (rw [add_block]; exact hn393_1) | (show (Addr.add _ _).block ≠ _; rw [add_block]; exact hn393_1) | exact hn393_1) (.int .i64 t388)).trans hx393_1
  replace hx393_2 := (cell_far (p := ⟨Zgn, 1, none⟩) (by first | (rw [add_block]; exact hn393_1) | (show (Addr.add _ _).block ≠ _; rw [add_block]; exact hn393_1) | exact hn393_1) (.int .i64 t388)).trans hx393_2
  replace hx393_3 := (cell_far (p := ⟨Zgn, 1, none⟩) (by first | (rw [add_block]; exact hn393_1) | (show (Addr.add _ _).block ≠ _; rw [add_block]; exact hn393_1) | exact hn393_1) (.int .i64 t388)).trans hx393_3
  replace hx393_0 := (cell_far (p := ⟨Zgn, 2, none⟩) (by first | (rw [add_block]; exact hn393_2) | (show (Addr.add _ _).block ≠ _; rw [add_block]; exact hn393_2) | exact hn393_2) (.int .i64 t389)).trans hx393_0
  replace hx393_1 := (cell_far (p := ⟨Zgn, 2, none⟩) (by first | (rw [add_block]; exact hn393_2) | (show (Addr.add _ _).block ≠ _; rw [add_block]; exact hn393_2) | exact hn393_2) (.int .i64 t389)).trans hx393_1
  replace hx393_2 := (cell_far (p := ⟨Zgn, 2, none⟩) (by first | (rw [add_block]; exact hn393_2) | (show (Addr.add _ _).block ≠ _; rw [add_block]; exact hn393_2) | exact hn393_2) (.int .i64 t389)).trans hx393_2
  replace hx393_3 := (cell_far (p := ⟨Zgn, 2, none⟩) (by first | (rw [add_block]; exact hn393_2) | (show (Addr.add _ _).block ≠ _; rw [add_block]; exact hn393_2) | exact hn393_2) (.int .i64 t389)).trans hx393_3
  replace hx393_0 := (cell_far (p := ⟨Zgn, 3, none⟩) (by first | (rw [add_block]; exact hn393_3) | (show (Addr.add _ _).block ≠ _; rw [add_block]; exact hn393_3) | exact hn393_3) (.int .i64 t390)).trans hx393_0
  replace hx393_1 := (cell_far (p := ⟨Zgn, 3, none⟩) (by first | (rw [add_block]; exact hn393_3) | (show (Addr.add _ _).block ≠ _; rw [add_block]; exact hn393_3) | exact hn393_3) (.int .i64 t390)).trans hx393_1
  replace hx393_2 := (cell_far (p := ⟨Zgn, 3, none⟩) (by first | (rw [add_block]; exact hn393_3) | (show (Addr.add _ _).block ≠ _; rw [add_block]; exact hn393_3) | exact hn393_3) (.int .i64 t390)).trans hx393_2
  replace hx393_3 := (cell_far (p := ⟨Zgn, 3, none⟩) (by first | (rw [add_block]; exact hn393_3) | (show (Addr.add _ _).block ≠ _; rw [add_block]; exact hn393_3) | exact hn393_3) (.int .i64 t390)).trans hx393_3
  clear hn393_0
  clear hn393_1
  clear hn393_2
  clear hn393_3
  replace p393 := eq_true p393
  replace q393 := eq_true q393
  go_wp2_with (first | (go_at_call 26; (with_reducible refine (impl_SignOf.calls k2 ((rd_T25 t372 x10_2).f0) ((rd_T25 t372 x10_2).f1) ((rd_T25 t372 x10_2).f2) ((rd_T25 t372 x10_2).f3) t394 _ A50.out).mono ?_); rintro e w51 ⟨rfl, hb⟩; have n0_ := mA (Kd.R_below (by (with_reducible repeat (first | apply Kd.R_alloc | apply Kd.R_drewN | apply Kd.R_drew)); exact (Kd.R_mono (Kd.R_far (p := ⟨Zgn, 3, none⟩) (Kd.R_far (p := ⟨Zgn, 2, none⟩) (Kd.R_far (p := ⟨Zgn, 1, none⟩) (Kd.R_far (p := ⟨Zgn, 0, none⟩) (Kd.R_mono HO_6.out (fun k_ hk => (⟨hk, hk.2.2.2⟩ : _ ∧ k_ ≠ Zgn))) (fun _ hk => hk.2) (.int .i64 t387)) (fun _ hk => hk.2) (.int .i64 t388)) (fun _ hk => hk.2) (.int .i64 t389)) (fun _ hk => hk.2) (.int .i64 t390)) (fun _ h_ => h_.1))) hb); have n1_ := mA (blk_below (g := Za) (o := cQ25 x382000_2 x382001_2 x382002_2 x382003_2) (by (with_reducible repeat (first | refine blk_drewN ?_ _ | refine blk_drew ?_ | refine blk_alloc ?_ _)); refine far4 ?_ Zgs.out _ _ _ _; (with_reducible repeat (first | refine blk_drewN ?_ _ | refine blk_drew ?_ | refine blk_alloc ?_ _)); exact Zb.out) hb); have n2_ := mA (blk_below (g := Zn) (o := cQ25 x384000_2 x384001_2 x384002_2 x384003_2) (by (with_reducible repeat (first | refine blk_drewN ?_ _ | refine blk_drew ?_ | refine blk_alloc ?_ _)); refine far4 ?_ Zgu.out _ _ _ _; (with_reducible repeat (first | refine blk_drewN ?_ _ | refine blk_drew ?_ | refine blk_alloc ?_ _)); exact Zp.out) hb); have n3_ := mA (blk_below (g := Zbe) (o := cQ25 x386000_2 x386001_2 x386002_2 x386003_2) (by (with_reducible repeat (first | refine blk_drewN ?_ _ | refine blk_drew ?_ | refine blk_alloc ?_ _)); refine far4 ?_ Zgw.out _ _ _ _; (with_reducible repeat (first | refine blk_drewN ?_ _ | refine blk_drew ?_ | refine blk_alloc ?_ _)); exact Zbf.out) hb); have n4_ := mA (blk_below (g := Zgn) (o := cQ25 t387 t388 t389 t390) (by (with_reducible repeat (first | refine blk_drewN ?_ _ | refine blk_drew ?_ | refine blk_alloc ?_ _)); refine put4 (v0 := .int .i64 0) (v1 := .int .i64 0) (v2 := .int .i64 0) (v3 := .int .i64 0) ?_ _ _ _ _; (with_reducible repeat (first | refine blk_drewN ?_ _ | refine blk_drew ?_ | refine blk_alloc ?_ _)); exact Zgp.out) hb); have n5_ := mA (below_step (by repeat (first | (with_reducible first | exact HB.out | apply below_alloc | apply pw_below_drewN | apply below_drew1 | refine below_set ?_ Zd.out | refine below_set ?_ Zr.out | refine below_set ?_ Zbh.out | refine below_set ?_ Zgr.out) | exact HB.out)) hb); clear HO_6; clear Zb; clear Zp; clear Zbf; clear Zgp; clear HB; have HO_6 := n0_; have Zb := n1_; have Zp := n2_; have Zbf := n3_; have Zgp := n4_; have HB := n5_; clear n0_ n1_ n2_ n3_ n4_ n5_; (try clear hb); (try clear hb2); (try clear hk); (try clear hi)))
  go_meet
  case rel => exact ⟨_, (decide (t394 ≤ 0)), (by first | rfl | (simp; done) | (simp [*]; done)), H', ⟨by have := HJ7.out; have := HK2.out; first | omega | exact Nat.le_refl _⟩, ⟨by (with_reducible repeat (first | apply Kd.R_alloc | apply Kd.R_drewN | apply Kd.R_drew)); exact HO_6.out⟩, ⟨by (with_reducible repeat (first | refine blk_drewN ?_ _ | refine blk_drew ?_ | refine blk_alloc ?_ _)); exact Zb.out⟩, ⟨by (with_reducible repeat (first | refine blk_drewN ?_ _ | refine blk_drew ?_ | refine blk_alloc ?_ _)); exact Zp.out⟩, ⟨by (with_reducible repeat (first | refine blk_drewN ?_ _ | refine blk_drew ?_ | refine blk_alloc ?_ _)); exact Zbf.out⟩, ⟨by (with_reducible repeat (first | refine blk_drewN ?_ _ | refine blk_drew ?_ | refine blk_alloc ?_ _)); exact Zgp.out⟩, ⟨by repeat (first | (with_reducible first | exact HB.out | apply below_alloc | apply pw_below_drewN | apply below_drew1 | refine below_set ?_ Zd.out | refine below_set ?_ Zr.out | refine below_set ?_ Zbh.out | refine below_set ?_ Zgr.out) | exact HB.out)⟩⟩
 clear HC40
 try clear c1
 try clear c2
 try clear p2
 try clear c3
 try clear p3
 try clear q3
 try clear hx3
 try clear qi3
 try clear c4
 try clear p6
 try clear c11
 try clear c12
 try clear c12b0
 try clear c12b1
 try clear c13
 try clear c13b0
 try clear c13b1
 try clear c13b2
 try clear c15
 try clear c15b0
 try clear c22
 try clear c23
 try clear c24
 try clear c25
 try clear c25b0
 try clear c25b1
 try clear c31
 try clear c34
 try clear c35
 try clear c37
 try clear c37b0
 try clear c38
 try clear c38b0
 try clear p38
 try clear q38
 try clear hx38
 try clear qi38
 try clear p39
 try clear q39
 try clear hx39
 try clear c49
 try clear Ze
 try clear Zf
 try clear Zg
 try clear Zh
 try clear Zw
 try clear Zx
 try clear Zy
 try clear Zz
 try clear Zbs
 try clear Zbt
 try clear Zbu
 try clear Zbv
 try clear Zi
 try clear Zj
 try clear Zk
 try clear Zm
 try clear Zba
 try clear Zbb
 try clear Zbc
 try clear Zbd
 try clear Zbw
 try clear Zbx
 try clear Zby
 try clear Zbz
 try clear hx382_0
 try clear hx382_1
 try clear hx382_2
 try clear hx382_3
 try clear hx384_0
 try clear hx384_1
 try clear hx384_2
 try clear hx384_3
 try clear hx386_0
 try clear hx386_1
 try clear hx386_2
 try clear hx386_3
 try clear hx393_0
 try clear hx393_1
 try clear hx393_2
 try clear hx393_3
 try clear p2
 try clear p3
 try clear p382
 try clear p384
 try clear p386
 try clear p393
 try clear p6
 try clear q3
 try clear q382
 try clear q384
 try clear q386
 try clear q393
 obtain ⟨kq, x85_39, rfl, HA, HJ39, HO_6, Zb, Zp, Zbf, Zgp, HB⟩ := hcut
 cases kq with
 | zero => exact absurd HA.out (by simp [laws_FnThreeSteps.j2])
 | succ kj39 =>
 have H := HA.out
 clear HA
 simp only [laws_FnThreeSteps.j2] at H
 by_cases c52 : x85_39 = true
 case pos =>
  subst c52
  have H1 : (some false) = some r := by rw [if_pos rfl] at H; exact H
  clear H
  have H := H1
  clear H1
  exact absurd ((Option.some.inj H).trans hr) (by decide)
 replace c52 := Bool.eq_false_iff.mpr c52
 subst c52
 rw [if_neg (show ¬ (false = true) by decide)] at H
 by_cases c53 : 0 ≤ x10_2
 case neg =>
  rw [if_neg c53] at H
  exact absurd H (by simp)
 rw [if_pos c53] at H
 have c53b0 : decide (0 ≤ x10_2) = true := decide_eq_true c53
 clear c53
 by_cases c54 : x10_2 < (t372.length : Int)
 case neg =>
  rw [if_neg c54] at H
  exact absurd H (by simp)
 rw [if_pos c54] at H
 have c54b0 : decide (x10_2 < (t372.length : Int)) = true := decide_eq_true c54
 clear c54
 replace H := Option.bind_eq_some_iff.mp H
 obtain ⟨t396, A550, H⟩ := H
 replace H : (if t396 > 0 then ((impl_CompareIntervals.f kj39 ((rd_T25 t372 x10_2).f0) ((rd_T25 t372 x10_2).f1) ((rd_T25 t372 x10_2).f2) ((rd_T25 t372 x10_2).f3) x386000_2 x386001_2 x386002_2 x386003_2).bind fun t399 => (if t399 < 0 then (laws_FnThreeSteps.l0 kj39 t372 (wrap64 (x10_2 + 1)) t387 t388 t389 t390 ((rd_T25 t372 x10_2).f0) ((rd_T25 t372 x10_2).f1) ((rd_T25 t372 x10_2).f2) ((rd_T25 t372 x10_2).f3) ((rd_T25 t372 x10_2).f0) ((rd_T25 t372 x10_2).f1) ((rd_T25 t372 x10_2).f2) ((rd_T25 t372 x10_2).f3)) else (laws_FnThreeSteps.l0 kj39 t372 (wrap64 (x10_2 + 1)) t387 t388 t389 t390 ((rd_T25 t372 x10_2).f0) ((rd_T25 t372 x10_2).f1) ((rd_T25 t372 x10_2).f2) ((rd_T25 t372 x10_2).f3) x386000_2 x386001_2 x386002_2 x386003_2))) else ((impl_CompareIntervals.f kj39 ((rd_T25 t372 x10_2).f0) ((rd_T25 t372 x10_2).f1) ((rd_T25 t372 x10_2).f2) ((rd_T25 t372 x10_2).f3) x386000_2 x386001_2 x386002_2 x386003_2).bind fun t402 => (if t402 < 0 then (laws_FnThreeSteps.l0 kj39 t372 (wrap64 (x10_2 + 1)) t387 t388 t389 t390 x384000_2 x384001_2 x384002_2 x384003_2 ((rd_T25 t372 x10_2).f0) ((rd_T25 t372 x10_2).f1) ((rd_T25 t372 x10_2).f2) ((rd_T25 t372 x10_2).f3)) else (laws_FnThreeSteps.l0 kj39 t372 (wrap64 (x10_2 + 1)) t387 t388 t389 t390 x384000_2 x384001_2 x384002_2 x384003_2 x386000_2 x386001_2 x386002_2 x386003_2)))) = some r := H
 have A55 := mA A550
 clear A550
 by_cases c56 : t396 > 0
 case neg =>
  rw [if_neg c56] at H
  have c56b0 : decide (0 < t396) = false := decide_eq_false c56
  clear c56
  replace H := Option.bind_eq_some_iff.mp H
  obtain ⟨t402, A900, H⟩ := H
  replace H : (if t402 < 0 then (laws_FnThreeSteps.l0 kj39 t372 (wrap64 (x10_2 + 1)) t387 t388 t389 t390 x384000_2 x384001_2 x384002_2 x384003_2 ((rd_T25 t372 x10_2).f0) ((rd_T25 t372 x10_2).f1) ((rd_T25 t372 x10_2).f2) ((rd_T25 t372 x10_2).f3)) else (laws_FnThreeSteps.l0 kj39 t372 (wrap64 (x10_2 + 1)) t387 t388 t389 t390 x384000_2 x384001_2 x384002_2 x384003_2 x386000_2 x386001_2 x386002_2 x386003_2)) = some r := H
  have A90 := mA A900
  clear A900
  by_cases c91 : t402 < 0
  case neg =>
   rw [if_neg c91] at H
   have c91b0 : decide (t402 < 0) = false := decide_eq_false c91
   clear c91
   have H' := mA H
   clear H
   have Zig := Zgt.out
   have Zih := Zgs.out
   have Zii := Zgv.out
   have Zij := Zgu.out
   have Zik := Zgx.out
   have Zim := Zgw.out
   have Zce : wc.cell? ⟨Zgn, 0, none⟩ = some (.int .i64 t387) := (blk_cell Zgp.out 0).trans rfl
   have Zcf : wc.cell? ⟨Zgn, 1, none⟩ = some (.int .i64 t388) := (blk_cell Zgp.out 1).trans rfl
   have Zcg : wc.cell? ⟨Zgn, 2, none⟩ = some (.int .i64 t389) := (blk_cell Zgp.out 2).trans rfl
   have Zch : wc.cell? ⟨Zgn, 3, none⟩ = some (.int .i64 t390) := (blk_cell Zgp.out 3).trans rfl
   have Zda := blk_frozen Zgp.out 0
   have Zdb := blk_frozen Zgp.out 1
   have Zdc := blk_frozen Zgp.out 2
   have Zdd := blk_frozen Zgp.out 3
   have Zin := Zs.out
   have Zip := Zt.out
   have Ziq := Zbi.out
   have Zir := Zbj.out
   have Zci : wc.cell? ⟨Za, 0, none⟩ = some (.int .i64 x382000_2) := (blk_cell Zb.out 0).trans rfl
   have Zcj : wc.cell? ⟨Za, 1, none⟩ = some (.int .i64 x382001_2) := (blk_cell Zb.out 1).trans rfl
   have Zck : wc.cell? ⟨Za, 2, none⟩ = some (.int .i64 x382002_2) := (blk_cell Zb.out 2).trans rfl
   have Zcm : wc.cell? ⟨Za, 3, none⟩ = some (.int .i64 x382003_2) := (blk_cell Zb.out 3).trans rfl
   have Zde := blk_frozen Zb.out 0
   have Zdf := blk_frozen Zb.out 1
   have Zdg := blk_frozen Zb.out 2
   have Zdh := blk_frozen Zb.out 3
   try go_wp2
   have n0_ : Aside0 (Kd.R k25 25 ((((wc.setCell ⟨Za, 0, none⟩ (.int .i64 t387)).setCell ⟨Za, 1, none⟩ (.int .i64 t388)).setCell ⟨Za, 2, none⟩ (.int .i64 t389)).setCell ⟨Za, 3, none⟩ (.int .i64 t390)) w.heap.size (fun k_ => k_ ≠ Za ∧ k_ ≠ Zn ∧ k_ ≠ Zbe ∧ k_ ≠ Zgn) (.slice (some ad382) t372.length co29) t372) := ⟨by (with_reducible repeat (first | apply Kd.R_alloc | apply Kd.R_drewN | apply Kd.R_drew)); exact Kd.R_mono (Kd.R_far (p := ⟨Za, 3, none⟩) (Kd.R_far (p := ⟨Za, 2, none⟩) (Kd.R_far (p := ⟨Za, 1, none⟩) (Kd.R_far (p := ⟨Za, 0, none⟩) (Kd.R_mono HO_6.out (fun k_ hk => (⟨hk, hk.1⟩ : _ ∧ k_ ≠ Za))) (fun _ hk => hk.2) (.int .i64 t387)) (fun _ hk => hk.2) (.int .i64 t388)) (fun _ hk => hk.2) (.int .i64 t389)) (fun _ hk => hk.2) (.int .i64 t390)) (fun _ hk => ⟨hk.1.1, ⟨hk.1.2.1, ⟨hk.1.2.2.1, hk.1.2.2.2⟩⟩⟩)⟩
   have n1_ : Aside0 (((((wc.setCell ⟨Za, 0, none⟩ (.int .i64 t387)).setCell ⟨Za, 1, none⟩ (.int .i64 t388)).setCell ⟨Za, 2, none⟩ (.int .i64 t389)).setCell ⟨Za, 3, none⟩ (.int .i64 t390)).heap[Za]? = some (.cells #[.int .i64 t387, .int .i64 t388, .int .i64 t389, .int .i64 t390] 25 (0, 0))) := ⟨by (with_reducible repeat (first | refine blk_drewN ?_ _ | refine blk_drew ?_ | refine blk_alloc ?_ _)); refine put4 (v0 := .int .i64 x382000_2) (v1 := .int .i64 x382001_2) (v2 := .int .i64 x382002_2) (v3 := .int .i64 x382003_2) ?_ _ _ _ _; (with_reducible repeat (first | refine blk_drewN ?_ _ | refine blk_drew ?_ | refine blk_alloc ?_ _)); exact Zb.out⟩
   have n2_ : Aside0 (((((wc.setCell ⟨Za, 0, none⟩ (.int .i64 t387)).setCell ⟨Za, 1, none⟩ (.int .i64 t388)).setCell ⟨Za, 2, none⟩ (.int .i64 t389)).setCell ⟨Za, 3, none⟩ (.int .i64 t390)).heap[Zn]? = some (.cells #[.int .i64 x384000_2, .int .i64 x384001_2, .int .i64 x384002_2, .int .i64 x384003_2] 25 (0, 0))) := ⟨by (with_reducible repeat (first | refine blk_drewN ?_ _ | refine blk_drew ?_ | refine blk_alloc ?_ _)); refine far4 ?_ Zt.out _ _ _ _; (with_reducible repeat (first | refine blk_drewN ?_ _ | refine blk_drew ?_ | refine blk_alloc ?_ _)); exact Zp.out⟩
   have n3_ : Aside0 (((((wc.setCell ⟨Za, 0, none⟩ (.int .i64 t387)).setCell ⟨Za, 1, none⟩ (.int .i64 t388)).setCell ⟨Za, 2, none⟩ (.int .i64 t389)).setCell ⟨Za, 3, none⟩ (.int .i64 t390)).heap[Zbe]? = some (.cells #[.int .i64 x386000_2, .int .i64 x386001_2, .int .i64 x386002_2, .int .i64 x386003_2] 25 (0, 0))) := ⟨by (with_reducible repeat (first | refine blk_drewN ?_ _ | refine blk_drew ?_ | refine blk_alloc ?_ _)); refine far4 ?_ Zbj.out _ _ _ _; (with_reducible repeat (first | refine blk_drewN ?_ _ | refine blk_drew ?_ | refine blk_alloc ?_ _)); exact Zbf.out⟩
   have n4_ : Aside0 (((((wc.setCell ⟨Za, 0, none⟩ (.int .i64 t387)).setCell ⟨Za, 1, none⟩ (.int .i64 t388)).setCell ⟨Za, 2, none⟩ (.int .i64 t389)).setCell ⟨Za, 3, none⟩ (.int .i64 t390)).heap[Zgn]? = some (.cells #[.int .i64 t387, .int .i64 t388, .int .i64 t389, .int .i64 t390] 25 (0, 0))) := ⟨by (with_reducible repeat (first | refine blk_drewN ?_ _ | refine blk_drew ?_ | refine blk_alloc ?_ _)); refine far4 ?_ Zgt.out _ _ _ _; (with_reducible repeat (first | refine blk_drewN ?_ _ | refine blk_drew ?_ | refine blk_alloc ?_ _)); exact Zgp.out⟩
   have n5_ : Aside0 (Below w.heap.size w ((((wc.setCell ⟨Za, 0, none⟩ (.int .i64 t387)).setCell ⟨Za, 1, none⟩ (.int .i64 t388)).setCell ⟨Za, 2, none⟩ (.int .i64 t389)).setCell ⟨Za, 3, none⟩ (.int .i64 t390))) := ⟨by repeat (first | (with_reducible first | exact HB.out | apply below_alloc | apply pw_below_drewN | apply below_drew1 | refine below_set ?_ Zd.out | refine below_set ?_ Zr.out | refine below_set ?_ Zbh.out | refine below_set ?_ Zgr.out) | exact HB.out)⟩
   (try clear HO_6)
   (try clear Zb)
   (try clear Zp)
   (try clear Zbf)
   (try clear Zgp)
   (try clear HB)
   generalize ((((wc.setCell ⟨Za, 0, none⟩ (.int .i64 t387)).setCell ⟨Za, 1, none⟩ (.int .i64 t388)).setCell ⟨Za, 2, none⟩ (.int .i64 t389)).setCell ⟨Za, 3, none⟩ (.int .i64 t390)) = w113 at n0_ n1_ n2_ n3_ n4_ n5_ ⊢
   have HO_6 := n0_
   have Zb := n1_
   have Zp := n2_
   have Zbf := n3_
   have Zgp := n4_
   have HB := n5_
   clear n0_ n1_ n2_ n3_ n4_ n5_
   have n0_ := mA (Kd.R_drew HO_6.out)
   have n1_ := mA (blk_drew Zb.out)
   have n2_ := mA (blk_drew Zp.out)
   have n3_ := mA (blk_drew Zbf.out)
   have n4_ := mA (blk_drew Zgp.out)
   have n5_ := mA (below_drew1 HB.out)
   clear HO_6
   clear Zb
   clear Zp
   clear Zbf
   clear Zgp
   clear HB
   have HO_6 := n0_
   have Zb := n1_
   have Zp := n2_
   have Zbf := n3_
   have Zgp := n4_
   have HB := n5_
   clear n0_ n1_ n2_ n3_ n4_ n5_
   have p395 : 0 ≤ (x10_2 : Int) := of_decide_eq_true (by first | (with_reducible assumption) | assumption)
   have q395 : x10_2 < (t372.length : Int) := of_decide_eq_true (by first | (with_reducible assumption) | assumption)
   obtain ⟨ad395, e395, hx395_0, hx395_1, hx395_2, hx395_3⟩ := at_T25 (Kd.R_reads' HO_6.out).2.2 x10_2 p395 q395
   obtain rfl : ad382 = ad395 := (by injection e395)
   replace p395 := eq_true p395
   replace q395 := eq_true q395
   refine start_ (n := 7) (S := fun w' => w'.cell? ⟨Zn, 0, none⟩ = some (.int .i64 x384000_2) ∧ w'.cell? ⟨Zn, 1, none⟩ = some (.int .i64 x384001_2) ∧ w'.cell? ⟨Zn, 2, none⟩ = some (.int .i64 x384002_2) ∧ w'.cell? ⟨Zn, 3, none⟩ = some (.int .i64 x384003_2) ∧ w'.cell? (ad382.add ((x10_2).toNat * 4)) = some (.int .i64 ((rd_T25 t372 x10_2).f0)) ∧ w'.cell? ⟨(ad382.add ((x10_2).toNat * 4)).block, (ad382.add ((x10_2).toNat * 4)).off + 1, none⟩ = some (.int .i64 ((rd_T25 t372 x10_2).f1)) ∧ w'.cell? ⟨(ad382.add ((x10_2).toNat * 4)).block, (ad382.add ((x10_2).toNat * 4)).off + 2, none⟩ = some (.int .i64 ((rd_T25 t372 x10_2).f2)) ∧ w'.cell? ⟨(ad382.add ((x10_2).toNat * 4)).block, (ad382.add ((x10_2).toNat * 4)).off + 3, none⟩ = some (.int .i64 ((rd_T25 t372 x10_2).f3))) (ds := []) #[false, false, false, false, false, false, false] (by kernel_rfl) rfl rfl ⟨(blk_cell Zp.out 0).trans rfl, (blk_cell Zp.out 1).trans rfl, (blk_cell Zp.out 2).trans rfl, (blk_cell Zp.out 3).trans rfl, hx395_0, hx395_1, hx395_2, hx395_3⟩ (fun hHeld => ?_)
   generalize w113.drew = w114 at HO_6 Zb Zp Zbf Zgp HB hx395_0 hx395_1 hx395_2 hx395_3 hHeld ⊢
   refine pure_ (i := 0) (N := some 87) (v := ?_) (a' := ?_) #[true, false, false, false, false, false, false] rfl rfl (by kernel_rfl) (fun _ _ _ h => h) (Or.inl ⟨by rfl, ?_⟩) ?_ ?_
   rotate_left
   · intro w'
     go_simp
     with_reducible rfl
   rotate_left
   · simp only [Act.put, List.setIfInBounds_toArray, List.set_cons_zero, List.set_cons_succ, i64_w, i32_w]
     rfl
   refine pure_ (i := 1) (N := some 88) (v := ?_) (a' := ?_) #[true, true, false, false, false, false, false] rfl rfl (by kernel_rfl) (fun _ _ _ h => h) (Or.inl ⟨by rfl, ?_⟩) ?_ ?_
   rotate_left
   · intro w'
     go_simp
     with_reducible rfl
   rotate_left
   · simp only [Act.put, List.setIfInBounds_toArray, List.set_cons_zero, List.set_cons_succ, i64_w, i32_w]
     rfl
   refine pure_ (i := 2) (N := some 89) (v := ?_) (a' := ?_) #[true, true, true, false, false, false, false] rfl rfl (by kernel_rfl) (fun _ _ _ h => h) (Or.inl ⟨by rfl, ?_⟩) ?_ ?_
   rotate_left
   · intro w'
     go_simp
     with_reducible rfl
   rotate_left
   · simp only [Act.put, List.setIfInBounds_toArray, List.set_cons_zero, List.set_cons_succ, i64_w, i32_w]
     rfl
   refine take_ (i := 3) (N := some 90) (v := ?_) (a' := ?_) #[true, true, true, true, false, false, false] rfl rfl (by kernel_rfl) (fun _ _ _ h => h) (Or.inl ⟨by rfl, ?_⟩) hHeld ?_ ?_
   rotate_left
   · rintro w' ⟨s0, s1, s2, s3, s4, s5, s6, s7⟩
     go_simp
     with_reducible rfl
   rotate_left
   · simp only [Act.put, List.setIfInBounds_toArray, List.set_cons_zero, List.set_cons_succ, i64_w, i32_w]
     rfl
   refine take_ (i := 4) (N := some 91) (v := ?_) (a' := ?_) #[true, true, true, true, true, false, false] rfl rfl (by kernel_rfl) (fun _ _ _ h => h) (Or.inl ⟨by rfl, ?_⟩) hHeld ?_ ?_
   rotate_left
   · rintro w' ⟨s0, s1, s2, s3, s4, s5, s6, s7⟩
     go_simp
     with_reducible rfl
   rotate_left
   · simp only [Act.put, List.setIfInBounds_toArray, List.set_cons_zero, List.set_cons_succ, i64_w, i32_w]
     rfl
   refine one_ (i := 5) (N := some 92) #[true, true, true, true, true, true, false] rfl rfl (by kernel_rfl) (by decide) (fun K hK => ?_)
   refine goes_ Try.func30 (by kernel_rfl) rfl #[.agg #[.int .i64 ((rd_T25 t372 x10_2).f0), .int .i64 ((rd_T25 t372 x10_2).f1), .int .i64 ((rd_T25 t372 x10_2).f2), .int .i64 ((rd_T25 t372 x10_2).f3)], .agg #[.int .i64 x384000_2, .int .i64 x384001_2, .int .i64 x384002_2, .int .i64 x384003_2]] (by rfl) rfl rfl (by (try simp only [List.map_toArray, List.map_cons, List.map_nil]); first | done | rfl | (simp only [List.length_drop, List.length_take]; rfl)) ?_
   with_reducible refine (impl_CompareIntervals.calls kj39 ((rd_T25 t372 x10_2).f0) ((rd_T25 t372 x10_2).f1) ((rd_T25 t372 x10_2).f2) ((rd_T25 t372 x10_2).f3) x384000_2 x384001_2 x384002_2 x384003_2 t396 _ A55.out).mono ?_
   rintro e w115 ⟨rfl, hb⟩
   have HS4_ := (hb.cell (World.block_lt_of_cell? _ _ (hHeld.2.2.2.2.1))).trans (hHeld.2.2.2.2.1)
   have HS5_ := (hb.cell (World.block_lt_of_cell? _ _ (hHeld.2.2.2.2.2.1))).trans (hHeld.2.2.2.2.2.1)
   have HS6_ := (hb.cell (World.block_lt_of_cell? _ _ (hHeld.2.2.2.2.2.2.1))).trans (hHeld.2.2.2.2.2.2.1)
   have HS7_ := (hb.cell (World.block_lt_of_cell? _ _ (hHeld.2.2.2.2.2.2.2))).trans (hHeld.2.2.2.2.2.2.2)
   refine ⟨_, rfl, ?_⟩
   have n0_ := mA (Kd.R_below (by (with_reducible repeat (first | apply Kd.R_alloc | apply Kd.R_drewN | apply Kd.R_drew)); exact HO_6.out) hb)
   have n1_ := mA (blk_below (g := Za) (o := cQ25 t387 t388 t389 t390) Zb.out hb)
   have n2_ := mA (blk_below (g := Zn) (o := cQ25 x384000_2 x384001_2 x384002_2 x384003_2) Zp.out hb)
   have n3_ := mA (blk_below (g := Zbe) (o := cQ25 x386000_2 x386001_2 x386002_2 x386003_2) Zbf.out hb)
   have n4_ := mA (blk_below (g := Zgn) (o := cQ25 t387 t388 t389 t390) Zgp.out hb)
   have n5_ := mA (below_step (by repeat (first | (with_reducible first | exact HB.out | apply below_alloc | apply pw_below_drewN | apply below_drew1 | refine below_set ?_ Zd.out | refine below_set ?_ Zr.out | refine below_set ?_ Zbh.out | refine below_set ?_ Zgr.out) | exact HB.out)) hb)
   clear HO_6
   clear Zb
   clear Zp
   clear Zbf
   clear Zgp
   clear HB
   have HO_6 := n0_
   have Zb := n1_
   have Zp := n2_
   have Zbf := n3_
   have Zgp := n4_
   have HB := n5_
   clear n0_ n1_ n2_ n3_ n4_ n5_
   (try clear hb)
   (try clear hb2)
   (try clear hk)
   (try clear hi)
   refine hK.out _ _ ⟨(blk_cell Zp.out 0).trans rfl, (blk_cell Zp.out 1).trans rfl, (blk_cell Zp.out 2).trans rfl, (blk_cell Zp.out 3).trans rfl, HS4_, HS5_, HS6_, HS7_⟩ (fun hHeld => ?_)
   clear hK K
   refine norm_ (a' := ?_) ?_ ?_
   rotate_left
   · show Act.put _ (some 92) _ = _
     simp only [Act.put, List.setIfInBounds_toArray, List.set_cons_zero, List.set_cons_succ, i64_w, i32_w]
     rfl
   refine pure_ (i := 6) (N := some 93) (v := ?_) (a' := ?_) #[true, true, true, true, true, true, true] rfl rfl (by kernel_rfl) (fun _ _ _ h => h) (Or.inl ⟨by rfl, ?_⟩) ?_ ?_
   rotate_left
   · intro w'
     go_simp
     with_reducible rfl
   rotate_left
   · simp only [Act.put, List.setIfInBounds_toArray, List.set_cons_zero, List.set_cons_succ, i64_w, i32_w]
     rfl
   refine done_ (by kernel_rfl) ?_
   try go_wp2
   have n0_ := mA (Kd.R_drew HO_6.out)
   have n1_ := mA (blk_drew Zb.out)
   have n2_ := mA (blk_drew Zp.out)
   have n3_ := mA (blk_drew Zbf.out)
   have n4_ := mA (blk_drew Zgp.out)
   have n5_ := mA (below_drew1 HB.out)
   clear HO_6
   clear Zb
   clear Zp
   clear Zbf
   clear Zgp
   clear HB
   have HO_6 := n0_
   have Zb := n1_
   have Zp := n2_
   have Zbf := n3_
   have Zgp := n4_
   have HB := n5_
   clear n0_ n1_ n2_ n3_ n4_ n5_
   have p401 : 0 ≤ (x10_2 : Int) := of_decide_eq_true (by first | (with_reducible assumption) | assumption)
   have q401 : x10_2 < (t372.length : Int) := of_decide_eq_true (by first | (with_reducible assumption) | assumption)
   obtain ⟨ad401, e401, hx401_0, hx401_1, hx401_2, hx401_3⟩ := at_T25 (Kd.R_reads' HO_6.out).2.2 x10_2 p401 q401
   obtain rfl : ad382 = ad401 := (by injection e401)
   replace p401 := eq_true p401
   replace q401 := eq_true q401
   refine start_ (n := 7) (S := fun w' => w'.cell? ⟨Zbe, 0, none⟩ = some (.int .i64 x386000_2) ∧ w'.cell? ⟨Zbe, 1, none⟩ = some (.int .i64 x386001_2) ∧ w'.cell? ⟨Zbe, 2, none⟩ = some (.int .i64 x386002_2) ∧ w'.cell? ⟨Zbe, 3, none⟩ = some (.int .i64 x386003_2) ∧ w'.cell? (ad382.add ((x10_2).toNat * 4)) = some (.int .i64 ((rd_T25 t372 x10_2).f0)) ∧ w'.cell? ⟨(ad382.add ((x10_2).toNat * 4)).block, (ad382.add ((x10_2).toNat * 4)).off + 1, none⟩ = some (.int .i64 ((rd_T25 t372 x10_2).f1)) ∧ w'.cell? ⟨(ad382.add ((x10_2).toNat * 4)).block, (ad382.add ((x10_2).toNat * 4)).off + 2, none⟩ = some (.int .i64 ((rd_T25 t372 x10_2).f2)) ∧ w'.cell? ⟨(ad382.add ((x10_2).toNat * 4)).block, (ad382.add ((x10_2).toNat * 4)).off + 3, none⟩ = some (.int .i64 ((rd_T25 t372 x10_2).f3))) (ds := []) #[false, false, false, false, false, false, false] (by kernel_rfl) rfl rfl ⟨(blk_cell Zbf.out 0).trans rfl, (blk_cell Zbf.out 1).trans rfl, (blk_cell Zbf.out 2).trans rfl, (blk_cell Zbf.out 3).trans rfl, hx401_0, hx401_1, hx401_2, hx401_3⟩ (fun hHeld => ?_)
   generalize w115.drew = w116 at HO_6 Zb Zp Zbf Zgp HB hx401_0 hx401_1 hx401_2 hx401_3 hHeld ⊢
   refine pure_ (i := 0) (N := some 98) (v := ?_) (a' := ?_) #[true, false, false, false, false, false, false] rfl rfl (by kernel_rfl) (fun _ _ _ h => h) (Or.inl ⟨by rfl, ?_⟩) ?_ ?_
   rotate_left
   · intro w'
     go_simp
     with_reducible rfl
   rotate_left
   · simp only [Act.put, List.setIfInBounds_toArray, List.set_cons_zero, List.set_cons_succ, i64_w, i32_w]
     rfl
   refine pure_ (i := 1) (N := some 99) (v := ?_) (a' := ?_) #[true, true, false, false, false, false, false] rfl rfl (by kernel_rfl) (fun _ _ _ h => h) (Or.inl ⟨by rfl, ?_⟩) ?_ ?_
   rotate_left
   · intro w'
     go_simp
     with_reducible rfl
   rotate_left
   · simp only [Act.put, List.setIfInBounds_toArray, List.set_cons_zero, List.set_cons_succ, i64_w, i32_w]
     rfl
   refine pure_ (i := 2) (N := some 100) (v := ?_) (a' := ?_) #[true, true, true, false, false, false, false] rfl rfl (by kernel_rfl) (fun _ _ _ h => h) (Or.inl ⟨by rfl, ?_⟩) ?_ ?_
   rotate_left
   · intro w'
     go_simp
     with_reducible rfl
   rotate_left
   · simp only [Act.put, List.setIfInBounds_toArray, List.set_cons_zero, List.set_cons_succ, i64_w, i32_w]
     rfl
   refine take_ (i := 3) (N := some 101) (v := ?_) (a' := ?_) #[true, true, true, true, false, false, false] rfl rfl (by kernel_rfl) (fun _ _ _ h => h) (Or.inl ⟨by rfl, ?_⟩) hHeld ?_ ?_
   rotate_left
   · rintro w' ⟨s0, s1, s2, s3, s4, s5, s6, s7⟩
     go_simp
     with_reducible rfl
   rotate_left
   · simp only [Act.put, List.setIfInBounds_toArray, List.set_cons_zero, List.set_cons_succ, i64_w, i32_w]
     rfl
   refine take_ (i := 4) (N := some 102) (v := ?_) (a' := ?_) #[true, true, true, true, true, false, false] rfl rfl (by kernel_rfl) (fun _ _ _ h => h) (Or.inl ⟨by rfl, ?_⟩) hHeld ?_ ?_
   rotate_left
   · rintro w' ⟨s0, s1, s2, s3, s4, s5, s6, s7⟩
     go_simp
     with_reducible rfl
   rotate_left
   · simp only [Act.put, List.setIfInBounds_toArray, List.set_cons_zero, List.set_cons_succ, i64_w, i32_w]
     rfl
   refine one_ (i := 5) (N := some 103) #[true, true, true, true, true, true, false] rfl rfl (by kernel_rfl) (by decide) (fun K hK => ?_)
   refine goes_ Try.func30 (by kernel_rfl) rfl #[.agg #[.int .i64 ((rd_T25 t372 x10_2).f0), .int .i64 ((rd_T25 t372 x10_2).f1), .int .i64 ((rd_T25 t372 x10_2).f2), .int .i64 ((rd_T25 t372 x10_2).f3)], .agg #[.int .i64 x386000_2, .int .i64 x386001_2, .int .i64 x386002_2, .int .i64 x386003_2]] (by rfl) rfl rfl (by (try simp only [List.map_toArray, List.map_cons, List.map_nil]); first | done | rfl | (simp only [List.length_drop, List.length_take]; rfl)) ?_
   with_reducible refine (impl_CompareIntervals.calls kj39 ((rd_T25 t372 x10_2).f0) ((rd_T25 t372 x10_2).f1) ((rd_T25 t372 x10_2).f2) ((rd_T25 t372 x10_2).f3) x386000_2 x386001_2 x386002_2 x386003_2 t402 _ A90.out).mono ?_
   rintro e w117 ⟨rfl, hb⟩
   have HS4_ := (hb.cell (World.block_lt_of_cell? _ _ (hHeld.2.2.2.2.1))).trans (hHeld.2.2.2.2.1)
   have HS5_ := (hb.cell (World.block_lt_of_cell? _ _ (hHeld.2.2.2.2.2.1))).trans (hHeld.2.2.2.2.2.1)
   have HS6_ := (hb.cell (World.block_lt_of_cell? _ _ (hHeld.2.2.2.2.2.2.1))).trans (hHeld.2.2.2.2.2.2.1)
   have HS7_ := (hb.cell (World.block_lt_of_cell? _ _ (hHeld.2.2.2.2.2.2.2))).trans (hHeld.2.2.2.2.2.2.2)
   refine ⟨_, rfl, ?_⟩
   have n0_ := mA (Kd.R_below (by (with_reducible repeat (first | apply Kd.R_alloc | apply Kd.R_drewN | apply Kd.R_drew)); exact HO_6.out) hb)
   have n1_ := mA (blk_below (g := Za) (o := cQ25 t387 t388 t389 t390) Zb.out hb)
   have n2_ := mA (blk_below (g := Zn) (o := cQ25 x384000_2 x384001_2 x384002_2 x384003_2) Zp.out hb)
   have n3_ := mA (blk_below (g := Zbe) (o := cQ25 x386000_2 x386001_2 x386002_2 x386003_2) Zbf.out hb)
   have n4_ := mA (blk_below (g := Zgn) (o := cQ25 t387 t388 t389 t390) Zgp.out hb)
   have n5_ := mA (below_step (by repeat (first | (with_reducible first | exact HB.out | apply below_alloc | apply pw_below_drewN | apply below_drew1 | refine below_set ?_ Zd.out | refine below_set ?_ Zr.out | refine below_set ?_ Zbh.out | refine below_set ?_ Zgr.out) | exact HB.out)) hb)
   clear HO_6
   clear Zb
   clear Zp
   clear Zbf
   clear Zgp
   clear HB
   have HO_6 := n0_
   have Zb := n1_
   have Zp := n2_
   have Zbf := n3_
   have Zgp := n4_
   have HB := n5_
   clear n0_ n1_ n2_ n3_ n4_ n5_
   (try clear hb)
   (try clear hb2)
   (try clear hk)
   (try clear hi)
   refine hK.out _ _ ⟨(blk_cell Zbf.out 0).trans rfl, (blk_cell Zbf.out 1).trans rfl, (blk_cell Zbf.out 2).trans rfl, (blk_cell Zbf.out 3).trans rfl, HS4_, HS5_, HS6_, HS7_⟩ (fun hHeld => ?_)
   clear hK K
   refine norm_ (a' := ?_) ?_ ?_
   rotate_left
   · show Act.put _ (some 103) _ = _
     simp only [Act.put, List.setIfInBounds_toArray, List.set_cons_zero, List.set_cons_succ, i64_w, i32_w]
     rfl
   refine pure_ (i := 6) (N := some 104) (v := ?_) (a' := ?_) #[true, true, true, true, true, true, true] rfl rfl (by kernel_rfl) (fun _ _ _ h => h) (Or.inl ⟨by rfl, ?_⟩) ?_ ?_
   rotate_left
   · intro w'
     go_simp
     with_reducible rfl
   rotate_left
   · simp only [Act.put, List.setIfInBounds_toArray, List.set_cons_zero, List.set_cons_succ, i64_w, i32_w]
     rfl
   refine done_ (by kernel_rfl) ?_
   try go_wp2
   go_roundg kj39
   case measure => have := HJ7.out; have := HK2.out; have := HJ39.out; omega
   case rel => exact ⟨(wrap64 (x10_2 + 1)), (t387), (t388), (t389), (t390), (x384000_2), (x384001_2), (x384002_2), (x384003_2), (x386000_2), (x386001_2), (x386002_2), (x386003_2), (by first | rfl | (simp; done) | (simp [*]; done)), H', ⟨by have := HJ7.out; have := HK2.out; have := HJ39.out; omega⟩, ⟨by (with_reducible repeat (first | apply Kd.R_alloc | apply Kd.R_drewN | apply Kd.R_drew)); exact Kd.R_mono HO_6.out (fun _ hk => ⟨hk.1, ⟨hk.2.1, hk.2.2.1⟩⟩)⟩, ⟨by (with_reducible repeat (first | refine blk_drewN ?_ _ | refine blk_drew ?_ | refine blk_alloc ?_ _)); exact Zb.out⟩, ⟨by (with_reducible repeat (first | refine blk_drewN ?_ _ | refine blk_drew ?_ | refine blk_alloc ?_ _)); exact Zp.out⟩, ⟨by (with_reducible repeat (first | refine blk_drewN ?_ _ | refine blk_drew ?_ | refine blk_alloc ?_ _)); exact Zbf.out⟩, ⟨by repeat (first | (with_reducible first | exact HB.out | apply below_alloc | apply pw_below_drewN | apply below_drew1 | refine below_set ?_ Zd.out | refine below_set ?_ Zr.out | refine below_set ?_ Zbh.out | refine below_set ?_ Zgr.out) | exact HB.out)⟩⟩
  rw [if_pos c91] at H
  have c91b0 : decide (t402 < 0) = true := decide_eq_true c91
  clear c91
  have H' := mA H
  clear H
  have Zis := Zgt.out
  have Zit := Zgs.out
  have Ziu := Zgv.out
  have Ziv := Zgu.out
  have Ziw := Zgx.out
  have Zix := Zgw.out
  have Zcn : wc.cell? ⟨Zgn, 0, none⟩ = some (.int .i64 t387) := (blk_cell Zgp.out 0).trans rfl
  have Zcp : wc.cell? ⟨Zgn, 1, none⟩ = some (.int .i64 t388) := (blk_cell Zgp.out 1).trans rfl
  have Zcq : wc.cell? ⟨Zgn, 2, none⟩ = some (.int .i64 t389) := (blk_cell Zgp.out 2).trans rfl
  have Zcr : wc.cell? ⟨Zgn, 3, none⟩ = some (.int .i64 t390) := (blk_cell Zgp.out 3).trans rfl
  have Zdi := blk_frozen Zgp.out 0
  have Zdj := blk_frozen Zgp.out 1
  have Zdk := blk_frozen Zgp.out 2
  have Zdm := blk_frozen Zgp.out 3
  have Ziy := Zs.out
  have Ziz := Zt.out
  have Zja := Zbi.out
  have Zjb := Zbj.out
  have Zcs : wc.cell? ⟨Za, 0, none⟩ = some (.int .i64 x382000_2) := (blk_cell Zb.out 0).trans rfl
  have Zct : wc.cell? ⟨Za, 1, none⟩ = some (.int .i64 x382001_2) := (blk_cell Zb.out 1).trans rfl
  have Zcu : wc.cell? ⟨Za, 2, none⟩ = some (.int .i64 x382002_2) := (blk_cell Zb.out 2).trans rfl
  have Zcv : wc.cell? ⟨Za, 3, none⟩ = some (.int .i64 x382003_2) := (blk_cell Zb.out 3).trans rfl
  have Zdn := blk_frozen Zb.out 0
  have Zdp := blk_frozen Zb.out 1
  have Zdq := blk_frozen Zb.out 2
  have Zdr := blk_frozen Zb.out 3
  try go_wp2
  have n0_ : Aside0 (Kd.R k25 25 ((((wc.setCell ⟨Za, 0, none⟩ (.int .i64 t387)).setCell ⟨Za, 1, none⟩ (.int .i64 t388)).setCell ⟨Za, 2, none⟩ (.int .i64 t389)).setCell ⟨Za, 3, none⟩ (.int .i64 t390)) w.heap.size (fun k_ => k_ ≠ Za ∧ k_ ≠ Zn ∧ k_ ≠ Zbe ∧ k_ ≠ Zgn) (.slice (some ad382) t372.length co29) t372) := ⟨by (with_reducible repeat (first | apply Kd.R_alloc | apply Kd.R_drewN | apply Kd.R_drew)); exact Kd.R_mono (Kd.R_far (p := ⟨Za, 3, none⟩) (Kd.R_far (p := ⟨Za, 2, none⟩) (Kd.R_far (p := ⟨Za, 1, none⟩) (Kd.R_far (p := ⟨Za, 0, none⟩) (Kd.R_mono HO_6.out (fun k_ hk => (⟨hk, hk.1⟩ : _ ∧ k_ ≠ Za))) (fun _ hk => hk.2) (.int .i64 t387)) (fun _ hk => hk.2) (.int .i64 t388)) (fun _ hk => hk.2) (.int .i64 t389)) (fun _ hk => hk.2) (.int .i64 t390)) (fun _ hk => ⟨hk.1.1, ⟨hk.1.2.1, ⟨hk.1.2.2.1, hk.1.2.2.2⟩⟩⟩)⟩
  have n1_ : Aside0 (((((wc.setCell ⟨Za, 0, none⟩ (.int .i64 t387)).setCell ⟨Za, 1, none⟩ (.int .i64 t388)).setCell ⟨Za, 2, none⟩ (.int .i64 t389)).setCell ⟨Za, 3, none⟩ (.int .i64 t390)).heap[Za]? = some (.cells #[.int .i64 t387, .int .i64 t388, .int .i64 t389, .int .i64 t390] 25 (0, 0))) := ⟨by (with_reducible repeat (first | refine blk_drewN ?_ _ | refine blk_drew ?_ | refine blk_alloc ?_ _)); refine put4 (v0 := .int .i64 x382000_2) (v1 := .int .i64 x382001_2) (v2 := .int .i64 x382002_2) (v3 := .int .i64 x382003_2) ?_ _ _ _ _; (with_reducible repeat (first | refine blk_drewN ?_ _ | refine blk_drew ?_ | refine blk_alloc ?_ _)); exact Zb.out⟩
  have n2_ : Aside0 (((((wc.setCell ⟨Za, 0, none⟩ (.int .i64 t387)).setCell ⟨Za, 1, none⟩ (.int .i64 t388)).setCell ⟨Za, 2, none⟩ (.int .i64 t389)).setCell ⟨Za, 3, none⟩ (.int .i64 t390)).heap[Zn]? = some (.cells #[.int .i64 x384000_2, .int .i64 x384001_2, .int .i64 x384002_2, .int .i64 x384003_2] 25 (0, 0))) := ⟨by (with_reducible repeat (first | refine blk_drewN ?_ _ | refine blk_drew ?_ | refine blk_alloc ?_ _)); refine far4 ?_ Zt.out _ _ _ _; (with_reducible repeat (first | refine blk_drewN ?_ _ | refine blk_drew ?_ | refine blk_alloc ?_ _)); exact Zp.out⟩
  have n3_ : Aside0 (((((wc.setCell ⟨Za, 0, none⟩ (.int .i64 t387)).setCell ⟨Za, 1, none⟩ (.int .i64 t388)).setCell ⟨Za, 2, none⟩ (.int .i64 t389)).setCell ⟨Za, 3, none⟩ (.int .i64 t390)).heap[Zbe]? = some (.cells #[.int .i64 x386000_2, .int .i64 x386001_2, .int .i64 x386002_2, .int .i64 x386003_2] 25 (0, 0))) := ⟨by (with_reducible repeat (first | refine blk_drewN ?_ _ | refine blk_drew ?_ | refine blk_alloc ?_ _)); refine far4 ?_ Zbj.out _ _ _ _; (with_reducible repeat (first | refine blk_drewN ?_ _ | refine blk_drew ?_ | refine blk_alloc ?_ _)); exact Zbf.out⟩
  have n4_ : Aside0 (((((wc.setCell ⟨Za, 0, none⟩ (.int .i64 t387)).setCell ⟨Za, 1, none⟩ (.int .i64 t388)).setCell ⟨Za, 2, none⟩ (.int .i64 t389)).setCell ⟨Za, 3, none⟩ (.int .i64 t390)).heap[Zgn]? = some (.cells #[.int .i64 t387, .int .i64 t388, .int .i64 t389, .int .i64 t390] 25 (0, 0))) := ⟨by (with_reducible repeat (first | refine blk_drewN ?_ _ | refine blk_drew ?_ | refine blk_alloc ?_ _)); refine far4 ?_ Zgt.out _ _ _ _; (with_reducible repeat (first | refine blk_drewN ?_ _ | refine blk_drew ?_ | refine blk_alloc ?_ _)); exact Zgp.out⟩
  have n5_ : Aside0 (Below w.heap.size w ((((wc.setCell ⟨Za, 0, none⟩ (.int .i64 t387)).setCell ⟨Za, 1, none⟩ (.int .i64 t388)).setCell ⟨Za, 2, none⟩ (.int .i64 t389)).setCell ⟨Za, 3, none⟩ (.int .i64 t390))) := ⟨by repeat (first | (with_reducible first | exact HB.out | apply below_alloc | apply pw_below_drewN | apply below_drew1 | refine below_set ?_ Zd.out | refine below_set ?_ Zr.out | refine below_set ?_ Zbh.out | refine below_set ?_ Zgr.out) | exact HB.out)⟩
  (try clear HO_6)
  (try clear Zb)
  (try clear Zp)
  (try clear Zbf)
  (try clear Zgp)
  (try clear HB)
  generalize ((((wc.setCell ⟨Za, 0, none⟩ (.int .i64 t387)).setCell ⟨Za, 1, none⟩ (.int .i64 t388)).setCell ⟨Za, 2, none⟩ (.int .i64 t389)).setCell ⟨Za, 3, none⟩ (.int .i64 t390)) = w99 at n0_ n1_ n2_ n3_ n4_ n5_ ⊢
  have HO_6 := n0_
  have Zb := n1_
  have Zp := n2_
  have Zbf := n3_
  have Zgp := n4_
  have HB := n5_
  clear n0_ n1_ n2_ n3_ n4_ n5_
  have n0_ := mA (Kd.R_drew HO_6.out)
  have n1_ := mA (blk_drew Zb.out)
  have n2_ := mA (blk_drew Zp.out)
  have n3_ := mA (blk_drew Zbf.out)
  have n4_ := mA (blk_drew Zgp.out)
  have n5_ := mA (below_drew1 HB.out)
  clear HO_6
  clear Zb
  clear Zp
  clear Zbf
  clear Zgp
  clear HB
  have HO_6 := n0_
  have Zb := n1_
  have Zp := n2_
  have Zbf := n3_
  have Zgp := n4_
  have HB := n5_
  clear n0_ n1_ n2_ n3_ n4_ n5_
  have p395 : 0 ≤ (x10_2 : Int) := of_decide_eq_true (by first | (with_reducible assumption) | assumption)
  have q395 : x10_2 < (t372.length : Int) := of_decide_eq_true (by first | (with_reducible assumption) | assumption)
  obtain ⟨ad395, e395, hx395_0, hx395_1, hx395_2, hx395_3⟩ := at_T25 (Kd.R_reads' HO_6.out).2.2 x10_2 p395 q395
  obtain rfl : ad382 = ad395 := (by injection e395)
  replace p395 := eq_true p395
  replace q395 := eq_true q395
  refine start_ (n := 7) (S := fun w' => w'.cell? ⟨Zn, 0, none⟩ = some (.int .i64 x384000_2) ∧ w'.cell? ⟨Zn, 1, none⟩ = some (.int .i64 x384001_2) ∧ w'.cell? ⟨Zn, 2, none⟩ = some (.int .i64 x384002_2) ∧ w'.cell? ⟨Zn, 3, none⟩ = some (.int .i64 x384003_2) ∧ w'.cell? (ad382.add ((x10_2).toNat * 4)) = some (.int .i64 ((rd_T25 t372 x10_2).f0)) ∧ w'.cell? ⟨(ad382.add ((x10_2).toNat * 4)).block, (ad382.add ((x10_2).toNat * 4)).off + 1, none⟩ = some (.int .i64 ((rd_T25 t372 x10_2).f1)) ∧ w'.cell? ⟨(ad382.add ((x10_2).toNat * 4)).block, (ad382.add ((x10_2).toNat * 4)).off + 2, none⟩ = some (.int .i64 ((rd_T25 t372 x10_2).f2)) ∧ w'.cell? ⟨(ad382.add ((x10_2).toNat * 4)).block, (ad382.add ((x10_2).toNat * 4)).off + 3, none⟩ = some (.int .i64 ((rd_T25 t372 x10_2).f3))) (ds := []) #[false, false, false, false, false, false, false] (by kernel_rfl) rfl rfl ⟨(blk_cell Zp.out 0).trans rfl, (blk_cell Zp.out 1).trans rfl, (blk_cell Zp.out 2).trans rfl, (blk_cell Zp.out 3).trans rfl, hx395_0, hx395_1, hx395_2, hx395_3⟩ (fun hHeld => ?_)
  generalize w99.drew = w100 at HO_6 Zb Zp Zbf Zgp HB hx395_0 hx395_1 hx395_2 hx395_3 hHeld ⊢
  refine pure_ (i := 0) (N := some 87) (v := ?_) (a' := ?_) #[true, false, false, false, false, false, false] rfl rfl (by kernel_rfl) (fun _ _ _ h => h) (Or.inl ⟨by rfl, ?_⟩) ?_ ?_
  rotate_left
  · intro w'
    go_simp
    with_reducible rfl
  rotate_left
  · simp only [Act.put, List.setIfInBounds_toArray, List.set_cons_zero, List.set_cons_succ, i64_w, i32_w]
    rfl
  refine pure_ (i := 1) (N := some 88) (v := ?_) (a' := ?_) #[true, true, false, false, false, false, false] rfl rfl (by kernel_rfl) (fun _ _ _ h => h) (Or.inl ⟨by rfl, ?_⟩) ?_ ?_
  rotate_left
  · intro w'
    go_simp
    with_reducible rfl
  rotate_left
  · simp only [Act.put, List.setIfInBounds_toArray, List.set_cons_zero, List.set_cons_succ, i64_w, i32_w]
    rfl
  refine pure_ (i := 2) (N := some 89) (v := ?_) (a' := ?_) #[true, true, true, false, false, false, false] rfl rfl (by kernel_rfl) (fun _ _ _ h => h) (Or.inl ⟨by rfl, ?_⟩) ?_ ?_
  rotate_left
  · intro w'
    go_simp
    with_reducible rfl
  rotate_left
  · simp only [Act.put, List.setIfInBounds_toArray, List.set_cons_zero, List.set_cons_succ, i64_w, i32_w]
    rfl
  refine take_ (i := 3) (N := some 90) (v := ?_) (a' := ?_) #[true, true, true, true, false, false, false] rfl rfl (by kernel_rfl) (fun _ _ _ h => h) (Or.inl ⟨by rfl, ?_⟩) hHeld ?_ ?_
  rotate_left
  · rintro w' ⟨s0, s1, s2, s3, s4, s5, s6, s7⟩
    go_simp
    with_reducible rfl
  rotate_left
  · simp only [Act.put, List.setIfInBounds_toArray, List.set_cons_zero, List.set_cons_succ, i64_w, i32_w]
    rfl
  refine take_ (i := 4) (N := some 91) (v := ?_) (a' := ?_) #[true, true, true, true, true, false, false] rfl rfl (by kernel_rfl) (fun _ _ _ h => h) (Or.inl ⟨by rfl, ?_⟩) hHeld ?_ ?_
  rotate_left
  · rintro w' ⟨s0, s1, s2, s3, s4, s5, s6, s7⟩
    go_simp
    with_reducible rfl
  rotate_left
  · simp only [Act.put, List.setIfInBounds_toArray, List.set_cons_zero, List.set_cons_succ, i64_w, i32_w]
    rfl
  refine one_ (i := 5) (N := some 92) #[true, true, true, true, true, true, false] rfl rfl (by kernel_rfl) (by decide) (fun K hK => ?_)
  refine goes_ Try.func30 (by kernel_rfl) rfl #[.agg #[.int .i64 ((rd_T25 t372 x10_2).f0), .int .i64 ((rd_T25 t372 x10_2).f1), .int .i64 ((rd_T25 t372 x10_2).f2), .int .i64 ((rd_T25 t372 x10_2).f3)], .agg #[.int .i64 x384000_2, .int .i64 x384001_2, .int .i64 x384002_2, .int .i64 x384003_2]] (by rfl) rfl rfl (by (try simp only [List.map_toArray, List.map_cons, List.map_nil]); first | done | rfl | (simp only [List.length_drop, List.length_take]; rfl)) ?_
  with_reducible refine (impl_CompareIntervals.calls kj39 ((rd_T25 t372 x10_2).f0) ((rd_T25 t372 x10_2).f1) ((rd_T25 t372 x10_2).f2) ((rd_T25 t372 x10_2).f3) x384000_2 x384001_2 x384002_2 x384003_2 t396 _ A55.out).mono ?_
  rintro e w101 ⟨rfl, hb⟩
  have HS4_ := (hb.cell (World.block_lt_of_cell? _ _ (hHeld.2.2.2.2.1))).trans (hHeld.2.2.2.2.1)
  have HS5_ := (hb.cell (World.block_lt_of_cell? _ _ (hHeld.2.2.2.2.2.1))).trans (hHeld.2.2.2.2.2.1)
  have HS6_ := (hb.cell (World.block_lt_of_cell? _ _ (hHeld.2.2.2.2.2.2.1))).trans (hHeld.2.2.2.2.2.2.1)
  have HS7_ := (hb.cell (World.block_lt_of_cell? _ _ (hHeld.2.2.2.2.2.2.2))).trans (hHeld.2.2.2.2.2.2.2)
  refine ⟨_, rfl, ?_⟩
  have n0_ := mA (Kd.R_below (by (with_reducible repeat (first | apply Kd.R_alloc | apply Kd.R_drewN | apply Kd.R_drew)); exact HO_6.out) hb)
  have n1_ := mA (blk_below (g := Za) (o := cQ25 t387 t388 t389 t390) Zb.out hb)
  have n2_ := mA (blk_below (g := Zn) (o := cQ25 x384000_2 x384001_2 x384002_2 x384003_2) Zp.out hb)
  have n3_ := mA (blk_below (g := Zbe) (o := cQ25 x386000_2 x386001_2 x386002_2 x386003_2) Zbf.out hb)
  have n4_ := mA (blk_below (g := Zgn) (o := cQ25 t387 t388 t389 t390) Zgp.out hb)
  have n5_ := mA (below_step (by repeat (first | (with_reducible first | exact HB.out | apply below_alloc | apply pw_below_drewN | apply below_drew1 | refine below_set ?_ Zd.out | refine below_set ?_ Zr.out | refine below_set ?_ Zbh.out | refine below_set ?_ Zgr.out) | exact HB.out)) hb)
  clear HO_6
  clear Zb
  clear Zp
  clear Zbf
  clear Zgp
  clear HB
  have HO_6 := n0_
  have Zb := n1_
  have Zp := n2_
  have Zbf := n3_
  have Zgp := n4_
  have HB := n5_
  clear n0_ n1_ n2_ n3_ n4_ n5_
  (try clear hb)
  (try clear hb2)
  (try clear hk)
  (try clear hi)
  refine hK.out _ _ ⟨(blk_cell Zp.out 0).trans rfl, (blk_cell Zp.out 1).trans rfl, (blk_cell Zp.out 2).trans rfl, (blk_cell Zp.out 3).trans rfl, HS4_, HS5_, HS6_, HS7_⟩ (fun hHeld => ?_)
  clear hK K
  refine norm_ (a' := ?_) ?_ ?_
  rotate_left
  · show Act.put _ (some 92) _ = _
    simp only [Act.put, List.setIfInBounds_toArray, List.set_cons_zero, List.set_cons_succ, i64_w, i32_w]
    rfl
  refine pure_ (i := 6) (N := some 93) (v := ?_) (a' := ?_) #[true, true, true, true, true, true, true] rfl rfl (by kernel_rfl) (fun _ _ _ h => h) (Or.inl ⟨by rfl, ?_⟩) ?_ ?_
  rotate_left
  · intro w'
    go_simp
    with_reducible rfl
  rotate_left
  · simp only [Act.put, List.setIfInBounds_toArray, List.set_cons_zero, List.set_cons_succ, i64_w, i32_w]
    rfl
  refine done_ (by kernel_rfl) ?_
  try go_wp2
  have n0_ := mA (Kd.R_drew HO_6.out)
  have n1_ := mA (blk_drew Zb.out)
  have n2_ := mA (blk_drew Zp.out)
  have n3_ := mA (blk_drew Zbf.out)
  have n4_ := mA (blk_drew Zgp.out)
  have n5_ := mA (below_drew1 HB.out)
  clear HO_6
  clear Zb
  clear Zp
  clear Zbf
  clear Zgp
  clear HB
  have HO_6 := n0_
  have Zb := n1_
  have Zp := n2_
  have Zbf := n3_
  have Zgp := n4_
  have HB := n5_
  clear n0_ n1_ n2_ n3_ n4_ n5_
  have p401 : 0 ≤ (x10_2 : Int) := of_decide_eq_true (by first | (with_reducible assumption) | assumption)
  have q401 : x10_2 < (t372.length : Int) := of_decide_eq_true (by first | (with_reducible assumption) | assumption)
  obtain ⟨ad401, e401, hx401_0, hx401_1, hx401_2, hx401_3⟩ := at_T25 (Kd.R_reads' HO_6.out).2.2 x10_2 p401 q401
  obtain rfl : ad382 = ad401 := (by injection e401)
  replace p401 := eq_true p401
  replace q401 := eq_true q401
  refine start_ (n := 7) (S := fun w' => w'.cell? ⟨Zbe, 0, none⟩ = some (.int .i64 x386000_2) ∧ w'.cell? ⟨Zbe, 1, none⟩ = some (.int .i64 x386001_2) ∧ w'.cell? ⟨Zbe, 2, none⟩ = some (.int .i64 x386002_2) ∧ w'.cell? ⟨Zbe, 3, none⟩ = some (.int .i64 x386003_2) ∧ w'.cell? (ad382.add ((x10_2).toNat * 4)) = some (.int .i64 ((rd_T25 t372 x10_2).f0)) ∧ w'.cell? ⟨(ad382.add ((x10_2).toNat * 4)).block, (ad382.add ((x10_2).toNat * 4)).off + 1, none⟩ = some (.int .i64 ((rd_T25 t372 x10_2).f1)) ∧ w'.cell? ⟨(ad382.add ((x10_2).toNat * 4)).block, (ad382.add ((x10_2).toNat * 4)).off + 2, none⟩ = some (.int .i64 ((rd_T25 t372 x10_2).f2)) ∧ w'.cell? ⟨(ad382.add ((x10_2).toNat * 4)).block, (ad382.add ((x10_2).toNat * 4)).off + 3, none⟩ = some (.int .i64 ((rd_T25 t372 x10_2).f3))) (ds := []) #[false, false, false, false, false, false, false] (by kernel_rfl) rfl rfl ⟨(blk_cell Zbf.out 0).trans rfl, (blk_cell Zbf.out 1).trans rfl, (blk_cell Zbf.out 2).trans rfl, (blk_cell Zbf.out 3).trans rfl, hx401_0, hx401_1, hx401_2, hx401_3⟩ (fun hHeld => ?_)
  generalize w101.drew = w102 at HO_6 Zb Zp Zbf Zgp HB hx401_0 hx401_1 hx401_2 hx401_3 hHeld ⊢
  refine pure_ (i := 0) (N := some 98) (v := ?_) (a' := ?_) #[true, false, false, false, false, false, false] rfl rfl (by kernel_rfl) (fun _ _ _ h => h) (Or.inl ⟨by rfl, ?_⟩) ?_ ?_
  rotate_left
  · intro w'
    go_simp
    with_reducible rfl
  rotate_left
  · simp only [Act.put, List.setIfInBounds_toArray, List.set_cons_zero, List.set_cons_succ, i64_w, i32_w]
    rfl
  refine pure_ (i := 1) (N := some 99) (v := ?_) (a' := ?_) #[true, true, false, false, false, false, false] rfl rfl (by kernel_rfl) (fun _ _ _ h => h) (Or.inl ⟨by rfl, ?_⟩) ?_ ?_
  rotate_left
  · intro w'
    go_simp
    with_reducible rfl
  rotate_left
  · simp only [Act.put, List.setIfInBounds_toArray, List.set_cons_zero, List.set_cons_succ, i64_w, i32_w]
    rfl
  refine pure_ (i := 2) (N := some 100) (v := ?_) (a' := ?_) #[true, true, true, false, false, false, false] rfl rfl (by kernel_rfl) (fun _ _ _ h => h) (Or.inl ⟨by rfl, ?_⟩) ?_ ?_
  rotate_left
  · intro w'
    go_simp
    with_reducible rfl
  rotate_left
  · simp only [Act.put, List.setIfInBounds_toArray, List.set_cons_zero, List.set_cons_succ, i64_w, i32_w]
    rfl
  refine take_ (i := 3) (N := some 101) (v := ?_) (a' := ?_) #[true, true, true, true, false, false, false] rfl rfl (by kernel_rfl) (fun _ _ _ h => h) (Or.inl ⟨by rfl, ?_⟩) hHeld ?_ ?_
  rotate_left
  · rintro w' ⟨s0, s1, s2, s3, s4, s5, s6, s7⟩
    go_simp
    with_reducible rfl
  rotate_left
  · simp only [Act.put, List.setIfInBounds_toArray, List.set_cons_zero, List.set_cons_succ, i64_w, i32_w]
    rfl
  refine take_ (i := 4) (N := some 102) (v := ?_) (a' := ?_) #[true, true, true, true, true, false, false] rfl rfl (by kernel_rfl) (fun _ _ _ h => h) (Or.inl ⟨by rfl, ?_⟩) hHeld ?_ ?_
  rotate_left
  · rintro w' ⟨s0, s1, s2, s3, s4, s5, s6, s7⟩
    go_simp
    with_reducible rfl
  rotate_left
  · simp only [Act.put, List.setIfInBounds_toArray, List.set_cons_zero, List.set_cons_succ, i64_w, i32_w]
    rfl
  refine one_ (i := 5) (N := some 103) #[true, true, true, true, true, true, false] rfl rfl (by kernel_rfl) (by decide) (fun K hK => ?_)
  refine goes_ Try.func30 (by kernel_rfl) rfl #[.agg #[.int .i64 ((rd_T25 t372 x10_2).f0), .int .i64 ((rd_T25 t372 x10_2).f1), .int .i64 ((rd_T25 t372 x10_2).f2), .int .i64 ((rd_T25 t372 x10_2).f3)], .agg #[.int .i64 x386000_2, .int .i64 x386001_2, .int .i64 x386002_2, .int .i64 x386003_2]] (by rfl) rfl rfl (by (try simp only [List.map_toArray, List.map_cons, List.map_nil]); first | done | rfl | (simp only [List.length_drop, List.length_take]; rfl)) ?_
  with_reducible refine (impl_CompareIntervals.calls kj39 ((rd_T25 t372 x10_2).f0) ((rd_T25 t372 x10_2).f1) ((rd_T25 t372 x10_2).f2) ((rd_T25 t372 x10_2).f3) x386000_2 x386001_2 x386002_2 x386003_2 t402 _ A90.out).mono ?_
  rintro e w103 ⟨rfl, hb⟩
  have HS4_ := (hb.cell (World.block_lt_of_cell? _ _ (hHeld.2.2.2.2.1))).trans (hHeld.2.2.2.2.1)
  have HS5_ := (hb.cell (World.block_lt_of_cell? _ _ (hHeld.2.2.2.2.2.1))).trans (hHeld.2.2.2.2.2.1)
  have HS6_ := (hb.cell (World.block_lt_of_cell? _ _ (hHeld.2.2.2.2.2.2.1))).trans (hHeld.2.2.2.2.2.2.1)
  have HS7_ := (hb.cell (World.block_lt_of_cell? _ _ (hHeld.2.2.2.2.2.2.2))).trans (hHeld.2.2.2.2.2.2.2)
  refine ⟨_, rfl, ?_⟩
  have n0_ := mA (Kd.R_below (by (with_reducible repeat (first | apply Kd.R_alloc | apply Kd.R_drewN | apply Kd.R_drew)); exact HO_6.out) hb)
  have n1_ := mA (blk_below (g := Za) (o := cQ25 t387 t388 t389 t390) Zb.out hb)
  have n2_ := mA (blk_below (g := Zn) (o := cQ25 x384000_2 x384001_2 x384002_2 x384003_2) Zp.out hb)
  have n3_ := mA (blk_below (g := Zbe) (o := cQ25 x386000_2 x386001_2 x386002_2 x386003_2) Zbf.out hb)
  have n4_ := mA (blk_below (g := Zgn) (o := cQ25 t387 t388 t389 t390) Zgp.out hb)
  have n5_ := mA (below_step (by repeat (first | (with_reducible first | exact HB.out | apply below_alloc | apply pw_below_drewN | apply below_drew1 | refine below_set ?_ Zd.out | refine below_set ?_ Zr.out | refine below_set ?_ Zbh.out | refine below_set ?_ Zgr.out) | exact HB.out)) hb)
  clear HO_6
  clear Zb
  clear Zp
  clear Zbf
  clear Zgp
  clear HB
  have HO_6 := n0_
  have Zb := n1_
  have Zp := n2_
  have Zbf := n3_
  have Zgp := n4_
  have HB := n5_
  clear n0_ n1_ n2_ n3_ n4_ n5_
  (try clear hb)
  (try clear hb2)
  (try clear hk)
  (try clear hi)
  refine hK.out _ _ ⟨(blk_cell Zbf.out 0).trans rfl, (blk_cell Zbf.out 1).trans rfl, (blk_cell Zbf.out 2).trans rfl, (blk_cell Zbf.out 3).trans rfl, HS4_, HS5_, HS6_, HS7_⟩ (fun hHeld => ?_)
  clear hK K
  refine norm_ (a' := ?_) ?_ ?_
  rotate_left
  · show Act.put _ (some 103) _ = _
    simp only [Act.put, List.setIfInBounds_toArray, List.set_cons_zero, List.set_cons_succ, i64_w, i32_w]
    rfl
  refine pure_ (i := 6) (N := some 104) (v := ?_) (a' := ?_) #[true, true, true, true, true, true, true] rfl rfl (by kernel_rfl) (fun _ _ _ h => h) (Or.inl ⟨by rfl, ?_⟩) ?_ ?_
  rotate_left
  · intro w'
    go_simp
    with_reducible rfl
  rotate_left
  · simp only [Act.put, List.setIfInBounds_toArray, List.set_cons_zero, List.set_cons_succ, i64_w, i32_w]
    rfl
  refine done_ (by kernel_rfl) ?_
  have p403 : 0 ≤ (x10_2 : Int) := of_decide_eq_true (by first | (with_reducible assumption) | assumption)
  have q403 : x10_2 < (t372.length : Int) := of_decide_eq_true (by first | (with_reducible assumption) | assumption)
  obtain ⟨ad403, e403, hx403_0, hx403_1, hx403_2, hx403_3⟩ := at_T25 (Kd.R_reads' HO_6.out).2.2 x10_2 p403 q403
  obtain rfl : ad382 = ad403 := (by injection e403)
  replace p403 := eq_true p403
  replace q403 := eq_true q403
  have Zjc := Zbm.out
  have Zjd := Zbk.out
  have Zca : w103.cell? ⟨Zbe, 0, none⟩ = some (.int .i64 x386000_2) := (blk_cell Zbf.out 0).trans rfl
  have Zcb : w103.cell? ⟨Zbe, 1, none⟩ = some (.int .i64 x386001_2) := (blk_cell Zbf.out 1).trans rfl
  have Zcc : w103.cell? ⟨Zbe, 2, none⟩ = some (.int .i64 x386002_2) := (blk_cell Zbf.out 2).trans rfl
  have Zcd : w103.cell? ⟨Zbe, 3, none⟩ = some (.int .i64 x386003_2) := (blk_cell Zbf.out 3).trans rfl
  have Zcw := blk_frozen Zbf.out 0
  have Zcx := blk_frozen Zbf.out 1
  have Zcy := blk_frozen Zbf.out 2
  have Zcz := blk_frozen Zbf.out 3
  try go_wp2
  go_roundg kj39
  case measure => have := HJ7.out; have := HK2.out; have := HJ39.out; omega
  case rel => exact ⟨(wrap64 (x10_2 + 1)), (t387), (t388), (t389), (t390), (x384000_2), (x384001_2), (x384002_2), (x384003_2), ((rd_T25 t372 x10_2).f0), ((rd_T25 t372 x10_2).f1), ((rd_T25 t372 x10_2).f2), ((rd_T25 t372 x10_2).f3), (by first | rfl | (simp; done) | (simp [*]; done)), H', ⟨by have := HJ7.out; have := HK2.out; have := HJ39.out; omega⟩, ⟨by (with_reducible repeat (first | apply Kd.R_alloc | apply Kd.R_drewN | apply Kd.R_drew)); exact Kd.R_mono (Kd.R_far (p := ⟨Zbe, 3, none⟩) (Kd.R_far (p := ⟨Zbe, 2, none⟩) (Kd.R_far (p := ⟨Zbe, 1, none⟩) (Kd.R_far (p := ⟨Zbe, 0, none⟩) (Kd.R_mono HO_6.out (fun k_ hk => (⟨hk, hk.2.2.1⟩ : _ ∧ k_ ≠ Zbe))) (fun _ hk => hk.2) (.int .i64 ((rd_T25 t372 x10_2).f0))) (fun _ hk => hk.2) (.int .i64 ((rd_T25 t372 x10_2).f1))) (fun _ hk => hk.2) (.int .i64 ((rd_T25 t372 x10_2).f2))) (fun _ hk => hk.2) (.int .i64 ((rd_T25 t372 x10_2).f3))) (fun _ hk => ⟨hk.1.1, ⟨hk.1.2.1, hk.1.2.2.1⟩⟩)⟩, ⟨by (with_reducible repeat (first | refine blk_drewN ?_ _ | refine blk_drew ?_ | refine blk_alloc ?_ _)); refine far4 ?_ Zbi.out _ _ _ _; (with_reducible repeat (first | refine blk_drewN ?_ _ | refine blk_drew ?_ | refine blk_alloc ?_ _)); exact Zb.out⟩, ⟨by (with_reducible repeat (first | refine blk_drewN ?_ _ | refine blk_drew ?_ | refine blk_alloc ?_ _)); refine far4 ?_ Zbk.out _ _ _ _; (with_reducible repeat (first | refine blk_drewN ?_ _ | refine blk_drew ?_ | refine blk_alloc ?_ _)); exact Zp.out⟩, ⟨by (with_reducible repeat (first | refine blk_drewN ?_ _ | refine blk_drew ?_ | refine blk_alloc ?_ _)); refine put4 (v0 := .int .i64 x386000_2) (v1 := .int .i64 x386001_2) (v2 := .int .i64 x386002_2) (v3 := .int .i64 x386003_2) ?_ _ _ _ _; (with_reducible repeat (first | refine blk_drewN ?_ _ | refine blk_drew ?_ | refine blk_alloc ?_ _)); exact Zbf.out⟩, ⟨by repeat (first | (with_reducible first | exact HB.out | apply below_alloc | apply pw_below_drewN | apply below_drew1 | refine below_set ?_ Zd.out | refine below_set ?_ Zr.out | refine below_set ?_ Zbh.out | refine below_set ?_ Zgr.out) | exact HB.out)⟩⟩
 rw [if_pos c56] at H
 have c56b0 : decide (0 < t396) = true := decide_eq_true c56
 clear c56
 replace H := Option.bind_eq_some_iff.mp H
 obtain ⟨t399, A570, H⟩ := H
 replace H : (if t399 < 0 then (laws_FnThreeSteps.l0 kj39 t372 (wrap64 (x10_2 + 1)) t387 t388 t389 t390 ((rd_T25 t372 x10_2).f0) ((rd_T25 t372 x10_2).f1) ((rd_T25 t372 x10_2).f2) ((rd_T25 t372 x10_2).f3) ((rd_T25 t372 x10_2).f0) ((rd_T25 t372 x10_2).f1) ((rd_T25 t372 x10_2).f2) ((rd_T25 t372 x10_2).f3)) else (laws_FnThreeSteps.l0 kj39 t372 (wrap64 (x10_2 + 1)) t387 t388 t389 t390 ((rd_T25 t372 x10_2).f0) ((rd_T25 t372 x10_2).f1) ((rd_T25 t372 x10_2).f2) ((rd_T25 t372 x10_2).f3) x386000_2 x386001_2 x386002_2 x386003_2)) = some r := H
 have A57 := mA A570
 clear A570
 by_cases c58 : t399 < 0
 case neg =>
  rw [if_neg c58] at H
  have c58b0 : decide (t399 < 0) = false := decide_eq_false c58
  clear c58
  have H' := mA H
  clear H
  have Zje := Zgt.out
  have Zjf := Zgs.out
  have Zjg := Zgv.out
  have Zjh := Zgu.out
  have Zji := Zgx.out
  have Zjj := Zgw.out
  have Zjk : wc.cell? ⟨Zgn, 0, none⟩ = some (.int .i64 t387) := (blk_cell Zgp.out 0).trans rfl
  have Zjm : wc.cell? ⟨Zgn, 1, none⟩ = some (.int .i64 t388) := (blk_cell Zgp.out 1).trans rfl
  have Zjn : wc.cell? ⟨Zgn, 2, none⟩ = some (.int .i64 t389) := (blk_cell Zgp.out 2).trans rfl
  have Zjp : wc.cell? ⟨Zgn, 3, none⟩ = some (.int .i64 t390) := (blk_cell Zgp.out 3).trans rfl
  have Zjq := blk_frozen Zgp.out 0
  have Zjr := blk_frozen Zgp.out 1
  have Zjs := blk_frozen Zgp.out 2
  have Zjt := blk_frozen Zgp.out 3
  have Zju := Zs.out
  have Zjv := Zt.out
  have Zjw := Zbi.out
  have Zjx := Zbj.out
  have Zjy : wc.cell? ⟨Za, 0, none⟩ = some (.int .i64 x382000_2) := (blk_cell Zb.out 0).trans rfl
  have Zjz : wc.cell? ⟨Za, 1, none⟩ = some (.int .i64 x382001_2) := (blk_cell Zb.out 1).trans rfl
  have Zka : wc.cell? ⟨Za, 2, none⟩ = some (.int .i64 x382002_2) := (blk_cell Zb.out 2).trans rfl
  have Zkb : wc.cell? ⟨Za, 3, none⟩ = some (.int .i64 x382003_2) := (blk_cell Zb.out 3).trans rfl
  have Zkc := blk_frozen Zb.out 0
  have Zkd := blk_frozen Zb.out 1
  have Zke := blk_frozen Zb.out 2
  have Zkf := blk_frozen Zb.out 3
  try go_wp2
  have n0_ : Aside0 (Kd.R k25 25 ((((wc.setCell ⟨Za, 0, none⟩ (.int .i64 t387)).setCell ⟨Za, 1, none⟩ (.int .i64 t388)).setCell ⟨Za, 2, none⟩ (.int .i64 t389)).setCell ⟨Za, 3, none⟩ (.int .i64 t390)) w.heap.size (fun k_ => k_ ≠ Za ∧ k_ ≠ Zn ∧ k_ ≠ Zbe ∧ k_ ≠ Zgn) (.slice (some ad382) t372.length co29) t372) := ⟨by (with_reducible repeat (first | apply Kd.R_alloc | apply Kd.R_drewN | apply Kd.R_drew)); exact Kd.R_mono (Kd.R_far (p := ⟨Za, 3, none⟩) (Kd.R_far (p := ⟨Za, 2, none⟩) (Kd.R_far (p := ⟨Za, 1, none⟩) (Kd.R_far (p := ⟨Za, 0, none⟩) (Kd.R_mono HO_6.out (fun k_ hk => (⟨hk, hk.1⟩ : _ ∧ k_ ≠ Za))) (fun _ hk => hk.2) (.int .i64 t387)) (fun _ hk => hk.2) (.int .i64 t388)) (fun _ hk => hk.2) (.int .i64 t389)) (fun _ hk => hk.2) (.int .i64 t390)) (fun _ hk => ⟨hk.1.1, ⟨hk.1.2.1, ⟨hk.1.2.2.1, hk.1.2.2.2⟩⟩⟩)⟩
  have n1_ : Aside0 (((((wc.setCell ⟨Za, 0, none⟩ (.int .i64 t387)).setCell ⟨Za, 1, none⟩ (.int .i64 t388)).setCell ⟨Za, 2, none⟩ (.int .i64 t389)).setCell ⟨Za, 3, none⟩ (.int .i64 t390)).heap[Za]? = some (.cells #[.int .i64 t387, .int .i64 t388, .int .i64 t389, .int .i64 t390] 25 (0, 0))) := ⟨by (with_reducible repeat (first | refine blk_drewN ?_ _ | refine blk_drew ?_ | refine blk_alloc ?_ _)); refine put4 (v0 := .int .i64 x382000_2) (v1 := .int .i64 x382001_2) (v2 := .int .i64 x382002_2) (v3 := .int .i64 x382003_2) ?_ _ _ _ _; (with_reducible repeat (first | refine blk_drewN ?_ _ | refine blk_drew ?_ | refine blk_alloc ?_ _)); exact Zb.out⟩
  have n2_ : Aside0 (((((wc.setCell ⟨Za, 0, none⟩ (.int .i64 t387)).setCell ⟨Za, 1, none⟩ (.int .i64 t388)).setCell ⟨Za, 2, none⟩ (.int .i64 t389)).setCell ⟨Za, 3, none⟩ (.int .i64 t390)).heap[Zn]? = some (.cells #[.int .i64 x384000_2, .int .i64 x384001_2, .int .i64 x384002_2, .int .i64 x384003_2] 25 (0, 0))) := ⟨by (with_reducible repeat (first | refine blk_drewN ?_ _ | refine blk_drew ?_ | refine blk_alloc ?_ _)); refine far4 ?_ Zt.out _ _ _ _; (with_reducible repeat (first | refine blk_drewN ?_ _ | refine blk_drew ?_ | refine blk_alloc ?_ _)); exact Zp.out⟩
  have n3_ : Aside0 (((((wc.setCell ⟨Za, 0, none⟩ (.int .i64 t387)).setCell ⟨Za, 1, none⟩ (.int .i64 t388)).setCell ⟨Za, 2, none⟩ (.int .i64 t389)).setCell ⟨Za, 3, none⟩ (.int .i64 t390)).heap[Zbe]? = some (.cells #[.int .i64 x386000_2, .int .i64 x386001_2, .int .i64 x386002_2, .int .i64 x386003_2] 25 (0, 0))) := ⟨by (with_reducible repeat (first | refine blk_drewN ?_ _ | refine blk_drew ?_ | refine blk_alloc ?_ _)); refine far4 ?_ Zbj.out _ _ _ _; (with_reducible repeat (first | refine blk_drewN ?_ _ | refine blk_drew ?_ | refine blk_alloc ?_ _)); exact Zbf.out⟩
  have n4_ : Aside0 (((((wc.setCell ⟨Za, 0, none⟩ (.int .i64 t387)).setCell ⟨Za, 1, none⟩ (.int .i64 t388)).setCell ⟨Za, 2, none⟩ (.int .i64 t389)).setCell ⟨Za, 3, none⟩ (.int .i64 t390)).heap[Zgn]? = some (.cells #[.int .i64 t387, .int .i64 t388, .int .i64 t389, .int .i64 t390] 25 (0, 0))) := ⟨by (with_reducible repeat (first | refine blk_drewN ?_ _ | refine blk_drew ?_ | refine blk_alloc ?_ _)); refine far4 ?_ Zgt.out _ _ _ _; (with_reducible repeat (first | refine blk_drewN ?_ _ | refine blk_drew ?_ | refine blk_alloc ?_ _)); exact Zgp.out⟩
  have n5_ : Aside0 (Below w.heap.size w ((((wc.setCell ⟨Za, 0, none⟩ (.int .i64 t387)).setCell ⟨Za, 1, none⟩ (.int .i64 t388)).setCell ⟨Za, 2, none⟩ (.int .i64 t389)).setCell ⟨Za, 3, none⟩ (.int .i64 t390))) := ⟨by repeat (first | (with_reducible first | exact HB.out | apply below_alloc | apply pw_below_drewN | apply below_drew1 | refine below_set ?_ Zd.out | refine below_set ?_ Zr.out | refine below_set ?_ Zbh.out | refine below_set ?_ Zgr.out) | exact HB.out)⟩
  (try clear HO_6)
  (try clear Zb)
  (try clear Zp)
  (try clear Zbf)
  (try clear Zgp)
  (try clear HB)
  generalize ((((wc.setCell ⟨Za, 0, none⟩ (.int .i64 t387)).setCell ⟨Za, 1, none⟩ (.int .i64 t388)).setCell ⟨Za, 2, none⟩ (.int .i64 t389)).setCell ⟨Za, 3, none⟩ (.int .i64 t390)) = w82 at n0_ n1_ n2_ n3_ n4_ n5_ ⊢
  have HO_6 := n0_
  have Zb := n1_
  have Zp := n2_
  have Zbf := n3_
  have Zgp := n4_
  have HB := n5_
  clear n0_ n1_ n2_ n3_ n4_ n5_
  have n0_ := mA (Kd.R_drew HO_6.out)
  have n1_ := mA (blk_drew Zb.out)
  have n2_ := mA (blk_drew Zp.out)
  have n3_ := mA (blk_drew Zbf.out)
  have n4_ := mA (blk_drew Zgp.out)
  have n5_ := mA (below_drew1 HB.out)
  clear HO_6
  clear Zb
  clear Zp
  clear Zbf
  clear Zgp
  clear HB
  have HO_6 := n0_
  have Zb := n1_
  have Zp := n2_
  have Zbf := n3_
  have Zgp := n4_
  have HB := n5_
  clear n0_ n1_ n2_ n3_ n4_ n5_
  have p395 : 0 ≤ (x10_2 : Int) := of_decide_eq_true (by first | (with_reducible assumption) | assumption)
  have q395 : x10_2 < (t372.length : Int) := of_decide_eq_true (by first | (with_reducible assumption) | assumption)
  obtain ⟨ad395, e395, hx395_0, hx395_1, hx395_2, hx395_3⟩ := at_T25 (Kd.R_reads' HO_6.out).2.2 x10_2 p395 q395
  obtain rfl : ad382 = ad395 := (by injection e395)
  replace p395 := eq_true p395
  replace q395 := eq_true q395
  refine start_ (n := 7) (S := fun w' => w'.cell? ⟨Zn, 0, none⟩ = some (.int .i64 x384000_2) ∧ w'.cell? ⟨Zn, 1, none⟩ = some (.int .i64 x384001_2) ∧ w'.cell? ⟨Zn, 2, none⟩ = some (.int .i64 x384002_2) ∧ w'.cell? ⟨Zn, 3, none⟩ = some (.int .i64 x384003_2) ∧ w'.cell? (ad382.add ((x10_2).toNat * 4)) = some (.int .i64 ((rd_T25 t372 x10_2).f0)) ∧ w'.cell? ⟨(ad382.add ((x10_2).toNat * 4)).block, (ad382.add ((x10_2).toNat * 4)).off + 1, none⟩ = some (.int .i64 ((rd_T25 t372 x10_2).f1)) ∧ w'.cell? ⟨(ad382.add ((x10_2).toNat * 4)).block, (ad382.add ((x10_2).toNat * 4)).off + 2, none⟩ = some (.int .i64 ((rd_T25 t372 x10_2).f2)) ∧ w'.cell? ⟨(ad382.add ((x10_2).toNat * 4)).block, (ad382.add ((x10_2).toNat * 4)).off + 3, none⟩ = some (.int .i64 ((rd_T25 t372 x10_2).f3))) (ds := []) #[false, false, false, false, false, false, false] (by kernel_rfl) rfl rfl ⟨(blk_cell Zp.out 0).trans rfl, (blk_cell Zp.out 1).trans rfl, (blk_cell Zp.out 2).trans rfl, (blk_cell Zp.out 3).trans rfl, hx395_0, hx395_1, hx395_2, hx395_3⟩ (fun hHeld => ?_)
  generalize w82.drew = w83 at HO_6 Zb Zp Zbf Zgp HB hx395_0 hx395_1 hx395_2 hx395_3 hHeld ⊢
  refine pure_ (i := 0) (N := some 87) (v := ?_) (a' := ?_) #[true, false, false, false, false, false, false] rfl rfl (by kernel_rfl) (fun _ _ _ h => h) (Or.inl ⟨by rfl, ?_⟩) ?_ ?_
  rotate_left
  · intro w'
    go_simp
    with_reducible rfl
  rotate_left
  · simp only [Act.put, List.setIfInBounds_toArray, List.set_cons_zero, List.set_cons_succ, i64_w, i32_w]
    rfl
  refine pure_ (i := 1) (N := some 88) (v := ?_) (a' := ?_) #[true, true, false, false, false, false, false] rfl rfl (by kernel_rfl) (fun _ _ _ h => h) (Or.inl ⟨by rfl, ?_⟩) ?_ ?_
  rotate_left
  · intro w'
    go_simp
    with_reducible rfl
  rotate_left
  · simp only [Act.put, List.setIfInBounds_toArray, List.set_cons_zero, List.set_cons_succ, i64_w, i32_w]
    rfl
  refine pure_ (i := 2) (N := some 89) (v := ?_) (a' := ?_) #[true, true, true, false, false, false, false] rfl rfl (by kernel_rfl) (fun _ _ _ h => h) (Or.inl ⟨by rfl, ?_⟩) ?_ ?_
  rotate_left
  · intro w'
    go_simp
    with_reducible rfl
  rotate_left
  · simp only [Act.put, List.setIfInBounds_toArray, List.set_cons_zero, List.set_cons_succ, i64_w, i32_w]
    rfl
  refine take_ (i := 3) (N := some 90) (v := ?_) (a' := ?_) #[true, true, true, true, false, false, false] rfl rfl (by kernel_rfl) (fun _ _ _ h => h) (Or.inl ⟨by rfl, ?_⟩) hHeld ?_ ?_
  rotate_left
  · rintro w' ⟨s0, s1, s2, s3, s4, s5, s6, s7⟩
    go_simp
    with_reducible rfl
  rotate_left
  · simp only [Act.put, List.setIfInBounds_toArray, List.set_cons_zero, List.set_cons_succ, i64_w, i32_w]
    rfl
  refine take_ (i := 4) (N := some 91) (v := ?_) (a' := ?_) #[true, true, true, true, true, false, false] rfl rfl (by kernel_rfl) (fun _ _ _ h => h) (Or.inl ⟨by rfl, ?_⟩) hHeld ?_ ?_
  rotate_left
  · rintro w' ⟨s0, s1, s2, s3, s4, s5, s6, s7⟩
    go_simp
    with_reducible rfl
  rotate_left
  · simp only [Act.put, List.setIfInBounds_toArray, List.set_cons_zero, List.set_cons_succ, i64_w, i32_w]
    rfl
  refine one_ (i := 5) (N := some 92) #[true, true, true, true, true, true, false] rfl rfl (by kernel_rfl) (by decide) (fun K hK => ?_)
  refine goes_ Try.func30 (by kernel_rfl) rfl #[.agg #[.int .i64 ((rd_T25 t372 x10_2).f0), .int .i64 ((rd_T25 t372 x10_2).f1), .int .i64 ((rd_T25 t372 x10_2).f2), .int .i64 ((rd_T25 t372 x10_2).f3)], .agg #[.int .i64 x384000_2, .int .i64 x384001_2, .int .i64 x384002_2, .int .i64 x384003_2]] (by rfl) rfl rfl (by (try simp only [List.map_toArray, List.map_cons, List.map_nil]); first | done | rfl | (simp only [List.length_drop, List.length_take]; rfl)) ?_
  with_reducible refine (impl_CompareIntervals.calls kj39 ((rd_T25 t372 x10_2).f0) ((rd_T25 t372 x10_2).f1) ((rd_T25 t372 x10_2).f2) ((rd_T25 t372 x10_2).f3) x384000_2 x384001_2 x384002_2 x384003_2 t396 _ A55.out).mono ?_
  rintro e w84 ⟨rfl, hb⟩
  have HS4_ := (hb.cell (World.block_lt_of_cell? _ _ (hHeld.2.2.2.2.1))).trans (hHeld.2.2.2.2.1)
  have HS5_ := (hb.cell (World.block_lt_of_cell? _ _ (hHeld.2.2.2.2.2.1))).trans (hHeld.2.2.2.2.2.1)
  have HS6_ := (hb.cell (World.block_lt_of_cell? _ _ (hHeld.2.2.2.2.2.2.1))).trans (hHeld.2.2.2.2.2.2.1)
  have HS7_ := (hb.cell (World.block_lt_of_cell? _ _ (hHeld.2.2.2.2.2.2.2))).trans (hHeld.2.2.2.2.2.2.2)
  refine ⟨_, rfl, ?_⟩
  have n0_ := mA (Kd.R_below (by (with_reducible repeat (first | apply Kd.R_alloc | apply Kd.R_drewN | apply Kd.R_drew)); exact HO_6.out) hb)
  have n1_ := mA (blk_below (g := Za) (o := cQ25 t387 t388 t389 t390) Zb.out hb)
  have n2_ := mA (blk_below (g := Zn) (o := cQ25 x384000_2 x384001_2 x384002_2 x384003_2) Zp.out hb)
  have n3_ := mA (blk_below (g := Zbe) (o := cQ25 x386000_2 x386001_2 x386002_2 x386003_2) Zbf.out hb)
  have n4_ := mA (blk_below (g := Zgn) (o := cQ25 t387 t388 t389 t390) Zgp.out hb)
  have n5_ := mA (below_step (by repeat (first | (with_reducible first | exact HB.out | apply below_alloc | apply pw_below_drewN | apply below_drew1 | refine below_set ?_ Zd.out | refine below_set ?_ Zr.out | refine below_set ?_ Zbh.out | refine below_set ?_ Zgr.out) | exact HB.out)) hb)
  clear HO_6
  clear Zb
  clear Zp
  clear Zbf
  clear Zgp
  clear HB
  have HO_6 := n0_
  have Zb := n1_
  have Zp := n2_
  have Zbf := n3_
  have Zgp := n4_
  have HB := n5_
  clear n0_ n1_ n2_ n3_ n4_ n5_
  (try clear hb)
  (try clear hb2)
  (try clear hk)
  (try clear hi)
  refine hK.out _ _ ⟨(blk_cell Zp.out 0).trans rfl, (blk_cell Zp.out 1).trans rfl, (blk_cell Zp.out 2).trans rfl, (blk_cell Zp.out 3).trans rfl, HS4_, HS5_, HS6_, HS7_⟩ (fun hHeld => ?_)
  clear hK K
  refine norm_ (a' := ?_) ?_ ?_
  rotate_left
  · show Act.put _ (some 92) _ = _
    simp only [Act.put, List.setIfInBounds_toArray, List.set_cons_zero, List.set_cons_succ, i64_w, i32_w]
    rfl
  refine pure_ (i := 6) (N := some 93) (v := ?_) (a' := ?_) #[true, true, true, true, true, true, true] rfl rfl (by kernel_rfl) (fun _ _ _ h => h) (Or.inl ⟨by rfl, ?_⟩) ?_ ?_
  rotate_left
  · intro w'
    go_simp
    with_reducible rfl
  rotate_left
  · simp only [Act.put, List.setIfInBounds_toArray, List.set_cons_zero, List.set_cons_succ, i64_w, i32_w]
    rfl
  refine done_ (by kernel_rfl) ?_
  have p397 : 0 ≤ (x10_2 : Int) := of_decide_eq_true (by first | (with_reducible assumption) | assumption)
  have q397 : x10_2 < (t372.length : Int) := of_decide_eq_true (by first | (with_reducible assumption) | assumption)
  obtain ⟨ad397, e397, hx397_0, hx397_1, hx397_2, hx397_3⟩ := at_T25 (Kd.R_reads' HO_6.out).2.2 x10_2 p397 q397
  obtain rfl : ad382 = ad397 := (by injection e397)
  replace p397 := eq_true p397
  replace q397 := eq_true q397
  have Zkg := Zbk.out
  have Zkh := Zbm.out
  have Zki : w84.cell? ⟨Zn, 0, none⟩ = some (.int .i64 x384000_2) := (blk_cell Zp.out 0).trans rfl
  have Zkj : w84.cell? ⟨Zn, 1, none⟩ = some (.int .i64 x384001_2) := (blk_cell Zp.out 1).trans rfl
  have Zkk : w84.cell? ⟨Zn, 2, none⟩ = some (.int .i64 x384002_2) := (blk_cell Zp.out 2).trans rfl
  have Zkm : w84.cell? ⟨Zn, 3, none⟩ = some (.int .i64 x384003_2) := (blk_cell Zp.out 3).trans rfl
  have Zkn := blk_frozen Zp.out 0
  have Zkp := blk_frozen Zp.out 1
  have Zkq := blk_frozen Zp.out 2
  have Zkr := blk_frozen Zp.out 3
  try go_wp2
  have n0_ : Aside0 (Kd.R k25 25 ((((w84.setCell ⟨Zn, 0, none⟩ (.int .i64 ((rd_T25 t372 x10_2).f0))).setCell ⟨Zn, 1, none⟩ (.int .i64 ((rd_T25 t372 x10_2).f1))).setCell ⟨Zn, 2, none⟩ (.int .i64 ((rd_T25 t372 x10_2).f2))).setCell ⟨Zn, 3, none⟩ (.int .i64 ((rd_T25 t372 x10_2).f3))) w.heap.size (fun k_ => k_ ≠ Za ∧ k_ ≠ Zn ∧ k_ ≠ Zbe ∧ k_ ≠ Zgn) (.slice (some ad382) t372.length co29) t372) := ⟨by (with_reducible repeat (first | apply Kd.R_alloc | apply Kd.R_drewN | apply Kd.R_drew)); exact Kd.R_mono (Kd.R_far (p := ⟨Zn, 3, none⟩) (Kd.R_far (p := ⟨Zn, 2, none⟩) (Kd.R_far (p := ⟨Zn, 1, none⟩) (Kd.R_far (p := ⟨Zn, 0, none⟩) (Kd.R_mono HO_6.out (fun k_ hk => (⟨hk, hk.2.1⟩ : _ ∧ k_ ≠ Zn))) (fun _ hk => hk.2) (.int .i64 ((rd_T25 t372 x10_2).f0))) (fun _ hk => hk.2) (.int .i64 ((rd_T25 t372 x10_2).f1))) (fun _ hk => hk.2) (.int .i64 ((rd_T25 t372 x10_2).f2))) (fun _ hk => hk.2) (.int .i64 ((rd_T25 t372 x10_2).f3))) (fun _ hk => ⟨hk.1.1, ⟨hk.1.2.1, ⟨hk.1.2.2.1, hk.1.2.2.2⟩⟩⟩)⟩
  have n1_ : Aside0 (((((w84.setCell ⟨Zn, 0, none⟩ (.int .i64 ((rd_T25 t372 x10_2).f0))).setCell ⟨Zn, 1, none⟩ (.int .i64 ((rd_T25 t372 x10_2).f1))).setCell ⟨Zn, 2, none⟩ (.int .i64 ((rd_T25 t372 x10_2).f2))).setCell ⟨Zn, 3, none⟩ (.int .i64 ((rd_T25 t372 x10_2).f3))).heap[Za]? = some (.cells #[.int .i64 t387, .int .i64 t388, .int .i64 t389, .int .i64 t390] 25 (0, 0))) := ⟨by (with_reducible repeat (first | refine blk_drewN ?_ _ | refine blk_drew ?_ | refine blk_alloc ?_ _)); refine far4 ?_ Zs.out _ _ _ _; (with_reducible repeat (first | refine blk_drewN ?_ _ | refine blk_drew ?_ | refine blk_alloc ?_ _)); exact Zb.out⟩
  have n2_ : Aside0 (((((w84.setCell ⟨Zn, 0, none⟩ (.int .i64 ((rd_T25 t372 x10_2).f0))).setCell ⟨Zn, 1, none⟩ (.int .i64 ((rd_T25 t372 x10_2).f1))).setCell ⟨Zn, 2, none⟩ (.int .i64 ((rd_T25 t372 x10_2).f2))).setCell ⟨Zn, 3, none⟩ (.int .i64 ((rd_T25 t372 x10_2).f3))).heap[Zn]? = some (.cells #[.int .i64 ((rd_T25 t372 x10_2).f0), .int .i64 ((rd_T25 t372 x10_2).f1), .int .i64 ((rd_T25 t372 x10_2).f2), .int .i64 ((rd_T25 t372 x10_2).f3)] 25 (0, 0))) := ⟨by (with_reducible repeat (first | refine blk_drewN ?_ _ | refine blk_drew ?_ | refine blk_alloc ?_ _)); refine put4 (v0 := .int .i64 x384000_2) (v1 := .int .i64 x384001_2) (v2 := .int .i64 x384002_2) (v3 := .int .i64 x384003_2) ?_ _ _ _ _; (with_reducible repeat (first | refine blk_drewN ?_ _ | refine blk_drew ?_ | refine blk_alloc ?_ _)); exact Zp.out⟩
  have n3_ : Aside0 (((((w84.setCell ⟨Zn, 0, none⟩ (.int .i64 ((rd_T25 t372 x10_2).f0))).setCell ⟨Zn, 1, none⟩ (.int .i64 ((rd_T25 t372 x10_2).f1))).setCell ⟨Zn, 2, none⟩ (.int .i64 ((rd_T25 t372 x10_2).f2))).setCell ⟨Zn, 3, none⟩ (.int .i64 ((rd_T25 t372 x10_2).f3))).heap[Zbe]? = some (.cells #[.int .i64 x386000_2, .int .i64 x386001_2, .int .i64 x386002_2, .int .i64 x386003_2] 25 (0, 0))) := ⟨by (with_reducible repeat (first | refine blk_drewN ?_ _ | refine blk_drew ?_ | refine blk_alloc ?_ _)); refine far4 ?_ Zbm.out _ _ _ _; (with_reducible repeat (first | refine blk_drewN ?_ _ | refine blk_drew ?_ | refine blk_alloc ?_ _)); exact Zbf.out⟩
  have n4_ : Aside0 (((((w84.setCell ⟨Zn, 0, none⟩ (.int .i64 ((rd_T25 t372 x10_2).f0))).setCell ⟨Zn, 1, none⟩ (.int .i64 ((rd_T25 t372 x10_2).f1))).setCell ⟨Zn, 2, none⟩ (.int .i64 ((rd_T25 t372 x10_2).f2))).setCell ⟨Zn, 3, none⟩ (.int .i64 ((rd_T25 t372 x10_2).f3))).heap[Zgn]? = some (.cells #[.int .i64 t387, .int .i64 t388, .int .i64 t389, .int .i64 t390] 25 (0, 0))) := ⟨by (with_reducible repeat (first | refine blk_drewN ?_ _ | refine blk_drew ?_ | refine blk_alloc ?_ _)); refine far4 ?_ Zgv.out _ _ _ _; (with_reducible repeat (first | refine blk_drewN ?_ _ | refine blk_drew ?_ | refine blk_alloc ?_ _)); exact Zgp.out⟩
  have n5_ : Aside0 (Below w.heap.size w ((((w84.setCell ⟨Zn, 0, none⟩ (.int .i64 ((rd_T25 t372 x10_2).f0))).setCell ⟨Zn, 1, none⟩ (.int .i64 ((rd_T25 t372 x10_2).f1))).setCell ⟨Zn, 2, none⟩ (.int .i64 ((rd_T25 t372 x10_2).f2))).setCell ⟨Zn, 3, none⟩ (.int .i64 ((rd_T25 t372 x10_2).f3)))) := ⟨by repeat (first | (with_reducible first | exact HB.out | apply below_alloc | apply pw_below_drewN | apply below_drew1 | refine below_set ?_ Zd.out | refine below_set ?_ Zr.out | refine below_set ?_ Zbh.out | refine below_set ?_ Zgr.out) | exact HB.out)⟩
  (try clear HO_6)
  (try clear Zb)
  (try clear Zp)
  (try clear Zbf)
  (try clear Zgp)
  (try clear HB)
  generalize ((((w84.setCell ⟨Zn, 0, none⟩ (.int .i64 ((rd_T25 t372 x10_2).f0))).setCell ⟨Zn, 1, none⟩ (.int .i64 ((rd_T25 t372 x10_2).f1))).setCell ⟨Zn, 2, none⟩ (.int .i64 ((rd_T25 t372 x10_2).f2))).setCell ⟨Zn, 3, none⟩ (.int .i64 ((rd_T25 t372 x10_2).f3))) = w87 at n0_ n1_ n2_ n3_ n4_ n5_ ⊢
  have HO_6 := n0_
  have Zb := n1_
  have Zp := n2_
  have Zbf := n3_
  have Zgp := n4_
  have HB := n5_
  clear n0_ n1_ n2_ n3_ n4_ n5_
  have n0_ := mA (Kd.R_drew HO_6.out)
  have n1_ := mA (blk_drew Zb.out)
  have n2_ := mA (blk_drew Zp.out)
  have n3_ := mA (blk_drew Zbf.out)
  have n4_ := mA (blk_drew Zgp.out)
  have n5_ := mA (below_drew1 HB.out)
  clear HO_6
  clear Zb
  clear Zp
  clear Zbf
  clear Zgp
  clear HB
  have HO_6 := n0_
  have Zb := n1_
  have Zp := n2_
  have Zbf := n3_
  have Zgp := n4_
  have HB := n5_
  clear n0_ n1_ n2_ n3_ n4_ n5_
  have p398 : 0 ≤ (x10_2 : Int) := of_decide_eq_true (by first | (with_reducible assumption) | assumption)
  have q398 : x10_2 < (t372.length : Int) := of_decide_eq_true (by first | (with_reducible assumption) | assumption)
  obtain ⟨ad398, e398, hx398_0, hx398_1, hx398_2, hx398_3⟩ := at_T25 (Kd.R_reads' HO_6.out).2.2 x10_2 p398 q398
  obtain rfl : ad382 = ad398 := (by injection e398)
  replace p398 := eq_true p398
  replace q398 := eq_true q398
  refine start_ (n := 7) (S := fun w' => w'.cell? ⟨Zbe, 0, none⟩ = some (.int .i64 x386000_2) ∧ w'.cell? ⟨Zbe, 1, none⟩ = some (.int .i64 x386001_2) ∧ w'.cell? ⟨Zbe, 2, none⟩ = some (.int .i64 x386002_2) ∧ w'.cell? ⟨Zbe, 3, none⟩ = some (.int .i64 x386003_2) ∧ w'.cell? (ad382.add ((x10_2).toNat * 4)) = some (.int .i64 ((rd_T25 t372 x10_2).f0)) ∧ w'.cell? ⟨(ad382.add ((x10_2).toNat * 4)).block, (ad382.add ((x10_2).toNat * 4)).off + 1, none⟩ = some (.int .i64 ((rd_T25 t372 x10_2).f1)) ∧ w'.cell? ⟨(ad382.add ((x10_2).toNat * 4)).block, (ad382.add ((x10_2).toNat * 4)).off + 2, none⟩ = some (.int .i64 ((rd_T25 t372 x10_2).f2)) ∧ w'.cell? ⟨(ad382.add ((x10_2).toNat * 4)).block, (ad382.add ((x10_2).toNat * 4)).off + 3, none⟩ = some (.int .i64 ((rd_T25 t372 x10_2).f3))) (ds := []) #[false, false, false, false, false, false, false] (by kernel_rfl) rfl rfl ⟨(blk_cell Zbf.out 0).trans rfl, (blk_cell Zbf.out 1).trans rfl, (blk_cell Zbf.out 2).trans rfl, (blk_cell Zbf.out 3).trans rfl, hx398_0, hx398_1, hx398_2, hx398_3⟩ (fun hHeld => ?_)
  generalize w87.drew = w88 at HO_6 Zb Zp Zbf Zgp HB hx398_0 hx398_1 hx398_2 hx398_3 hHeld ⊢
  refine pure_ (i := 0) (N := some 98) (v := ?_) (a' := ?_) #[true, false, false, false, false, false, false] rfl rfl (by kernel_rfl) (fun _ _ _ h => h) (Or.inl ⟨by rfl, ?_⟩) ?_ ?_
  rotate_left
  · intro w'
    go_simp
    with_reducible rfl
  rotate_left
  · simp only [Act.put, List.setIfInBounds_toArray, List.set_cons_zero, List.set_cons_succ, i64_w, i32_w]
    rfl
  refine pure_ (i := 1) (N := some 99) (v := ?_) (a' := ?_) #[true, true, false, false, false, false, false] rfl rfl (by kernel_rfl) (fun _ _ _ h => h) (Or.inl ⟨by rfl, ?_⟩) ?_ ?_
  rotate_left
  · intro w'
    go_simp
    with_reducible rfl
  rotate_left
  · simp only [Act.put, List.setIfInBounds_toArray, List.set_cons_zero, List.set_cons_succ, i64_w, i32_w]
    rfl
  refine pure_ (i := 2) (N := some 100) (v := ?_) (a' := ?_) #[true, true, true, false, false, false, false] rfl rfl (by kernel_rfl) (fun _ _ _ h => h) (Or.inl ⟨by rfl, ?_⟩) ?_ ?_
  rotate_left
  · intro w'
    go_simp
    with_reducible rfl
  rotate_left
  · simp only [Act.put, List.setIfInBounds_toArray, List.set_cons_zero, List.set_cons_succ, i64_w, i32_w]
    rfl
  refine take_ (i := 3) (N := some 101) (v := ?_) (a' := ?_) #[true, true, true, true, false, false, false] rfl rfl (by kernel_rfl) (fun _ _ _ h => h) (Or.inl ⟨by rfl, ?_⟩) hHeld ?_ ?_
  rotate_left
  · rintro w' ⟨s0, s1, s2, s3, s4, s5, s6, s7⟩
    go_simp
    with_reducible rfl
  rotate_left
  · simp only [Act.put, List.setIfInBounds_toArray, List.set_cons_zero, List.set_cons_succ, i64_w, i32_w]
    rfl
  refine take_ (i := 4) (N := some 102) (v := ?_) (a' := ?_) #[true, true, true, true, true, false, false] rfl rfl (by kernel_rfl) (fun _ _ _ h => h) (Or.inl ⟨by rfl, ?_⟩) hHeld ?_ ?_
  rotate_left
  · rintro w' ⟨s0, s1, s2, s3, s4, s5, s6, s7⟩
    go_simp
    with_reducible rfl
  rotate_left
  · simp only [Act.put, List.setIfInBounds_toArray, List.set_cons_zero, List.set_cons_succ, i64_w, i32_w]
    rfl
  refine one_ (i := 5) (N := some 103) #[true, true, true, true, true, true, false] rfl rfl (by kernel_rfl) (by decide) (fun K hK => ?_)
  refine goes_ Try.func30 (by kernel_rfl) rfl #[.agg #[.int .i64 ((rd_T25 t372 x10_2).f0), .int .i64 ((rd_T25 t372 x10_2).f1), .int .i64 ((rd_T25 t372 x10_2).f2), .int .i64 ((rd_T25 t372 x10_2).f3)], .agg #[.int .i64 x386000_2, .int .i64 x386001_2, .int .i64 x386002_2, .int .i64 x386003_2]] (by rfl) rfl rfl (by (try simp only [List.map_toArray, List.map_cons, List.map_nil]); first | done | rfl | (simp only [List.length_drop, List.length_take]; rfl)) ?_
  with_reducible refine (impl_CompareIntervals.calls kj39 ((rd_T25 t372 x10_2).f0) ((rd_T25 t372 x10_2).f1) ((rd_T25 t372 x10_2).f2) ((rd_T25 t372 x10_2).f3) x386000_2 x386001_2 x386002_2 x386003_2 t399 _ A57.out).mono ?_
  rintro e w89 ⟨rfl, hb⟩
  have HS4_ := (hb.cell (World.block_lt_of_cell? _ _ (hHeld.2.2.2.2.1))).trans (hHeld.2.2.2.2.1)
  have HS5_ := (hb.cell (World.block_lt_of_cell? _ _ (hHeld.2.2.2.2.2.1))).trans (hHeld.2.2.2.2.2.1)
  have HS6_ := (hb.cell (World.block_lt_of_cell? _ _ (hHeld.2.2.2.2.2.2.1))).trans (hHeld.2.2.2.2.2.2.1)
  have HS7_ := (hb.cell (World.block_lt_of_cell? _ _ (hHeld.2.2.2.2.2.2.2))).trans (hHeld.2.2.2.2.2.2.2)
  refine ⟨_, rfl, ?_⟩
  have n0_ := mA (Kd.R_below (by (with_reducible repeat (first | apply Kd.R_alloc | apply Kd.R_drewN | apply Kd.R_drew)); exact HO_6.out) hb)
  have n1_ := mA (blk_below (g := Za) (o := cQ25 t387 t388 t389 t390) Zb.out hb)
  have n2_ := mA (blk_below (g := Zn) (o := cQ25 (((rd_T25 t372 x10_2).f0)) (((rd_T25 t372 x10_2).f1)) (((rd_T25 t372 x10_2).f2)) (((rd_T25 t372 x10_2).f3))) Zp.out hb)
  have n3_ := mA (blk_below (g := Zbe) (o := cQ25 x386000_2 x386001_2 x386002_2 x386003_2) Zbf.out hb)
  have n4_ := mA (blk_below (g := Zgn) (o := cQ25 t387 t388 t389 t390) Zgp.out hb)
  have n5_ := mA (below_step (by repeat (first | (with_reducible first | exact HB.out | apply below_alloc | apply pw_below_drewN | apply below_drew1 | refine below_set ?_ Zd.out | refine below_set ?_ Zr.out | refine below_set ?_ Zbh.out | refine below_set ?_ Zgr.out) | exact HB.out)) hb)
  clear HO_6
  clear Zb
  clear Zp
  clear Zbf
  clear Zgp
  clear HB
  have HO_6 := n0_
  have Zb := n1_
  have Zp := n2_
  have Zbf := n3_
  have Zgp := n4_
  have HB := n5_
  clear n0_ n1_ n2_ n3_ n4_ n5_
  (try clear hb)
  (try clear hb2)
  (try clear hk)
  (try clear hi)
  refine hK.out _ _ ⟨(blk_cell Zbf.out 0).trans rfl, (blk_cell Zbf.out 1).trans rfl, (blk_cell Zbf.out 2).trans rfl, (blk_cell Zbf.out 3).trans rfl, HS4_, HS5_, HS6_, HS7_⟩ (fun hHeld => ?_)
  clear hK K
  refine norm_ (a' := ?_) ?_ ?_
  rotate_left
  · show Act.put _ (some 103) _ = _
    simp only [Act.put, List.setIfInBounds_toArray, List.set_cons_zero, List.set_cons_succ, i64_w, i32_w]
    rfl
  refine pure_ (i := 6) (N := some 104) (v := ?_) (a' := ?_) #[true, true, true, true, true, true, true] rfl rfl (by kernel_rfl) (fun _ _ _ h => h) (Or.inl ⟨by rfl, ?_⟩) ?_ ?_
  rotate_left
  · intro w'
    go_simp
    with_reducible rfl
  rotate_left
  · simp only [Act.put, List.setIfInBounds_toArray, List.set_cons_zero, List.set_cons_succ, i64_w, i32_w]
    rfl
  refine done_ (by kernel_rfl) ?_
  try go_wp2
  go_roundg kj39
  case measure => have := HJ7.out; have := HK2.out; have := HJ39.out; omega
  case rel => exact ⟨(wrap64 (x10_2 + 1)), (t387), (t388), (t389), (t390), ((rd_T25 t372 x10_2).f0), ((rd_T25 t372 x10_2).f1), ((rd_T25 t372 x10_2).f2), ((rd_T25 t372 x10_2).f3), (x386000_2), (x386001_2), (x386002_2), (x386003_2), (by first | rfl | (simp; done) | (simp [*]; done)), H', ⟨by have := HJ7.out; have := HK2.out; have := HJ39.out; omega⟩, ⟨by (with_reducible repeat (first | apply Kd.R_alloc | apply Kd.R_drewN | apply Kd.R_drew)); exact Kd.R_mono HO_6.out (fun _ hk => ⟨hk.1, ⟨hk.2.1, hk.2.2.1⟩⟩)⟩, ⟨by (with_reducible repeat (first | refine blk_drewN ?_ _ | refine blk_drew ?_ | refine blk_alloc ?_ _)); exact Zb.out⟩, ⟨by (with_reducible repeat (first | refine blk_drewN ?_ _ | refine blk_drew ?_ | refine blk_alloc ?_ _)); exact Zp.out⟩, ⟨by (with_reducible repeat (first | refine blk_drewN ?_ _ | refine blk_drew ?_ | refine blk_alloc ?_ _)); exact Zbf.out⟩, ⟨by repeat (first | (with_reducible first | exact HB.out | apply below_alloc | apply pw_below_drewN | apply below_drew1 | refine below_set ?_ Zd.out | refine below_set ?_ Zr.out | refine below_set ?_ Zbh.out | refine below_set ?_ Zgr.out) | exact HB.out)⟩⟩
 rw [if_pos c58] at H
 have c58b0 : decide (t399 < 0) = true := decide_eq_true c58
 clear c58
 have H' := mA H
 clear H
 have Zks := Zgt.out
 have Zkt := Zgs.out
 have Zku := Zgv.out
 have Zkv := Zgu.out
 have Zkw := Zgx.out
 have Zkx := Zgw.out
 have Zky : wc.cell? ⟨Zgn, 0, none⟩ = some (.int .i64 t387) := (blk_cell Zgp.out 0).trans rfl
 have Zkz : wc.cell? ⟨Zgn, 1, none⟩ = some (.int .i64 t388) := (blk_cell Zgp.out 1).trans rfl
 have Zma : wc.cell? ⟨Zgn, 2, none⟩ = some (.int .i64 t389) := (blk_cell Zgp.out 2).trans rfl
 have Zmb : wc.cell? ⟨Zgn, 3, none⟩ = some (.int .i64 t390) := (blk_cell Zgp.out 3).trans rfl
 have Zmc := blk_frozen Zgp.out 0
 have Zmd := blk_frozen Zgp.out 1
 have Zme := blk_frozen Zgp.out 2
 have Zmf := blk_frozen Zgp.out 3
 have Zmg := Zs.out
 have Zmh := Zt.out
 have Zmi := Zbi.out
 have Zmj := Zbj.out
 have Zmk : wc.cell? ⟨Za, 0, none⟩ = some (.int .i64 x382000_2) := (blk_cell Zb.out 0).trans rfl
 have Zmm : wc.cell? ⟨Za, 1, none⟩ = some (.int .i64 x382001_2) := (blk_cell Zb.out 1).trans rfl
 have Zmn : wc.cell? ⟨Za, 2, none⟩ = some (.int .i64 x382002_2) := (blk_cell Zb.out 2).trans rfl
 have Zmp : wc.cell? ⟨Za, 3, none⟩ = some (.int .i64 x382003_2) := (blk_cell Zb.out 3).trans rfl
 have Zmq := blk_frozen Zb.out 0
 have Zmr := blk_frozen Zb.out 1
 have Zms := blk_frozen Zb.out 2
 have Zmt := blk_frozen Zb.out 3
 try go_wp2
 have n0_ : Aside0 (Kd.R k25 25 ((((wc.setCell ⟨Za, 0, none⟩ (.int .i64 t387)).setCell ⟨Za, 1, none⟩ (.int .i64 t388)).setCell ⟨Za, 2, none⟩ (.int .i64 t389)).setCell ⟨Za, 3, none⟩ (.int .i64 t390)) w.heap.size (fun k_ => k_ ≠ Za ∧ k_ ≠ Zn ∧ k_ ≠ Zbe ∧ k_ ≠ Zgn) (.slice (some ad382) t372.length co29) t372) := ⟨by (with_reducible repeat (first | apply Kd.R_alloc | apply Kd.R_drewN | apply Kd.R_drew)); exact Kd.R_mono (Kd.R_far (p := ⟨Za, 3, none⟩) (Kd.R_far (p := ⟨Za, 2, none⟩) (Kd.R_far (p := ⟨Za, 1, none⟩) (Kd.R_far (p := ⟨Za, 0, none⟩) (Kd.R_mono HO_6.out (fun k_ hk => (⟨hk, hk.1⟩ : _ ∧ k_ ≠ Za))) (fun _ hk => hk.2) (.int .i64 t387)) (fun _ hk => hk.2) (.int .i64 t388)) (fun _ hk => hk.2) (.int .i64 t389)) (fun _ hk => hk.2) (.int .i64 t390)) (fun _ hk => ⟨hk.1.1, ⟨hk.1.2.1, ⟨hk.1.2.2.1, hk.1.2.2.2⟩⟩⟩)⟩
 have n1_ : Aside0 (((((wc.setCell ⟨Za, 0, none⟩ (.int .i64 t387)).setCell ⟨Za, 1, none⟩ (.int .i64 t388)).setCell ⟨Za, 2, none⟩ (.int .i64 t389)).setCell ⟨Za, 3, none⟩ (.int .i64 t390)).heap[Za]? = some (.cells #[.int .i64 t387, .int .i64 t388, .int .i64 t389, .int .i64 t390] 25 (0, 0))) := ⟨by (with_reducible repeat (first | refine blk_drewN ?_ _ | refine blk_drew ?_ | refine blk_alloc ?_ _)); refine put4 (v0 := .int .i64 x382000_2) (v1 := .int .i64 x382001_2) (v2 := .int .i64 x382002_2) (v3 := .int .i64 x382003_2) ?_ _ _ _ _; (with_reducible repeat (first | refine blk_drewN ?_ _ | refine blk_drew ?_ | refine blk_alloc ?_ _)); exact Zb.out⟩
 have n2_ : Aside0 (((((wc.setCell ⟨Za, 0, none⟩ (.int .i64 t387)).setCell ⟨Za, 1, none⟩ (.int .i64 t388)).setCell ⟨Za, 2, none⟩ (.int .i64 t389)).setCell ⟨Za, 3, none⟩ (.int .i64 t390)).heap[Zn]? = some (.cells #[.int .i64 x384000_2, .int .i64 x384001_2, .int .i64 x384002_2, .int .i64 x384003_2] 25 (0, 0))) := ⟨by (with_reducible repeat (first | refine blk_drewN ?_ _ | refine blk_drew ?_ | refine blk_alloc ?_ _)); refine far4 ?_ Zt.out _ _ _ _; (with_reducible repeat (first | refine blk_drewN ?_ _ | refine blk_drew ?_ | refine blk_alloc ?_ _)); exact Zp.out⟩
 have n3_ : Aside0 (((((wc.setCell ⟨Za, 0, none⟩ (.int .i64 t387)).setCell ⟨Za, 1, none⟩ (.int .i64 t388)).setCell ⟨Za, 2, none⟩ (.int .i64 t389)).setCell ⟨Za, 3, none⟩ (.int .i64 t390)).heap[Zbe]? = some (.cells #[.int .i64 x386000_2, .int .i64 x386001_2, .int .i64 x386002_2, .int .i64 x386003_2] 25 (0, 0))) := ⟨by (with_reducible repeat (first | refine blk_drewN ?_ _ | refine blk_drew ?_ | refine blk_alloc ?_ _)); refine far4 ?_ Zbj.out _ _ _ _; (with_reducible repeat (first | refine blk_drewN ?_ _ | refine blk_drew ?_ | refine blk_alloc ?_ _)); exact Zbf.out⟩
 have n4_ : Aside0 (((((wc.setCell ⟨Za, 0, none⟩ (.int .i64 t387)).setCell ⟨Za, 1, none⟩ (.int .i64 t388)).setCell ⟨Za, 2, none⟩ (.int .i64 t389)).setCell ⟨Za, 3, none⟩ (.int .i64 t390)).heap[Zgn]? = some (.cells #[.int .i64 t387, .int .i64 t388, .int .i64 t389, .int .i64 t390] 25 (0, 0))) := ⟨by (with_reducible repeat (first | refine blk_drewN ?_ _ | refine blk_drew ?_ | refine blk_alloc ?_ _)); refine far4 ?_ Zgt.out _ _ _ _; (with_reducible repeat (first | refine blk_drewN ?_ _ | refine blk_drew ?_ | refine blk_alloc ?_ _)); exact Zgp.out⟩
 have n5_ : Aside0 (Below w.heap.size w ((((wc.setCell ⟨Za, 0, none⟩ (.int .i64 t387)).setCell ⟨Za, 1, none⟩ (.int .i64 t388)).setCell ⟨Za, 2, none⟩ (.int .i64 t389)).setCell ⟨Za, 3, none⟩ (.int .i64 t390))) := ⟨by repeat (first | (with_reducible first | exact HB.out | apply below_alloc | apply pw_below_drewN | apply below_drew1 | refine below_set ?_ Zd.out | refine below_set ?_ Zr.out | refine below_set ?_ Zbh.out | refine below_set ?_ Zgr.out) | exact HB.out)⟩
 (try clear HO_6)
 (try clear Zb)
 (try clear Zp)
 (try clear Zbf)
 (try clear Zgp)
 (try clear HB)
 generalize ((((wc.setCell ⟨Za, 0, none⟩ (.int .i64 t387)).setCell ⟨Za, 1, none⟩ (.int .i64 t388)).setCell ⟨Za, 2, none⟩ (.int .i64 t389)).setCell ⟨Za, 3, none⟩ (.int .i64 t390)) = w66 at n0_ n1_ n2_ n3_ n4_ n5_ ⊢
 have HO_6 := n0_
 have Zb := n1_
 have Zp := n2_
 have Zbf := n3_
 have Zgp := n4_
 have HB := n5_
 clear n0_ n1_ n2_ n3_ n4_ n5_
 have n0_ := mA (Kd.R_drew HO_6.out)
 have n1_ := mA (blk_drew Zb.out)
 have n2_ := mA (blk_drew Zp.out)
 have n3_ := mA (blk_drew Zbf.out)
 have n4_ := mA (blk_drew Zgp.out)
 have n5_ := mA (below_drew1 HB.out)
 clear HO_6
 clear Zb
 clear Zp
 clear Zbf
 clear Zgp
 clear HB
 have HO_6 := n0_
 have Zb := n1_
 have Zp := n2_
 have Zbf := n3_
 have Zgp := n4_
 have HB := n5_
 clear n0_ n1_ n2_ n3_ n4_ n5_
 have p395 : 0 ≤ (x10_2 : Int) := of_decide_eq_true (by first | (with_reducible assumption) | assumption)
 have q395 : x10_2 < (t372.length : Int) := of_decide_eq_true (by first | (with_reducible assumption) | assumption)
 obtain ⟨ad395, e395, hx395_0, hx395_1, hx395_2, hx395_3⟩ := at_T25 (Kd.R_reads' HO_6.out).2.2 x10_2 p395 q395
 obtain rfl : ad382 = ad395 := (by injection e395)
 replace p395 := eq_true p395
 replace q395 := eq_true q395
 refine start_ (n := 7) (S := fun w' => w'.cell? ⟨Zn, 0, none⟩ = some (.int .i64 x384000_2) ∧ w'.cell? ⟨Zn, 1, none⟩ = some (.int .i64 x384001_2) ∧ w'.cell? ⟨Zn, 2, none⟩ = some (.int .i64 x384002_2) ∧ w'.cell? ⟨Zn, 3, none⟩ = some (.int .i64 x384003_2) ∧ w'.cell? (ad382.add ((x10_2).toNat * 4)) = some (.int .i64 ((rd_T25 t372 x10_2).f0)) ∧ w'.cell? ⟨(ad382.add ((x10_2).toNat * 4)).block, (ad382.add ((x10_2).toNat * 4)).off + 1, none⟩ = some (.int .i64 ((rd_T25 t372 x10_2).f1)) ∧ w'.cell? ⟨(ad382.add ((x10_2).toNat * 4)).block, (ad382.add ((x10_2).toNat * 4)).off + 2, none⟩ = some (.int .i64 ((rd_T25 t372 x10_2).f2)) ∧ w'.cell? ⟨(ad382.add ((x10_2).toNat * 4)).block, (ad382.add ((x10_2).toNat * 4)).off + 3, none⟩ = some (.int .i64 ((rd_T25 t372 x10_2).f3))) (ds := []) #[false, false, false, false, false, false, false] (by kernel_rfl) rfl rfl ⟨(blk_cell Zp.out 0).trans rfl, (blk_cell Zp.out 1).trans rfl, (blk_cell Zp.out 2).trans rfl, (blk_cell Zp.out 3).trans rfl, hx395_0, hx395_1, hx395_2, hx395_3⟩ (fun hHeld => ?_)
 generalize w66.drew = w67 at HO_6 Zb Zp Zbf Zgp HB hx395_0 hx395_1 hx395_2 hx395_3 hHeld ⊢
 refine pure_ (i := 0) (N := some 87) (v := ?_) (a' := ?_) #[true, false, false, false, false, false, false] rfl rfl (by kernel_rfl) (fun _ _ _ h => h) (Or.inl ⟨by rfl, ?_⟩) ?_ ?_
 rotate_left
 · intro w'
   go_simp
   with_reducible rfl
 rotate_left
 · simp only [Act.put, List.setIfInBounds_toArray, List.set_cons_zero, List.set_cons_succ, i64_w, i32_w]
   rfl
 refine pure_ (i := 1) (N := some 88) (v := ?_) (a' := ?_) #[true, true, false, false, false, false, false] rfl rfl (by kernel_rfl) (fun _ _ _ h => h) (Or.inl ⟨by rfl, ?_⟩) ?_ ?_
 rotate_left
 · intro w'
   go_simp
   with_reducible rfl
 rotate_left
 · simp only [Act.put, List.setIfInBounds_toArray, List.set_cons_zero, List.set_cons_succ, i64_w, i32_w]
   rfl
 refine pure_ (i := 2) (N := some 89) (v := ?_) (a' := ?_) #[true, true, true, false, false, false, false] rfl rfl (by kernel_rfl) (fun _ _ _ h => h) (Or.inl ⟨by rfl, ?_⟩) ?_ ?_
 rotate_left
 · intro w'
   go_simp
   with_reducible rfl
 rotate_left
 · simp only [Act.put, List.setIfInBounds_toArray, List.set_cons_zero, List.set_cons_succ, i64_w, i32_w]
   rfl
 refine take_ (i := 3) (N := some 90) (v := ?_) (a' := ?_) #[true, true, true, true, false, false, false] rfl rfl (by kernel_rfl) (fun _ _ _ h => h) (Or.inl ⟨by rfl, ?_⟩) hHeld ?_ ?_
 rotate_left
 · rintro w' ⟨s0, s1, s2, s3, s4, s5, s6, s7⟩
   go_simp
   with_reducible rfl
 rotate_left
 · simp only [Act.put, List.setIfInBounds_toArray, List.set_cons_zero, List.set_cons_succ, i64_w, i32_w]
   rfl
 refine take_ (i := 4) (N := some 91) (v := ?_) (a' := ?_) #[true, true, true, true, true, false, false] rfl rfl (by kernel_rfl) (fun _ _ _ h => h) (Or.inl ⟨by rfl, ?_⟩) hHeld ?_ ?_
 rotate_left
 · rintro w' ⟨s0, s1, s2, s3, s4, s5, s6, s7⟩
   go_simp
   with_reducible rfl
 rotate_left
 · simp only [Act.put, List.setIfInBounds_toArray, List.set_cons_zero, List.set_cons_succ, i64_w, i32_w]
   rfl
 refine one_ (i := 5) (N := some 92) #[true, true, true, true, true, true, false] rfl rfl (by kernel_rfl) (by decide) (fun K hK => ?_)
 refine goes_ Try.func30 (by kernel_rfl) rfl #[.agg #[.int .i64 ((rd_T25 t372 x10_2).f0), .int .i64 ((rd_T25 t372 x10_2).f1), .int .i64 ((rd_T25 t372 x10_2).f2), .int .i64 ((rd_T25 t372 x10_2).f3)], .agg #[.int .i64 x384000_2, .int .i64 x384001_2, .int .i64 x384002_2, .int .i64 x384003_2]] (by rfl) rfl rfl (by (try simp only [List.map_toArray, List.map_cons, List.map_nil]); first | done | rfl | (simp only [List.length_drop, List.length_take]; rfl)) ?_
 with_reducible refine (impl_CompareIntervals.calls kj39 ((rd_T25 t372 x10_2).f0) ((rd_T25 t372 x10_2).f1) ((rd_T25 t372 x10_2).f2) ((rd_T25 t372 x10_2).f3) x384000_2 x384001_2 x384002_2 x384003_2 t396 _ A55.out).mono ?_
 rintro e w68 ⟨rfl, hb⟩
 have HS4_ := (hb.cell (World.block_lt_of_cell? _ _ (hHeld.2.2.2.2.1))).trans (hHeld.2.2.2.2.1)
 have HS5_ := (hb.cell (World.block_lt_of_cell? _ _ (hHeld.2.2.2.2.2.1))).trans (hHeld.2.2.2.2.2.1)
 have HS6_ := (hb.cell (World.block_lt_of_cell? _ _ (hHeld.2.2.2.2.2.2.1))).trans (hHeld.2.2.2.2.2.2.1)
 have HS7_ := (hb.cell (World.block_lt_of_cell? _ _ (hHeld.2.2.2.2.2.2.2))).trans (hHeld.2.2.2.2.2.2.2)
 refine ⟨_, rfl, ?_⟩
 have n0_ := mA (Kd.R_below (by (with_reducible repeat (first | apply Kd.R_alloc | apply Kd.R_drewN | apply Kd.R_drew)); exact HO_6.out) hb)
 have n1_ := mA (blk_below (g := Za) (o := cQ25 t387 t388 t389 t390) Zb.out hb)
 have n2_ := mA (blk_below (g := Zn) (o := cQ25 x384000_2 x384001_2 x384002_2 x384003_2) Zp.out hb)
 have n3_ := mA (blk_below (g := Zbe) (o := cQ25 x386000_2 x386001_2 x386002_2 x386003_2) Zbf.out hb)
 have n4_ := mA (blk_below (g := Zgn) (o := cQ25 t387 t388 t389 t390) Zgp.out hb)
 have n5_ := mA (below_step (by repeat (first | (with_reducible first | exact HB.out | apply below_alloc | apply pw_below_drewN | apply below_drew1 | refine below_set ?_ Zd.out | refine below_set ?_ Zr.out | refine below_set ?_ Zbh.out | refine below_set ?_ Zgr.out) | exact HB.out)) hb)
 clear HO_6
 clear Zb
 clear Zp
 clear Zbf
 clear Zgp
 clear HB
 have HO_6 := n0_
 have Zb := n1_
 have Zp := n2_
 have Zbf := n3_
 have Zgp := n4_
 have HB := n5_
 clear n0_ n1_ n2_ n3_ n4_ n5_
 (try clear hb)
 (try clear hb2)
 (try clear hk)
 (try clear hi)
 refine hK.out _ _ ⟨(blk_cell Zp.out 0).trans rfl, (blk_cell Zp.out 1).trans rfl, (blk_cell Zp.out 2).trans rfl, (blk_cell Zp.out 3).trans rfl, HS4_, HS5_, HS6_, HS7_⟩ (fun hHeld => ?_)
 clear hK K
 refine norm_ (a' := ?_) ?_ ?_
 rotate_left
 · show Act.put _ (some 92) _ = _
   simp only [Act.put, List.setIfInBounds_toArray, List.set_cons_zero, List.set_cons_succ, i64_w, i32_w]
   rfl
 refine pure_ (i := 6) (N := some 93) (v := ?_) (a' := ?_) #[true, true, true, true, true, true, true] rfl rfl (by kernel_rfl) (fun _ _ _ h => h) (Or.inl ⟨by rfl, ?_⟩) ?_ ?_
 rotate_left
 · intro w'
   go_simp
   with_reducible rfl
 rotate_left
 · simp only [Act.put, List.setIfInBounds_toArray, List.set_cons_zero, List.set_cons_succ, i64_w, i32_w]
   rfl
 refine done_ (by kernel_rfl) ?_
 have p397 : 0 ≤ (x10_2 : Int) := of_decide_eq_true (by first | (with_reducible assumption) | assumption)
 have q397 : x10_2 < (t372.length : Int) := of_decide_eq_true (by first | (with_reducible assumption) | assumption)
 obtain ⟨ad397, e397, hx397_0, hx397_1, hx397_2, hx397_3⟩ := at_T25 (Kd.R_reads' HO_6.out).2.2 x10_2 p397 q397
 obtain rfl : ad382 = ad397 := (by injection e397)
 replace p397 := eq_true p397
 replace q397 := eq_true q397
 have Zmu := Zbk.out
 have Zmv := Zbm.out
 have Zmw : w68.cell? ⟨Zn, 0, none⟩ = some (.int .i64 x384000_2) := (blk_cell Zp.out 0).trans rfl
 have Zmx : w68.cell? ⟨Zn, 1, none⟩ = some (.int .i64 x384001_2) := (blk_cell Zp.out 1).trans rfl
 have Zmy : w68.cell? ⟨Zn, 2, none⟩ = some (.int .i64 x384002_2) := (blk_cell Zp.out 2).trans rfl
 have Zmz : w68.cell? ⟨Zn, 3, none⟩ = some (.int .i64 x384003_2) := (blk_cell Zp.out 3).trans rfl
 have Zna := blk_frozen Zp.out 0
 have Znb := blk_frozen Zp.out 1
 have Znc := blk_frozen Zp.out 2
 have Znd := blk_frozen Zp.out 3
 try go_wp2
 have n0_ : Aside0 (Kd.R k25 25 ((((w68.setCell ⟨Zn, 0, none⟩ (.int .i64 ((rd_T25 t372 x10_2).f0))).setCell ⟨Zn, 1, none⟩ (.int .i64 ((rd_T25 t372 x10_2).f1))).setCell ⟨Zn, 2, none⟩ (.int .i64 ((rd_T25 t372 x10_2).f2))).setCell ⟨Zn, 3, none⟩ (.int .i64 ((rd_T25 t372 x10_2).f3))) w.heap.size (fun k_ => k_ ≠ Za ∧ k_ ≠ Zn ∧ k_ ≠ Zbe ∧ k_ ≠ Zgn) (.slice (some ad382) t372.length co29) t372) := ⟨by (with_reducible repeat (first | apply Kd.R_alloc | apply Kd.R_drewN | apply Kd.R_drew)); exact Kd.R_mono (Kd.R_far (p := ⟨Zn, 3, none⟩) (Kd.R_far (p := ⟨Zn, 2, none⟩) (Kd.R_far (p := ⟨Zn, 1, none⟩) (Kd.R_far (p := ⟨Zn, 0, none⟩) (Kd.R_mono HO_6.out (fun k_ hk => (⟨hk, hk.2.1⟩ : _ ∧ k_ ≠ Zn))) (fun _ hk => hk.2) (.int .i64 ((rd_T25 t372 x10_2).f0))) (fun _ hk => hk.2) (.int .i64 ((rd_T25 t372 x10_2).f1))) (fun _ hk => hk.2) (.int .i64 ((rd_T25 t372 x10_2).f2))) (fun _ hk => hk.2) (.int .i64 ((rd_T25 t372 x10_2).f3))) (fun _ hk => ⟨hk.1.1, ⟨hk.1.2.1, ⟨hk.1.2.2.1, hk.1.2.2.2⟩⟩⟩)⟩
 have n1_ : Aside0 (((((w68.setCell ⟨Zn, 0, none⟩ (.int .i64 ((rd_T25 t372 x10_2).f0))).setCell ⟨Zn, 1, none⟩ (.int .i64 ((rd_T25 t372 x10_2).f1))).setCell ⟨Zn, 2, none⟩ (.int .i64 ((rd_T25 t372 x10_2).f2))).setCell ⟨Zn, 3, none⟩ (.int .i64 ((rd_T25 t372 x10_2).f3))).heap[Za]? = some (.cells #[.int .i64 t387, .int .i64 t388, .int .i64 t389, .int .i64 t390] 25 (0, 0))) := ⟨by (with_reducible repeat (first | refine blk_drewN ?_ _ | refine blk_drew ?_ | refine blk_alloc ?_ _)); refine far4 ?_ Zs.out _ _ _ _; (with_reducible repeat (first | refine blk_drewN ?_ _ | refine blk_drew ?_ | refine blk_alloc ?_ _)); exact Zb.out⟩
 have n2_ : Aside0 (((((w68.setCell ⟨Zn, 0, none⟩ (.int .i64 ((rd_T25 t372 x10_2).f0))).setCell ⟨Zn, 1, none⟩ (.int .i64 ((rd_T25 t372 x10_2).f1))).setCell ⟨Zn, 2, none⟩ (.int .i64 ((rd_T25 t372 x10_2).f2))).setCell ⟨Zn, 3, none⟩ (.int .i64 ((rd_T25 t372 x10_2).f3))).heap[Zn]? = some (.cells #[.int .i64 ((rd_T25 t372 x10_2).f0), .int .i64 ((rd_T25 t372 x10_2).f1), .int .i64 ((rd_T25 t372 x10_2).f2), .int .i64 ((rd_T25 t372 x10_2).f3)] 25 (0, 0))) := ⟨by (with_reducible repeat (first | refine blk_drewN ?_ _ | refine blk_drew ?_ | refine blk_alloc ?_ _)); refine put4 (v0 := .int .i64 x384000_2) (v1 := .int .i64 x384001_2) (v2 := .int .i64 x384002_2) (v3 := .int .i64 x384003_2) ?_ _ _ _ _; (with_reducible repeat (first | refine blk_drewN ?_ _ | refine blk_drew ?_ | refine blk_alloc ?_ _)); exact Zp.out⟩
 have n3_ : Aside0 (((((w68.setCell ⟨Zn, 0, none⟩ (.int .i64 ((rd_T25 t372 x10_2).f0))).setCell ⟨Zn, 1, none⟩ (.int .i64 ((rd_T25 t372 x10_2).f1))).setCell ⟨Zn, 2, none⟩ (.int .i64 ((rd_T25 t372 x10_2).f2))).setCell ⟨Zn, 3, none⟩ (.int .i64 ((rd_T25 t372 x10_2).f3))).heap[Zbe]? = some (.cells #[.int .i64 x386000_2, .int .i64 x386001_2, .int .i64 x386002_2, .int .i64 x386003_2] 25 (0, 0))) := ⟨by (with_reducible repeat (first | refine blk_drewN ?_ _ | refine blk_drew ?_ | refine blk_alloc ?_ _)); refine far4 ?_ Zbm.out _ _ _ _; (with_reducible repeat (first | refine blk_drewN ?_ _ | refine blk_drew ?_ | refine blk_alloc ?_ _)); exact Zbf.out⟩
 have n4_ : Aside0 (((((w68.setCell ⟨Zn, 0, none⟩ (.int .i64 ((rd_T25 t372 x10_2).f0))).setCell ⟨Zn, 1, none⟩ (.int .i64 ((rd_T25 t372 x10_2).f1))).setCell ⟨Zn, 2, none⟩ (.int .i64 ((rd_T25 t372 x10_2).f2))).setCell ⟨Zn, 3, none⟩ (.int .i64 ((rd_T25 t372 x10_2).f3))).heap[Zgn]? = some (.cells #[.int .i64 t387, .int .i64 t388, .int .i64 t389, .int .i64 t390] 25 (0, 0))) := ⟨by (with_reducible repeat (first | refine blk_drewN ?_ _ | refine blk_drew ?_ | refine blk_alloc ?_ _)); refine far4 ?_ Zgv.out _ _ _ _; (with_reducible repeat (first | refine blk_drewN ?_ _ | refine blk_drew ?_ | refine blk_alloc ?_ _)); exact Zgp.out⟩
 have n5_ : Aside0 (Below w.heap.size w ((((w68.setCell ⟨Zn, 0, none⟩ (.int .i64 ((rd_T25 t372 x10_2).f0))).setCell ⟨Zn, 1, none⟩ (.int .i64 ((rd_T25 t372 x10_2).f1))).setCell ⟨Zn, 2, none⟩ (.int .i64 ((rd_T25 t372 x10_2).f2))).setCell ⟨Zn, 3, none⟩ (.int .i64 ((rd_T25 t372 x10_2).f3)))) := ⟨by repeat (first | (with_reducible first | exact HB.out | apply below_alloc | apply pw_below_drewN | apply below_drew1 | refine below_set ?_ Zd.out | refine below_set ?_ Zr.out | refine below_set ?_ Zbh.out | refine below_set ?_ Zgr.out) | exact HB.out)⟩
 (try clear HO_6)
 (try clear Zb)
 (try clear Zp)
 (try clear Zbf)
 (try clear Zgp)
 (try clear HB)
 generalize ((((w68.setCell ⟨Zn, 0, none⟩ (.int .i64 ((rd_T25 t372 x10_2).f0))).setCell ⟨Zn, 1, none⟩ (.int .i64 ((rd_T25 t372 x10_2).f1))).setCell ⟨Zn, 2, none⟩ (.int .i64 ((rd_T25 t372 x10_2).f2))).setCell ⟨Zn, 3, none⟩ (.int .i64 ((rd_T25 t372 x10_2).f3))) = w71 at n0_ n1_ n2_ n3_ n4_ n5_ ⊢
 have HO_6 := n0_
 have Zb := n1_
 have Zp := n2_
 have Zbf := n3_
 have Zgp := n4_
 have HB := n5_
 clear n0_ n1_ n2_ n3_ n4_ n5_
 have n0_ := mA (Kd.R_drew HO_6.out)
 have n1_ := mA (blk_drew Zb.out)
 have n2_ := mA (blk_drew Zp.out)
 have n3_ := mA (blk_drew Zbf.out)
 have n4_ := mA (blk_drew Zgp.out)
 have n5_ := mA (below_drew1 HB.out)
 clear HO_6
 clear Zb
 clear Zp
 clear Zbf
 clear Zgp
 clear HB
 have HO_6 := n0_
 have Zb := n1_
 have Zp := n2_
 have Zbf := n3_
 have Zgp := n4_
 have HB := n5_
 clear n0_ n1_ n2_ n3_ n4_ n5_
 have p398 : 0 ≤ (x10_2 : Int) := of_decide_eq_true (by first | (with_reducible assumption) | assumption)
 have q398 : x10_2 < (t372.length : Int) := of_decide_eq_true (by first | (with_reducible assumption) | assumption)
 obtain ⟨ad398, e398, hx398_0, hx398_1, hx398_2, hx398_3⟩ := at_T25 (Kd.R_reads' HO_6.out).2.2 x10_2 p398 q398
 obtain rfl : ad382 = ad398 := (by injection e398)
 replace p398 := eq_true p398
 replace q398 := eq_true q398
 refine start_ (n := 7) (S := fun w' => w'.cell? ⟨Zbe, 0, none⟩ = some (.int .i64 x386000_2) ∧ w'.cell? ⟨Zbe, 1, none⟩ = some (.int .i64 x386001_2) ∧ w'.cell? ⟨Zbe, 2, none⟩ = some (.int .i64 x386002_2) ∧ w'.cell? ⟨Zbe, 3, none⟩ = some (.int .i64 x386003_2) ∧ w'.cell? (ad382.add ((x10_2).toNat * 4)) = some (.int .i64 ((rd_T25 t372 x10_2).f0)) ∧ w'.cell? ⟨(ad382.add ((x10_2).toNat * 4)).block, (ad382.add ((x10_2).toNat * 4)).off + 1, none⟩ = some (.int .i64 ((rd_T25 t372 x10_2).f1)) ∧ w'.cell? ⟨(ad382.add ((x10_2).toNat * 4)).block, (ad382.add ((x10_2).toNat * 4)).off + 2, none⟩ = some (.int .i64 ((rd_T25 t372 x10_2).f2)) ∧ w'.cell? ⟨(ad382.add ((x10_2).toNat * 4)).block, (ad382.add ((x10_2).toNat * 4)).off + 3, none⟩ = some (.int .i64 ((rd_T25 t372 x10_2).f3))) (ds := []) #[false, false, false, false, false, false, false] (by kernel_rfl) rfl rfl ⟨(blk_cell Zbf.out 0).trans rfl, (blk_cell Zbf.out 1).trans rfl, (blk_cell Zbf.out 2).trans rfl, (blk_cell Zbf.out 3).trans rfl, hx398_0, hx398_1, hx398_2, hx398_3⟩ (fun hHeld => ?_)
 generalize w71.drew = w72 at HO_6 Zb Zp Zbf Zgp HB hx398_0 hx398_1 hx398_2 hx398_3 hHeld ⊢
 refine pure_ (i := 0) (N := some 98) (v := ?_) (a' := ?_) #[true, false, false, false, false, false, false] rfl rfl (by kernel_rfl) (fun _ _ _ h => h) (Or.inl ⟨by rfl, ?_⟩) ?_ ?_
 rotate_left
 · intro w'
   go_simp
   with_reducible rfl
 rotate_left
 · simp only [Act.put, List.setIfInBounds_toArray, List.set_cons_zero, List.set_cons_succ, i64_w, i32_w]
   rfl
 refine pure_ (i := 1) (N := some 99) (v := ?_) (a' := ?_) #[true, true, false, false, false, false, false] rfl rfl (by kernel_rfl) (fun _ _ _ h => h) (Or.inl ⟨by rfl, ?_⟩) ?_ ?_
 rotate_left
 · intro w'
   go_simp
   with_reducible rfl
 rotate_left
 · simp only [Act.put, List.setIfInBounds_toArray, List.set_cons_zero, List.set_cons_succ, i64_w, i32_w]
   rfl
 refine pure_ (i := 2) (N := some 100) (v := ?_) (a' := ?_) #[true, true, true, false, false, false, false] rfl rfl (by kernel_rfl) (fun _ _ _ h => h) (Or.inl ⟨by rfl, ?_⟩) ?_ ?_
 rotate_left
 · intro w'
   go_simp
   with_reducible rfl
 rotate_left
 · simp only [Act.put, List.setIfInBounds_toArray, List.set_cons_zero, List.set_cons_succ, i64_w, i32_w]
   rfl
 refine take_ (i := 3) (N := some 101) (v := ?_) (a' := ?_) #[true, true, true, true, false, false, false] rfl rfl (by kernel_rfl) (fun _ _ _ h => h) (Or.inl ⟨by rfl, ?_⟩) hHeld ?_ ?_
 rotate_left
 · rintro w' ⟨s0, s1, s2, s3, s4, s5, s6, s7⟩
   go_simp
   with_reducible rfl
 rotate_left
 · simp only [Act.put, List.setIfInBounds_toArray, List.set_cons_zero, List.set_cons_succ, i64_w, i32_w]
   rfl
 refine take_ (i := 4) (N := some 102) (v := ?_) (a' := ?_) #[true, true, true, true, true, false, false] rfl rfl (by kernel_rfl) (fun _ _ _ h => h) (Or.inl ⟨by rfl, ?_⟩) hHeld ?_ ?_
 rotate_left
 · rintro w' ⟨s0, s1, s2, s3, s4, s5, s6, s7⟩
   go_simp
   with_reducible rfl
 rotate_left
 · simp only [Act.put, List.setIfInBounds_toArray, List.set_cons_zero, List.set_cons_succ, i64_w, i32_w]
   rfl
 refine one_ (i := 5) (N := some 103) #[true, true, true, true, true, true, false] rfl rfl (by kernel_rfl) (by decide) (fun K hK => ?_)
 refine goes_ Try.func30 (by kernel_rfl) rfl #[.agg #[.int .i64 ((rd_T25 t372 x10_2).f0), .int .i64 ((rd_T25 t372 x10_2).f1), .int .i64 ((rd_T25 t372 x10_2).f2), .int .i64 ((rd_T25 t372 x10_2).f3)], .agg #[.int .i64 x386000_2, .int .i64 x386001_2, .int .i64 x386002_2, .int .i64 x386003_2]] (by rfl) rfl rfl (by (try simp only [List.map_toArray, List.map_cons, List.map_nil]); first | done | rfl | (simp only [List.length_drop, List.length_take]; rfl)) ?_
 with_reducible refine (impl_CompareIntervals.calls kj39 ((rd_T25 t372 x10_2).f0) ((rd_T25 t372 x10_2).f1) ((rd_T25 t372 x10_2).f2) ((rd_T25 t372 x10_2).f3) x386000_2 x386001_2 x386002_2 x386003_2 t399 _ A57.out).mono ?_
 rintro e w73 ⟨rfl, hb⟩
 have HS4_ := (hb.cell (World.block_lt_of_cell? _ _ (hHeld.2.2.2.2.1))).trans (hHeld.2.2.2.2.1)
 have HS5_ := (hb.cell (World.block_lt_of_cell? _ _ (hHeld.2.2.2.2.2.1))).trans (hHeld.2.2.2.2.2.1)
 have HS6_ := (hb.cell (World.block_lt_of_cell? _ _ (hHeld.2.2.2.2.2.2.1))).trans (hHeld.2.2.2.2.2.2.1)
 have HS7_ := (hb.cell (World.block_lt_of_cell? _ _ (hHeld.2.2.2.2.2.2.2))).trans (hHeld.2.2.2.2.2.2.2)
 refine ⟨_, rfl, ?_⟩
 have n0_ := mA (Kd.R_below (by (with_reducible repeat (first | apply Kd.R_alloc | apply Kd.R_drewN | apply Kd.R_drew)); exact HO_6.out) hb)
 have n1_ := mA (blk_below (g := Za) (o := cQ25 t387 t388 t389 t390) Zb.out hb)
 have n2_ := mA (blk_below (g := Zn) (o := cQ25 (((rd_T25 t372 x10_2).f0)) (((rd_T25 t372 x10_2).f1)) (((rd_T25 t372 x10_2).f2)) (((rd_T25 t372 x10_2).f3))) Zp.out hb)
 have n3_ := mA (blk_below (g := Zbe) (o := cQ25 x386000_2 x386001_2 x386002_2 x386003_2) Zbf.out hb)
 have n4_ := mA (blk_below (g := Zgn) (o := cQ25 t387 t388 t389 t390) Zgp.out hb)
 have n5_ := mA (below_step (by repeat (first | (with_reducible first | exact HB.out | apply below_alloc | apply pw_below_drewN | apply below_drew1 | refine below_set ?_ Zd.out | refine below_set ?_ Zr.out | refine below_set ?_ Zbh.out | refine below_set ?_ Zgr.out) | exact HB.out)) hb)
 clear HO_6
 clear Zb
 clear Zp
 clear Zbf
 clear Zgp
 clear HB
 have HO_6 := n0_
 have Zb := n1_
 have Zp := n2_
 have Zbf := n3_
 have Zgp := n4_
 have HB := n5_
 clear n0_ n1_ n2_ n3_ n4_ n5_
 (try clear hb)
 (try clear hb2)
 (try clear hk)
 (try clear hi)
 refine hK.out _ _ ⟨(blk_cell Zbf.out 0).trans rfl, (blk_cell Zbf.out 1).trans rfl, (blk_cell Zbf.out 2).trans rfl, (blk_cell Zbf.out 3).trans rfl, HS4_, HS5_, HS6_, HS7_⟩ (fun hHeld => ?_)
 clear hK K
 refine norm_ (a' := ?_) ?_ ?_
 rotate_left
 · show Act.put _ (some 103) _ = _
   simp only [Act.put, List.setIfInBounds_toArray, List.set_cons_zero, List.set_cons_succ, i64_w, i32_w]
   rfl
 refine pure_ (i := 6) (N := some 104) (v := ?_) (a' := ?_) #[true, true, true, true, true, true, true] rfl rfl (by kernel_rfl) (fun _ _ _ h => h) (Or.inl ⟨by rfl, ?_⟩) ?_ ?_
 rotate_left
 · intro w'
   go_simp
   with_reducible rfl
 rotate_left
 · simp only [Act.put, List.setIfInBounds_toArray, List.set_cons_zero, List.set_cons_succ, i64_w, i32_w]
   rfl
 refine done_ (by kernel_rfl) ?_
 have p400 : 0 ≤ (x10_2 : Int) := of_decide_eq_true (by first | (with_reducible assumption) | assumption)
 have q400 : x10_2 < (t372.length : Int) := of_decide_eq_true (by first | (with_reducible assumption) | assumption)
 obtain ⟨ad400, e400, hx400_0, hx400_1, hx400_2, hx400_3⟩ := at_T25 (Kd.R_reads' HO_6.out).2.2 x10_2 p400 q400
 obtain rfl : ad382 = ad400 := (by injection e400)
 replace p400 := eq_true p400
 replace q400 := eq_true q400
 have Zne : w73.cell? ⟨Zbe, 0, none⟩ = some (.int .i64 x386000_2) := (blk_cell Zbf.out 0).trans rfl
 have Znf : w73.cell? ⟨Zbe, 1, none⟩ = some (.int .i64 x386001_2) := (blk_cell Zbf.out 1).trans rfl
 have Zng : w73.cell? ⟨Zbe, 2, none⟩ = some (.int .i64 x386002_2) := (blk_cell Zbf.out 2).trans rfl
 have Znh : w73.cell? ⟨Zbe, 3, none⟩ = some (.int .i64 x386003_2) := (blk_cell Zbf.out 3).trans rfl
 have Zni := blk_frozen Zbf.out 0
 have Znj := blk_frozen Zbf.out 1
 have Znk := blk_frozen Zbf.out 2
 have Znm := blk_frozen Zbf.out 3
 try go_wp2
 go_roundg kj39
 case measure => have := HJ7.out; have := HK2.out; have := HJ39.out; omega
 case rel => exact ⟨(wrap64 (x10_2 + 1)), (t387), (t388), (t389), (t390), ((rd_T25 t372 x10_2).f0), ((rd_T25 t372 x10_2).f1), ((rd_T25 t372 x10_2).f2), ((rd_T25 t372 x10_2).f3), ((rd_T25 t372 x10_2).f0), ((rd_T25 t372 x10_2).f1), ((rd_T25 t372 x10_2).f2), ((rd_T25 t372 x10_2).f3), (by first | rfl | (simp; done) | (simp [*]; done)), H', ⟨by have := HJ7.out; have := HK2.out; have := HJ39.out; omega⟩, ⟨by (with_reducible repeat (first | apply Kd.R_alloc | apply Kd.R_drewN | apply Kd.R_drew)); exact Kd.R_mono (Kd.R_far (p := ⟨Zbe, 3, none⟩) (Kd.R_far (p := ⟨Zbe, 2, none⟩) (Kd.R_far (p := ⟨Zbe, 1, none⟩) (Kd.R_far (p := ⟨Zbe, 0, none⟩) (Kd.R_mono HO_6.out (fun k_ hk => (⟨hk, hk.2.2.1⟩ : _ ∧ k_ ≠ Zbe))) (fun _ hk => hk.2) (.int .i64 ((rd_T25 t372 x10_2).f0))) (fun _ hk => hk.2) (.int .i64 ((rd_T25 t372 x10_2).f1))) (fun _ hk => hk.2) (.int .i64 ((rd_T25 t372 x10_2).f2))) (fun _ hk => hk.2) (.int .i64 ((rd_T25 t372 x10_2).f3))) (fun _ hk => ⟨hk.1.1, ⟨hk.1.2.1, hk.1.2.2.1⟩⟩)⟩, ⟨by (with_reducible repeat (first | refine blk_drewN ?_ _ | refine blk_drew ?_ | refine blk_alloc ?_ _)); refine far4 ?_ Zbi.out _ _ _ _; (with_reducible repeat (first | refine blk_drewN ?_ _ | refine blk_drew ?_ | refine blk_alloc ?_ _)); exact Zb.out⟩, ⟨by (with_reducible repeat (first | refine blk_drewN ?_ _ | refine blk_drew ?_ | refine blk_alloc ?_ _)); refine far4 ?_ Zbk.out _ _ _ _; (with_reducible repeat (first | refine blk_drewN ?_ _ | refine blk_drew ?_ | refine blk_alloc ?_ _)); exact Zp.out⟩, ⟨by (with_reducible repeat (first | refine blk_drewN ?_ _ | refine blk_drew ?_ | refine blk_alloc ?_ _)); refine put4 (v0 := .int .i64 x386000_2) (v1 := .int .i64 x386001_2) (v2 := .int .i64 x386002_2) (v3 := .int .i64 x386003_2) ?_ _ _ _ _; (with_reducible repeat (first | refine blk_drewN ?_ _ | refine blk_drew ?_ | refine blk_alloc ?_ _)); exact Zbf.out⟩, ⟨by repeat (first | (with_reducible first | exact HB.out | apply below_alloc | apply pw_below_drewN | apply below_drew1 | refine below_set ?_ Zd.out | refine below_set ?_ Zr.out | refine below_set ?_ Zbh.out | refine below_set ?_ Zgr.out) | exact HB.out)⟩⟩
end Go.Proofs.Ytfimodphnfejdaa.PFnThreeSteps
