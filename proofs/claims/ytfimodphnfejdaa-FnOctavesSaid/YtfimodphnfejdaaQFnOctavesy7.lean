/- Contracts of Go functions that the law FnOctaves reaches. Sections as the kit's print.sh wrote them for this seat, put together by a program of this session (own.py); impl_simplest, spec_l01New and the law itself are this session's. -/
import Derived.Test.YtfimodphnfejdaaQFnOctavesy6
namespace Go.Proofs.Ytfimodphnfejdaa.PFnOctaves
open Go.RowKit Go.Proofs.YtfimodphnfejdaaW.PrintWords Go.Proofs.YtfimodphnfejdaaW.PrintLast Go.Proofs.YtfimodphnfejdaaW.PrintMore
attribute [local go_sem] max2_int min2_int max_two min_two max_three min_three max_four min_four
set_option linter.unusedVariables false
set_option linter.unusedSimpArgs false

attribute [local go_sem high] eqA25
attribute [local go_sem high] eqA25
set_option maxHeartbeats 8000000 in
set_option maxRecDepth 100000 in
theorem laws_FnOctaves.calls (k : Nat) (A0 : Option Addr) (c0 : Nat) (l0 : List Int) (r : Bool) (w : World) (hr0 : Kd.C (Kd.int .u8) w A0 l0.length l0) (hc0 : l0.length ≤ c0) (h : laws_FnOctaves.f k l0 = some r) (hr : r = true) :
    Calls Try.prog 8 #[.slice A0 l0.length c0] w fun e w' => e = .returned (.bool r) ∧ Below w.heap.size w w' := by
  have hu25 := Try.underlying25
  have HR0 := mA hr0
  have HC0 := mA hc0
  clear hr0 hc0
  have HB := mA (Below.refl w.heap.size w)
  have H : ((laws_big.f l0).bind fun t325 => (if t325 = true then (some true) else ((spec_DrawIntervals.f k l0).bind fun bt326 => ((impl_WithinOctave.f k bt326.1 bt326.2.1 bt326.2.2.1 bt326.2.2.2.1).bind fun bt341 => ((impl_WithinOctave.f k bt341.1 bt341.2.1 bt341.2.2.1 bt341.2.2.2.1).bind fun bt347 => ((impl_InvertInterval.f k bt341.1 bt341.2.1 bt341.2.2.1 bt341.2.2.2.1).bind fun bt353 => ((impl_InvertInterval.f k bt353.1 bt353.2.1 bt353.2.2.1 bt353.2.2.2.1).bind fun bt359 => ((impl_AddIntervals.f k bt341.1 bt341.2.1 bt341.2.2.1 bt341.2.2.2.1 bt353.1 bt353.2.1 bt353.2.2.1 bt353.2.2.2.1).bind fun bt365 => ((impl_PureOf.f 1 0 0).bind fun bt371 => ((impl_OctavesIn.f k bt326.1 bt326.2.1 bt326.2.2.1 bt326.2.2.2.1).bind fun t375 => ((impl_TimesInterval.f k bt371.1 bt371.2.1 bt371.2.2.1 bt371.2.2.2 t375).bind fun bt376 => ((impl_AddIntervals.f k bt341.1 bt341.2.1 bt341.2.2.1 bt341.2.2.2.1 bt376.1 bt376.2.1 bt376.2.2.1 bt376.2.2.2.1).bind fun bt382 => (if bt341.2.2.2.2 = true then (if bt347.2.2.2.2 = true then (if bt353.2.2.2.2 = true then (if bt359.2.2.2.2 = true then (if bt365.2.2.2.2 = true then (if bt376.2.2.2.2 = true then (if bt382.2.2.2.2 = true then (if (bt341.1 == bt347.1 && (bt341.2.1 == bt347.2.1 && (bt341.2.2.1 == bt347.2.2.1 && (bt341.2.2.2.1 == bt347.2.2.2.1)))) = true then (if (bt359.1 == bt341.1 && (bt359.2.1 == bt341.2.1 && (bt359.2.2.1 == bt341.2.2.1 && (bt359.2.2.2.1 == bt341.2.2.2.1)))) = true then ((impl_PureOf.f 1 0 0).bind fun bt388 => (if (bt365.1 == bt388.1 && (bt365.2.1 == bt388.2.1 && (bt365.2.2.1 == bt388.2.2.1 && (bt365.2.2.2.1 == bt388.2.2.2)))) = true then ((impl_SignOf.f k bt341.1 bt341.2.1 bt341.2.2.1 bt341.2.2.2.1).bind fun t392 => (if t392 ≥ 0 then ((impl_PureOf.f 1 0 0).bind fun bt393 => ((impl_CompareIntervals.f k bt341.1 bt341.2.1 bt341.2.2.1 bt341.2.2.2.1 bt393.1 bt393.2.1 bt393.2.2.1 bt393.2.2.2).bind fun t397 => (if t397 < 0 then ((impl_SimplestOf.f k bt326.1 bt326.2.1 bt326.2.2.1 bt326.2.2.2.1).bind fun bt398 => (if (bt382.1 == bt398.1 && (bt382.2.1 == bt398.2.1 && (bt382.2.2.1 == bt398.2.2.1 && (bt382.2.2.2.1 == bt398.2.2.2)))) = true then ((impl_SamePitchClass.f k bt326.1 bt326.2.1 bt326.2.2.1 bt326.2.2.2.1 bt341.1 bt341.2.1 bt341.2.2.1 bt341.2.2.2.1).bind fun t402 => (some t402)) else (some false))) else (some false)))) else (some false))) else (some false))) else (some false)) else (some false)) else (some false)) else (some false)) else (some false)) else (some false)) else (some false)) else (some false)) else (some false)))))))))))))) = some r := h
  clear h
  replace H := Option.bind_eq_some_iff.mp H
  obtain ⟨t325, A20, H⟩ := H
  try dsimp only at H
  have A2 := mA A20
  clear A20
  by_cases c3 : t325 = true
  case pos =>
    subst c3
    rw [if_pos rfl] at H
    obtain rfl := Option.some.inj H
    go_enter Try.func8, Try.ntmps8
    go_wp2_with (first | ((with_reducible refine gate_callee (f := 22) rfl ?_); refine goesL_ (some 21) rfl rfl Try.func22 (by kernel_rfl) rfl #[.slice A0 l0.length c0] rfl (by (try simp only [List.map_toArray, List.map_cons, List.map_nil]); first | done | rfl | (simp only [List.length_drop, List.length_take]; rfl)) ?_; (with_reducible refine (laws_big.calls _ _ l0 true _ ?side1 ?side2 A2.out).mono ?_); (case side1 => repeat (first | exact HR0.out | (with_reducible refine Kd.C_alloc ?_ _) | (with_reducible refine Kd.C_drewN ?_ _) | (with_reducible refine Kd.C_drew ?_))); (case side2 => exact HC0.out); rintro e w' ⟨rfl, ⟨nd, rfl⟩⟩; refine ⟨_, rfl, ?_⟩))
    go_ret
    exact ⟨by first | rfl | (simp [errW_none, errW_some] <;> rfl) | (simp [*, errW_none, errW_some] <;> rfl), by repeat (first | (with_reducible first | exact HB.out | apply below_alloc | apply pw_below_drewN | apply below_drew1) | exact HB.out)⟩
  replace c3 := Bool.eq_false_iff.mpr c3
  subst c3
  rw [if_neg (show ¬ (false = true) by decide)] at H
  replace H := Option.bind_eq_some_iff.mp H
  obtain ⟨⟨t326, t327, t328, t329, t330, t331, t332, t333, t334, t335, t336, t337⟩, A40, H⟩ := H
  try dsimp only at H
  have A4 := mA A40
  clear A40
  replace H := Option.bind_eq_some_iff.mp H
  obtain ⟨⟨t341, t342, t343, t344, t345⟩, A50, H⟩ := H
  try dsimp only at H
  have A5 := mA A50
  clear A50
  replace H := Option.bind_eq_some_iff.mp H
  obtain ⟨⟨t347, t348, t349, t350, t351⟩, A60, H⟩ := H
  try dsimp only at H
  have A6 := mA A60
  clear A60
  replace H := Option.bind_eq_some_iff.mp H
  obtain ⟨⟨t353, t354, t355, t356, t357⟩, A70, H⟩ := H
  try dsimp only at H
  have A7 := mA A70
  clear A70
  replace H := Option.bind_eq_some_iff.mp H
  obtain ⟨⟨t359, t360, t361, t362, t363⟩, A80, H⟩ := H
  try dsimp only at H
  have A8 := mA A80
  clear A80
  replace H := Option.bind_eq_some_iff.mp H
  obtain ⟨⟨t365, t366, t367, t368, t369⟩, A90, H⟩ := H
  try dsimp only at H
  have A9 := mA A90
  clear A90
  replace H := Option.bind_eq_some_iff.mp H
  obtain ⟨⟨t371, t372, t373, t374⟩, A100, H⟩ := H
  try dsimp only at H
  have A10 := mA A100
  clear A100
  replace H := Option.bind_eq_some_iff.mp H
  obtain ⟨t375, A110, H⟩ := H
  try dsimp only at H
  have A11 := mA A110
  clear A110
  replace H := Option.bind_eq_some_iff.mp H
  obtain ⟨⟨t376, t377, t378, t379, t380⟩, A120, H⟩ := H
  try dsimp only at H
  have A12 := mA A120
  clear A120
  replace H := Option.bind_eq_some_iff.mp H
  obtain ⟨⟨t382, t383, t384, t385, t386⟩, A130, H⟩ := H
  try dsimp only at H
  have A13 := mA A130
  clear A130
  by_cases c14 : t345 = true
  case neg =>
    replace c14 := Bool.eq_false_iff.mpr c14
    subst c14
    rw [if_neg (show ¬ (false = true) by decide)] at H
    exact absurd ((Option.some.inj H).trans hr) (by decide)
  subst c14
  rw [if_pos rfl] at H
  by_cases c15 : t351 = true
  case neg =>
    replace c15 := Bool.eq_false_iff.mpr c15
    subst c15
    rw [if_neg (show ¬ (false = true) by decide)] at H
    exact absurd ((Option.some.inj H).trans hr) (by decide)
  subst c15
  rw [if_pos rfl] at H
  by_cases c16 : t357 = true
  case neg =>
    replace c16 := Bool.eq_false_iff.mpr c16
    subst c16
    rw [if_neg (show ¬ (false = true) by decide)] at H
    exact absurd ((Option.some.inj H).trans hr) (by decide)
  subst c16
  rw [if_pos rfl] at H
  by_cases c17 : t363 = true
  case neg =>
    replace c17 := Bool.eq_false_iff.mpr c17
    subst c17
    rw [if_neg (show ¬ (false = true) by decide)] at H
    exact absurd ((Option.some.inj H).trans hr) (by decide)
  subst c17
  rw [if_pos rfl] at H
  by_cases c18 : t369 = true
  case neg =>
    replace c18 := Bool.eq_false_iff.mpr c18
    subst c18
    rw [if_neg (show ¬ (false = true) by decide)] at H
    exact absurd ((Option.some.inj H).trans hr) (by decide)
  subst c18
  rw [if_pos rfl] at H
  by_cases c19 : t380 = true
  case neg =>
    replace c19 := Bool.eq_false_iff.mpr c19
    subst c19
    rw [if_neg (show ¬ (false = true) by decide)] at H
    exact absurd ((Option.some.inj H).trans hr) (by decide)
  subst c19
  rw [if_pos rfl] at H
  by_cases c20 : t386 = true
  case neg =>
    replace c20 := Bool.eq_false_iff.mpr c20
    subst c20
    rw [if_neg (show ¬ (false = true) by decide)] at H
    exact absurd ((Option.some.inj H).trans hr) (by decide)
  subst c20
  rw [if_pos rfl] at H
  by_cases c21 : (t341 == t347 && (t342 == t348 && (t343 == t349 && (t344 == t350)))) = true
  case neg =>
    rw [if_neg c21] at H
    have c21b0 : (t341 == t347 && (t342 == t348 && (t343 == t349 && (t344 == t350)))) = false := by simpa using c21
    (try (have c21b1 : decide (t341 = t347 && (t342 == t348 && (t343 == t349 && (t344 == t350)))) = false := by simpa using c21))
    (try (have c21b2 : (t341 == t347 && (t342 == t348 && (t343 == t349 && (t344 == t350)))) = false := by simpa using c21))
    (try (have c21b3 : ¬ (t341 = t347 && (t342 == t348 && (t343 == t349 && (t344 == t350)))) := by simpa using c21))
    clear c21
    exact absurd ((Option.some.inj H).trans hr) (by decide)
  rw [if_pos c21] at H
  have c21b0 : (t341 == t347 && (t342 == t348 && (t343 == t349 && (t344 == t350)))) = true := c21
  (try (have c21b1 : decide (t341 = t347 && (t342 == t348 && (t343 == t349 && (t344 == t350)))) = true := by simpa using c21))
  (try (have c21b2 : (t341 == t347 && (t342 == t348 && (t343 == t349 && (t344 == t350)))) = true := by simpa using c21))
  clear c21
  by_cases c22 : (t359 == t341 && (t360 == t342 && (t361 == t343 && (t362 == t344)))) = true
  case neg =>
    rw [if_neg c22] at H
    have c22b0 : (t359 == t341 && (t360 == t342 && (t361 == t343 && (t362 == t344)))) = false := by simpa using c22
    (try (have c22b1 : decide (t359 = t341 && (t360 == t342 && (t361 == t343 && (t362 == t344)))) = false := by simpa using c22))
    (try (have c22b2 : (t359 == t341 && (t360 == t342 && (t361 == t343 && (t362 == t344)))) = false := by simpa using c22))
    (try (have c22b3 : ¬ (t359 = t341 && (t360 == t342 && (t361 == t343 && (t362 == t344)))) := by simpa using c22))
    clear c22
    exact absurd ((Option.some.inj H).trans hr) (by decide)
  rw [if_pos c22] at H
  have c22b0 : (t359 == t341 && (t360 == t342 && (t361 == t343 && (t362 == t344)))) = true := c22
  (try (have c22b1 : decide (t359 = t341 && (t360 == t342 && (t361 == t343 && (t362 == t344)))) = true := by simpa using c22))
  (try (have c22b2 : (t359 == t341 && (t360 == t342 && (t361 == t343 && (t362 == t344)))) = true := by simpa using c22))
  clear c22
  replace H := Option.bind_eq_some_iff.mp H
  obtain ⟨⟨t388, t389, t390, t391⟩, A230, H⟩ := H
  try dsimp only at H
  have A23 := mA A230
  clear A230
  by_cases c24 : (t365 == t388 && (t366 == t389 && (t367 == t390 && (t368 == t391)))) = true
  case neg =>
    rw [if_neg c24] at H
    have c24b0 : (t365 == t388 && (t366 == t389 && (t367 == t390 && (t368 == t391)))) = false := by simpa using c24
    (try (have c24b1 : decide (t365 = t388 && (t366 == t389 && (t367 == t390 && (t368 == t391)))) = false := by simpa using c24))
    (try (have c24b2 : (t365 == t388 && (t366 == t389 && (t367 == t390 && (t368 == t391)))) = false := by simpa using c24))
    (try (have c24b3 : ¬ (t365 = t388 && (t366 == t389 && (t367 == t390 && (t368 == t391)))) := by simpa using c24))
    clear c24
    exact absurd ((Option.some.inj H).trans hr) (by decide)
  rw [if_pos c24] at H
  have c24b0 : (t365 == t388 && (t366 == t389 && (t367 == t390 && (t368 == t391)))) = true := c24
  (try (have c24b1 : decide (t365 = t388 && (t366 == t389 && (t367 == t390 && (t368 == t391)))) = true := by simpa using c24))
  (try (have c24b2 : (t365 == t388 && (t366 == t389 && (t367 == t390 && (t368 == t391)))) = true := by simpa using c24))
  clear c24
  replace H := Option.bind_eq_some_iff.mp H
  obtain ⟨t392, A250, H⟩ := H
  try dsimp only at H
  have A25 := mA A250
  clear A250
  by_cases c26 : t392 ≥ 0
  case neg =>
    rw [if_neg c26] at H
    have c26b0 : decide (0 ≤ t392) = false := decide_eq_false c26
    clear c26
    exact absurd ((Option.some.inj H).trans hr) (by decide)
  rw [if_pos c26] at H
  have c26b0 : decide (0 ≤ t392) = true := decide_eq_true c26
  clear c26
  replace H := Option.bind_eq_some_iff.mp H
  obtain ⟨⟨t393, t394, t395, t396⟩, A270, H⟩ := H
  try dsimp only at H
  have A27 := mA A270
  clear A270
  replace H := Option.bind_eq_some_iff.mp H
  obtain ⟨t397, A280, H⟩ := H
  replace H : (if t397 < 0 then ((impl_SimplestOf.f k t326 t327 t328 t329).bind fun bt398 => (if (t382 == bt398.1 && (t383 == bt398.2.1 && (t384 == bt398.2.2.1 && (t385 == bt398.2.2.2)))) = true then ((impl_SamePitchClass.f k t326 t327 t328 t329 t341 t342 t343 t344).bind fun t402 => (some t402)) else (some false))) else (some false)) = some r := H
  have A28 := mA A280
  clear A280
  by_cases c29 : t397 < 0
  case neg =>
    rw [if_neg c29] at H
    have c29b0 : decide (t397 < 0) = false := decide_eq_false c29
    clear c29
    exact absurd ((Option.some.inj H).trans hr) (by decide)
  rw [if_pos c29] at H
  have c29b0 : decide (t397 < 0) = true := decide_eq_true c29
  clear c29
  replace H := Option.bind_eq_some_iff.mp H
  obtain ⟨⟨t398, t399, t400, t401⟩, A300, H⟩ := H
  replace H : (if (t382 == t398 && (t383 == t399 && (t384 == t400 && (t385 == t401)))) = true then ((impl_SamePitchClass.f k t326 t327 t328 t329 t341 t342 t343 t344).bind fun t402 => (some t402)) else (some false)) = some r := H
  have A30 := mA A300
  clear A300
  by_cases c31 : (t382 == t398 && (t383 == t399 && (t384 == t400 && (t385 == t401)))) = true
  case neg =>
    rw [if_neg c31] at H
    have c31b0 : (t382 == t398 && (t383 == t399 && (t384 == t400 && (t385 == t401)))) = false := by simpa using c31
    (try (have c31b1 : decide (t382 = t398 && (t383 == t399 && (t384 == t400 && (t385 == t401)))) = false := by simpa using c31))
    (try (have c31b2 : (t382 == t398 && (t383 == t399 && (t384 == t400 && (t385 == t401)))) = false := by simpa using c31))
    (try (have c31b3 : ¬ (t382 = t398 && (t383 == t399 && (t384 == t400 && (t385 == t401)))) := by simpa using c31))
    clear c31
    exact absurd ((Option.some.inj H).trans hr) (by decide)
  rw [if_pos c31] at H
  have c31b0 : (t382 == t398 && (t383 == t399 && (t384 == t400 && (t385 == t401)))) = true := c31
  (try (have c31b1 : decide (t382 = t398 && (t383 == t399 && (t384 == t400 && (t385 == t401)))) = true := by simpa using c31))
  (try (have c31b2 : (t382 == t398 && (t383 == t399 && (t384 == t400 && (t385 == t401)))) = true := by simpa using c31))
  clear c31
  replace H := Option.bind_eq_some_iff.mp H
  obtain ⟨t402, A320, H⟩ := H
  replace H : (some t402) = some r := H
  have A32 := mA A320
  clear A320
  obtain rfl := Option.some.inj H
  go_enter Try.func8, Try.ntmps8
  try go_wp2_with (first | ((with_reducible refine gate_callee (f := 22) rfl ?_); refine goesL_ (some 21) rfl rfl Try.func22 (by kernel_rfl) rfl #[.slice A0 l0.length c0] rfl (by (try simp only [List.map_toArray, List.map_cons, List.map_nil]); first | done | rfl | (simp only [List.length_drop, List.length_take]; rfl)) ?_; (with_reducible refine (laws_big.calls _ _ l0 false _ ?side1 ?side2 A2.out).mono ?_); (case side1 => repeat (first | exact HR0.out | (with_reducible refine Kd.C_alloc ?_ _) | (with_reducible refine Kd.C_drewN ?_ _) | (with_reducible refine Kd.C_drew ?_))); (case side2 => exact HC0.out); rintro e w' ⟨rfl, ⟨nd, rfl⟩⟩; refine ⟨_, rfl, ?_⟩) | ((with_reducible refine gate_callee (f := 27) rfl ?_); refine goesL_ (some 24) rfl rfl Try.func27 (by kernel_rfl) rfl #[.slice A0 l0.length c0] rfl (by (try simp only [List.map_toArray, List.map_cons, List.map_nil]); first | done | rfl | (simp only [List.length_drop, List.length_take]; rfl)) ?_; (with_reducible refine (spec_DrawIntervals.calls k _ _ l0 t326 t327 t328 t329 t330 t331 t332 t333 t334 t335 t336 t337 _ ?side1 ?side2 A4.out).mono ?_); (case side1 => repeat (first | exact HR0.out | (with_reducible refine Kd.C_alloc ?_ _) | (with_reducible refine Kd.C_drewN ?_ _) | (with_reducible refine Kd.C_drew ?_))); (case side2 => exact HC0.out); rintro e w33 ⟨rfl, hb⟩; refine ⟨_, rfl, ?_⟩; have n0_ := mA (below_step (by repeat (first | (with_reducible first | exact HB.out | apply below_alloc | apply pw_below_drewN | apply below_drew1) | exact HB.out)) hb); clear HB; have HB := n0_; clear n0_; (try clear hb); (try clear hb2); (try clear hk); (try clear hi)) | ((with_reducible refine gate_dst (N := 3) rfl ?_); refine box_event ?hg (N := 3) ?hd (cs := #[.int .i64 0, .int .i64 0, .int .i64 0, .int .i64 0]) (t := 25) ?hr ?_; (case hd => rfl); (case hg => rfl); (case hr => first | (go_simp; done) | (go_simp; rfl)); intro Za hg w34 hbox hb; have n0_ := mA (below_step (by repeat (first | (with_reducible first | exact HB.out | apply below_alloc | apply pw_below_drewN | apply below_drew1) | exact HB.out)) hb); have n1_ := mA (hbox); have n2_ := mA ((by rw [hg]; exact (below_size (by repeat (first | (with_reducible first | exact HB.out | apply below_alloc | apply pw_below_drewN | apply below_drew1) | exact HB.out))) : w.heap.size ≤ Za)); have n3_ := mA ((by rw [hg]; exact (below_size (by repeat (first | (with_reducible first | exact HB.out | apply below_alloc | apply pw_below_drewN | apply below_drew1) | exact HB.out))) : w.heap.size ≤ Za)); clear HB; have HB := n0_; have Zb := n1_; have Zc := n2_; have Zd := n3_; clear n0_ n1_ n2_ n3_; clear hb hbox hg) | ((with_reducible refine gate_dst (N := 4) rfl ?_); refine box_event ?hg (N := 4) ?hd (cs := #[.int .i64 0, .int .i64 0, .int .i64 0, .int .i64 0]) (t := 25) ?hr ?_; (case hd => rfl); (case hg => rfl); (case hr => first | (go_simp; done) | (go_simp; rfl)); intro Ze hg w35 hbox hb; have n0_ := mA (blk_below (g := Za) (o := cQ25 0 0 0 0) Zb.out hb); have n1_ := mA (below_step (by repeat (first | (with_reducible first | exact HB.out | apply below_alloc | apply pw_below_drewN | apply below_drew1 | refine below_set ?_ Zd.out) | exact HB.out)) hb); have n2_ := mA (hbox); have n3_ := mA ((by rw [hg]; exact (below_size (by repeat (first | (with_reducible first | exact HB.out | apply below_alloc | apply pw_below_drewN | apply below_drew1 | refine below_set ?_ Zd.out) | exact HB.out))) : w.heap.size ≤ Ze)); have n4_ := mA ((by rw [hg]; exact (below_size (by repeat (first | (with_reducible first | exact HB.out | apply below_alloc | apply pw_below_drewN | apply below_drew1 | refine below_set ?_ Zd.out) | exact HB.out))) : w.heap.size ≤ Ze)); have n5_ := mA ((by rw [hg]; exact Nat.ne_of_lt (blk_lt (g := Za) (o := cQ25 0 0 0 0) Zb.out) : Za ≠ Ze)); have n6_ := mA ((by rw [hg]; exact Nat.ne_of_gt (blk_lt (g := Za) (o := cQ25 0 0 0 0) Zb.out) : Ze ≠ Za)); clear Zb; clear HB; have Zb := n0_; have HB := n1_; have Zf := n2_; have Zg := n3_; have Zh := n4_; have Zi := n5_; have Zj := n6_; clear n0_ n1_ n2_ n3_ n4_ n5_ n6_; clear hb hbox hg) | ((with_reducible refine gate_dst (N := 5) rfl ?_); refine box_event ?hg (N := 5) ?hd (cs := #[.int .i64 0, .int .i64 0, .int .i64 0, .int .i64 0]) (t := 25) ?hr ?_; (case hd => rfl); (case hg => rfl); (case hr => first | (go_simp; done) | (go_simp; rfl)); intro Zk hg w36 hbox hb; have n0_ := mA (blk_below (g := Za) (o := cQ25 0 0 0 0) Zb.out hb); have n1_ := mA (blk_below (g := Ze) (o := cQ25 0 0 0 0) Zf.out hb); have n2_ := mA (below_step (by repeat (first | (with_reducible first | exact HB.out | apply below_alloc | apply pw_below_drewN | apply below_drew1 | refine below_set ?_ Zd.out | refine below_set ?_ Zh.out) | exact HB.out)) hb); have n3_ := mA (hbox); have n4_ := mA ((by rw [hg]; exact (below_size (by repeat (first | (with_reducible first | exact HB.out | apply below_alloc | apply pw_below_drewN | apply below_drew1 | refine below_set ?_ Zd.out | refine below_set ?_ Zh.out) | exact HB.out))) : w.heap.size ≤ Zk)); have n5_ := mA ((by rw [hg]; exact (below_size (by repeat (first | (with_reducible first | exact HB.out | apply below_alloc | apply pw_below_drewN | apply below_drew1 | refine below_set ?_ Zd.out | refine below_set ?_ Zh.out) | exact HB.out))) : w.heap.size ≤ Zk)); have n6_ := mA ((by rw [hg]; exact Nat.ne_of_lt (blk_lt (g := Za) (o := cQ25 0 0 0 0) Zb.out) : Za ≠ Zk)); have n7_ := mA ((by rw [hg]; exact Nat.ne_of_gt (blk_lt (g := Za) (o := cQ25 0 0 0 0) Zb.out) : Zk ≠ Za)); have n8_ := mA ((by rw [hg]; exact Nat.ne_of_lt (blk_lt (g := Ze) (o := cQ25 0 0 0 0) Zf.out) : Ze ≠ Zk)); have n9_ := mA ((by rw [hg]; exact Nat.ne_of_gt (blk_lt (g := Ze) (o := cQ25 0 0 0 0) Zf.out) : Zk ≠ Ze)); clear Zb; clear Zf; clear HB; have Zb := n0_; have Zf := n1_; have HB := n2_; have Zm := n3_; have Zn := n4_; have Zp := n5_; have Zq := n6_; have Zr := n7_; have Zs := n8_; have Zt := n9_; clear n0_ n1_ n2_ n3_ n4_ n5_ n6_ n7_ n8_ n9_; clear hb hbox hg; have Zu := Zi.out; have Zv := Zj.out; have Zw := Zq.out; have Zx := Zr.out; have Zy : w36.cell? ⟨Za, 0, none⟩ = some (.int .i64 0) := (blk_cell Zb.out 0).trans rfl; have Zz : w36.cell? ⟨Za, 1, none⟩ = some (.int .i64 0) := (blk_cell Zb.out 1).trans rfl; have Zba : w36.cell? ⟨Za, 2, none⟩ = some (.int .i64 0) := (blk_cell Zb.out 2).trans rfl; have Zbb : w36.cell? ⟨Za, 3, none⟩ = some (.int .i64 0) := (blk_cell Zb.out 3).trans rfl; have Zbc := blk_frozen Zb.out 0; have Zbd := blk_frozen Zb.out 1; have Zbe := blk_frozen Zb.out 2; have Zbf := blk_frozen Zb.out 3; have Zbg := Zs.out; have Zbh := Zt.out; have Zbi : w36.cell? ⟨Ze, 0, none⟩ = some (.int .i64 0) := (blk_cell Zf.out 0).trans rfl; have Zbj : w36.cell? ⟨Ze, 1, none⟩ = some (.int .i64 0) := (blk_cell Zf.out 1).trans rfl; have Zbk : w36.cell? ⟨Ze, 2, none⟩ = some (.int .i64 0) := (blk_cell Zf.out 2).trans rfl; have Zbm : w36.cell? ⟨Ze, 3, none⟩ = some (.int .i64 0) := (blk_cell Zf.out 3).trans rfl; have Zbn := blk_frozen Zf.out 0; have Zbp := blk_frozen Zf.out 1; have Zbq := blk_frozen Zf.out 2; have Zbr := blk_frozen Zf.out 3; have Zbs : w36.cell? ⟨Zk, 0, none⟩ = some (.int .i64 0) := (blk_cell Zm.out 0).trans rfl; have Zbt : w36.cell? ⟨Zk, 1, none⟩ = some (.int .i64 0) := (blk_cell Zm.out 1).trans rfl; have Zbu : w36.cell? ⟨Zk, 2, none⟩ = some (.int .i64 0) := (blk_cell Zm.out 2).trans rfl; have Zbv : w36.cell? ⟨Zk, 3, none⟩ = some (.int .i64 0) := (blk_cell Zm.out 3).trans rfl; have Zbw := blk_frozen Zm.out 0; have Zbx := blk_frozen Zm.out 1; have Zby := blk_frozen Zm.out 2; have Zbz := blk_frozen Zm.out 3) | ((with_reducible refine gate_callee (f := 16) rfl ?_); refine goesL_ (some 30) rfl rfl Try.func16 (by kernel_rfl) rfl #[.agg #[.int .i64 t326, .int .i64 t327, .int .i64 t328, .int .i64 t329]] rfl (by (try simp only [List.map_toArray, List.map_cons, List.map_nil]); first | done | rfl | (simp only [List.length_drop, List.length_take]; rfl)) ?_; (with_reducible refine (impl_WithinOctave.calls k t326 t327 t328 t329 t341 t342 t343 t344 true _ A5.out).mono ?_); rintro e w43 ⟨rfl, hb⟩; refine ⟨_, rfl, ?_⟩; have n0_ := mA (blk_below (g := Za) (o := cQ25 t326 t327 t328 t329) (by (with_reducible repeat (first | refine blk_drewN ?_ _ | refine blk_drew ?_ | refine blk_alloc ?_ _)); refine blk_far ?_ Zq.out _; (with_reducible repeat (first | refine blk_drewN ?_ _ | refine blk_drew ?_ | refine blk_alloc ?_ _)); refine blk_far ?_ Zq.out _; (with_reducible repeat (first | refine blk_drewN ?_ _ | refine blk_drew ?_ | refine blk_alloc ?_ _)); refine blk_far ?_ Zq.out _; (with_reducible repeat (first | refine blk_drewN ?_ _ | refine blk_drew ?_ | refine blk_alloc ?_ _)); refine blk_far ?_ Zq.out _; (with_reducible repeat (first | refine blk_drewN ?_ _ | refine blk_drew ?_ | refine blk_alloc ?_ _)); refine blk_far ?_ Zi.out _; (with_reducible repeat (first | refine blk_drewN ?_ _ | refine blk_drew ?_ | refine blk_alloc ?_ _)); refine blk_far ?_ Zi.out _; (with_reducible repeat (first | refine blk_drewN ?_ _ | refine blk_drew ?_ | refine blk_alloc ?_ _)); refine blk_far ?_ Zi.out _; (with_reducible repeat (first | refine blk_drewN ?_ _ | refine blk_drew ?_ | refine blk_alloc ?_ _)); refine blk_far ?_ Zi.out _; (with_reducible repeat (first | refine blk_drewN ?_ _ | refine blk_drew ?_ | refine blk_alloc ?_ _)); refine blk_put (cs := #[.int .i64 t326, .int .i64 t327, .int .i64 t328, .int .i64 0]) ?_ 3 _ rfl; (with_reducible repeat (first | refine blk_drewN ?_ _ | refine blk_drew ?_ | refine blk_alloc ?_ _)); refine blk_put (cs := #[.int .i64 t326, .int .i64 t327, .int .i64 0, .int .i64 0]) ?_ 2 _ rfl; (with_reducible repeat (first | refine blk_drewN ?_ _ | refine blk_drew ?_ | refine blk_alloc ?_ _)); refine blk_put (cs := #[.int .i64 t326, .int .i64 0, .int .i64 0, .int .i64 0]) ?_ 1 _ rfl; (with_reducible repeat (first | refine blk_drewN ?_ _ | refine blk_drew ?_ | refine blk_alloc ?_ _)); refine blk_put (cs := #[.int .i64 0, .int .i64 0, .int .i64 0, .int .i64 0]) ?_ 0 _ rfl; (with_reducible repeat (first | refine blk_drewN ?_ _ | refine blk_drew ?_ | refine blk_alloc ?_ _)); exact Zb.out) hb); have n1_ := mA (blk_below (g := Ze) (o := cQ25 t330 t331 t332 t333) (by (with_reducible repeat (first | refine blk_drewN ?_ _ | refine blk_drew ?_ | refine blk_alloc ?_ _)); refine blk_far ?_ Zs.out _; (with_reducible repeat (first | refine blk_drewN ?_ _ | refine blk_drew ?_ | refine blk_alloc ?_ _)); refine blk_far ?_ Zs.out _; (with_reducible repeat (first | refine blk_drewN ?_ _ | refine blk_drew ?_ | refine blk_alloc ?_ _)); refine blk_far ?_ Zs.out _; (with_reducible repeat (first | refine blk_drewN ?_ _ | refine blk_drew ?_ | refine blk_alloc ?_ _)); refine blk_far ?_ Zs.out _; (with_reducible repeat (first | refine blk_drewN ?_ _ | refine blk_drew ?_ | refine blk_alloc ?_ _)); refine blk_put (cs := #[.int .i64 t330, .int .i64 t331, .int .i64 t332, .int .i64 0]) ?_ 3 _ rfl; (with_reducible repeat (first | refine blk_drewN ?_ _ | refine blk_drew ?_ | refine blk_alloc ?_ _)); refine blk_put (cs := #[.int .i64 t330, .int .i64 t331, .int .i64 0, .int .i64 0]) ?_ 2 _ rfl; (with_reducible repeat (first | refine blk_drewN ?_ _ | refine blk_drew ?_ | refine blk_alloc ?_ _)); refine blk_put (cs := #[.int .i64 t330, .int .i64 0, .int .i64 0, .int .i64 0]) ?_ 1 _ rfl; (with_reducible repeat (first | refine blk_drewN ?_ _ | refine blk_drew ?_ | refine blk_alloc ?_ _)); refine blk_put (cs := #[.int .i64 0, .int .i64 0, .int .i64 0, .int .i64 0]) ?_ 0 _ rfl; (with_reducible repeat (first | refine blk_drewN ?_ _ | refine blk_drew ?_ | refine blk_alloc ?_ _)); refine blk_far ?_ Zj.out _; (with_reducible repeat (first | refine blk_drewN ?_ _ | refine blk_drew ?_ | refine blk_alloc ?_ _)); refine blk_far ?_ Zj.out _; (with_reducible repeat (first | refine blk_drewN ?_ _ | refine blk_drew ?_ | refine blk_alloc ?_ _)); refine blk_far ?_ Zj.out _; (with_reducible repeat (first | refine blk_drewN ?_ _ | refine blk_drew ?_ | refine blk_alloc ?_ _)); refine blk_far ?_ Zj.out _; (with_reducible repeat (first | refine blk_drewN ?_ _ | refine blk_drew ?_ | refine blk_alloc ?_ _)); exact Zf.out) hb); have n2_ := mA (blk_below (g := Zk) (o := cQ25 t334 t335 t336 t337) (by (with_reducible repeat (first | refine blk_drewN ?_ _ | refine blk_drew ?_ | refine blk_alloc ?_ _)); refine blk_put (cs := #[.int .i64 t334, .int .i64 t335, .int .i64 t336, .int .i64 0]) ?_ 3 _ rfl; (with_reducible repeat (first | refine blk_drewN ?_ _ | refine blk_drew ?_ | refine blk_alloc ?_ _)); refine blk_put (cs := #[.int .i64 t334, .int .i64 t335, .int .i64 0, .int .i64 0]) ?_ 2 _ rfl; (with_reducible repeat (first | refine blk_drewN ?_ _ | refine blk_drew ?_ | refine blk_alloc ?_ _)); refine blk_put (cs := #[.int .i64 t334, .int .i64 0, .int .i64 0, .int .i64 0]) ?_ 1 _ rfl; (with_reducible repeat (first | refine blk_drewN ?_ _ | refine blk_drew ?_ | refine blk_alloc ?_ _)); refine blk_put (cs := #[.int .i64 0, .int .i64 0, .int .i64 0, .int .i64 0]) ?_ 0 _ rfl; (with_reducible repeat (first | refine blk_drewN ?_ _ | refine blk_drew ?_ | refine blk_alloc ?_ _)); refine blk_far ?_ Zt.out _; (with_reducible repeat (first | refine blk_drewN ?_ _ | refine blk_drew ?_ | refine blk_alloc ?_ _)); refine blk_far ?_ Zt.out _; (with_reducible repeat (first | refine blk_drewN ?_ _ | refine blk_drew ?_ | refine blk_alloc ?_ _)); refine blk_far ?_ Zt.out _; (with_reducible repeat (first | refine blk_drewN ?_ _ | refine blk_drew ?_ | refine blk_alloc ?_ _)); refine blk_far ?_ Zt.out _; (with_reducible repeat (first | refine blk_drewN ?_ _ | refine blk_drew ?_ | refine blk_alloc ?_ _)); refine blk_far ?_ Zr.out _; (with_reducible repeat (first | refine blk_drewN ?_ _ | refine blk_drew ?_ | refine blk_alloc ?_ _)); refine blk_far ?_ Zr.out _; (with_reducible repeat (first | refine blk_drewN ?_ _ | refine blk_drew ?_ | refine blk_alloc ?_ _)); refine blk_far ?_ Zr.out _; (with_reducible repeat (first | refine blk_drewN ?_ _ | refine blk_drew ?_ | refine blk_alloc ?_ _)); refine blk_far ?_ Zr.out _; (with_reducible repeat (first | refine blk_drewN ?_ _ | refine blk_drew ?_ | refine blk_alloc ?_ _)); exact Zm.out) hb); have n3_ := mA (below_step (by repeat (first | (with_reducible first | exact HB.out | apply below_alloc | apply pw_below_drewN | apply below_drew1 | refine below_set ?_ Zd.out | refine below_set ?_ Zh.out | refine below_set ?_ Zp.out) | exact HB.out)) hb); clear Zb; clear Zf; clear Zm; clear HB; have Zb := n0_; have Zf := n1_; have Zm := n2_; have HB := n3_; clear n0_ n1_ n2_ n3_; (try clear hb); (try clear hb2); (try clear hk); (try clear hi)) | ((with_reducible refine gate_dst (N := 6) rfl ?_); refine box_event ?hg (N := 6) ?hd (cs := #[.int .i64 0, .int .i64 0, .int .i64 0, .int .i64 0]) (t := 25) ?hr ?_; (case hd => rfl); (case hg => rfl); (case hr => first | (go_simp; done) | (go_simp; rfl)); intro Zca hg w44 hbox hb; have n0_ := mA (blk_below (g := Za) (o := cQ25 t326 t327 t328 t329) Zb.out hb); have n1_ := mA (blk_below (g := Ze) (o := cQ25 t330 t331 t332 t333) Zf.out hb); have n2_ := mA (blk_below (g := Zk) (o := cQ25 t334 t335 t336 t337) Zm.out hb); have n3_ := mA (below_step (by repeat (first | (with_reducible first | exact HB.out | apply below_alloc | apply pw_below_drewN | apply below_drew1 | refine below_set ?_ Zd.out | refine below_set ?_ Zh.out | refine below_set ?_ Zp.out) | exact HB.out)) hb); have n4_ := mA (hbox); have n5_ := mA ((by rw [hg]; exact (below_size (by repeat (first | (with_reducible first | exact HB.out | apply below_alloc | apply pw_below_drewN | apply below_drew1 | refine below_set ?_ Zd.out | refine below_set ?_ Zh.out | refine below_set ?_ Zp.out) | exact HB.out))) : w.heap.size ≤ Zca)); have n6_ := mA ((by rw [hg]; exact (below_size (by repeat (first | (with_reducible first | exact HB.out | apply below_alloc | apply pw_below_drewN | apply below_drew1 | refine below_set ?_ Zd.out | refine below_set ?_ Zh.out | refine below_set ?_ Zp.out) | exact HB.out))) : w.heap.size ≤ Zca)); have n7_ := mA ((by rw [hg]; exact Nat.ne_of_lt (blk_lt (g := Za) (o := cQ25 t326 t327 t328 t329) Zb.out) : Za ≠ Zca)); have n8_ := mA ((by rw [hg]; exact Nat.ne_of_gt (blk_lt (g := Za) (o := cQ25 t326 t327 t328 t329) Zb.out) : Zca ≠ Za)); have n9_ := mA ((by rw [hg]; exact Nat.ne_of_lt (blk_lt (g := Ze) (o := cQ25 t330 t331 t332 t333) Zf.out) : Ze ≠ Zca)); have n10_ := mA ((by rw [hg]; exact Nat.ne_of_gt (blk_lt (g := Ze) (o := cQ25 t330 t331 t332 t333) Zf.out) : Zca ≠ Ze)); have n11_ := mA ((by rw [hg]; exact Nat.ne_of_lt (blk_lt (g := Zk) (o := cQ25 t334 t335 t336 t337) Zm.out) : Zk ≠ Zca)); have n12_ := mA ((by rw [hg]; exact Nat.ne_of_gt (blk_lt (g := Zk) (o := cQ25 t334 t335 t336 t337) Zm.out) : Zca ≠ Zk)); clear Zb; clear Zf; clear Zm; clear HB; have Zb := n0_; have Zf := n1_; have Zm := n2_; have HB := n3_; have Zcb := n4_; have Zcc := n5_; have Zcd := n6_; have Zce := n7_; have Zcf := n8_; have Zcg := n9_; have Zch := n10_; have Zci := n11_; have Zcj := n12_; clear n0_ n1_ n2_ n3_ n4_ n5_ n6_ n7_ n8_ n9_ n10_ n11_ n12_; clear hb hbox hg; have Zck := Zcf.out; have Zcm := Zce.out; have Zcn := Zch.out; have Zcp := Zcg.out; have Zcq := Zcj.out; have Zcr := Zci.out; have Zcs : w44.cell? ⟨Zca, 0, none⟩ = some (.int .i64 0) := (blk_cell Zcb.out 0).trans rfl; have Zct : w44.cell? ⟨Zca, 1, none⟩ = some (.int .i64 0) := (blk_cell Zcb.out 1).trans rfl; have Zcu : w44.cell? ⟨Zca, 2, none⟩ = some (.int .i64 0) := (blk_cell Zcb.out 2).trans rfl; have Zcv : w44.cell? ⟨Zca, 3, none⟩ = some (.int .i64 0) := (blk_cell Zcb.out 3).trans rfl; have Zcw := blk_frozen Zcb.out 0; have Zcx := blk_frozen Zcb.out 1; have Zcy := blk_frozen Zcb.out 2; have Zcz := blk_frozen Zcb.out 3) | ((with_reducible refine gate_callee (f := 16) rfl ?_); refine goesL_ (some 35) rfl rfl Try.func16 (by kernel_rfl) rfl #[.agg #[.int .i64 t341, .int .i64 t342, .int .i64 t343, .int .i64 t344]] rfl (by (try simp only [List.map_toArray, List.map_cons, List.map_nil]); first | done | rfl | (simp only [List.length_drop, List.length_take]; rfl)) ?_; (with_reducible refine (impl_WithinOctave.calls k t341 t342 t343 t344 t347 t348 t349 t350 true _ A6.out).mono ?_); rintro e w49 ⟨rfl, hb⟩; refine ⟨_, rfl, ?_⟩; have n0_ := mA (blk_below (g := Za) (o := cQ25 t326 t327 t328 t329) (by (with_reducible repeat (first | refine blk_drewN ?_ _ | refine blk_drew ?_ | refine blk_alloc ?_ _)); refine blk_far ?_ Zce.out _; (with_reducible repeat (first | refine blk_drewN ?_ _ | refine blk_drew ?_ | refine blk_alloc ?_ _)); refine blk_far ?_ Zce.out _; (with_reducible repeat (first | refine blk_drewN ?_ _ | refine blk_drew ?_ | refine blk_alloc ?_ _)); refine blk_far ?_ Zce.out _; (with_reducible repeat (first | refine blk_drewN ?_ _ | refine blk_drew ?_ | refine blk_alloc ?_ _)); refine blk_far ?_ Zce.out _; (with_reducible repeat (first | refine blk_drewN ?_ _ | refine blk_drew ?_ | refine blk_alloc ?_ _)); exact Zb.out) hb); have n1_ := mA (blk_below (g := Ze) (o := cQ25 t330 t331 t332 t333) (by (with_reducible repeat (first | refine blk_drewN ?_ _ | refine blk_drew ?_ | refine blk_alloc ?_ _)); refine blk_far ?_ Zcg.out _; (with_reducible repeat (first | refine blk_drewN ?_ _ | refine blk_drew ?_ | refine blk_alloc ?_ _)); refine blk_far ?_ Zcg.out _; (with_reducible repeat (first | refine blk_drewN ?_ _ | refine blk_drew ?_ | refine blk_alloc ?_ _)); refine blk_far ?_ Zcg.out _; (with_reducible repeat (first | refine blk_drewN ?_ _ | refine blk_drew ?_ | refine blk_alloc ?_ _)); refine blk_far ?_ Zcg.out _; (with_reducible repeat (first | refine blk_drewN ?_ _ | refine blk_drew ?_ | refine blk_alloc ?_ _)); exact Zf.out) hb); have n2_ := mA (blk_below (g := Zk) (o := cQ25 t334 t335 t336 t337) (by (with_reducible repeat (first | refine blk_drewN ?_ _ | refine blk_drew ?_ | refine blk_alloc ?_ _)); refine blk_far ?_ Zci.out _; (with_reducible repeat (first | refine blk_drewN ?_ _ | refine blk_drew ?_ | refine blk_alloc ?_ _)); refine blk_far ?_ Zci.out _; (with_reducible repeat (first | refine blk_drewN ?_ _ | refine blk_drew ?_ | refine blk_alloc ?_ _)); refine blk_far ?_ Zci.out _; (with_reducible repeat (first | refine blk_drewN ?_ _ | refine blk_drew ?_ | refine blk_alloc ?_ _)); refine blk_far ?_ Zci.out _; (with_reducible repeat (first | refine blk_drewN ?_ _ | refine blk_drew ?_ | refine blk_alloc ?_ _)); exact Zm.out) hb); have n3_ := mA (blk_below (g := Zca) (o := cQ25 t341 t342 t343 t344) (by (with_reducible repeat (first | refine blk_drewN ?_ _ | refine blk_drew ?_ | refine blk_alloc ?_ _)); refine blk_put (cs := #[.int .i64 t341, .int .i64 t342, .int .i64 t343, .int .i64 0]) ?_ 3 _ rfl; (with_reducible repeat (first | refine blk_drewN ?_ _ | refine blk_drew ?_ | refine blk_alloc ?_ _)); refine blk_put (cs := #[.int .i64 t341, .int .i64 t342, .int .i64 0, .int .i64 0]) ?_ 2 _ rfl; (with_reducible repeat (first | refine blk_drewN ?_ _ | refine blk_drew ?_ | refine blk_alloc ?_ _)); refine blk_put (cs := #[.int .i64 t341, .int .i64 0, .int .i64 0, .int .i64 0]) ?_ 1 _ rfl; (with_reducible repeat (first | refine blk_drewN ?_ _ | refine blk_drew ?_ | refine blk_alloc ?_ _)); refine blk_put (cs := #[.int .i64 0, .int .i64 0, .int .i64 0, .int .i64 0]) ?_ 0 _ rfl; (with_reducible repeat (first | refine blk_drewN ?_ _ | refine blk_drew ?_ | refine blk_alloc ?_ _)); exact Zcb.out) hb); have n4_ := mA (below_step (by repeat (first | (with_reducible first | exact HB.out | apply below_alloc | apply pw_below_drewN | apply below_drew1 | refine below_set ?_ Zd.out | refine below_set ?_ Zh.out | refine below_set ?_ Zp.out | refine below_set ?_ Zcd.out) | exact HB.out)) hb); clear Zb; clear Zf; clear Zm; clear Zcb; clear HB; have Zb := n0_; have Zf := n1_; have Zm := n2_; have Zcb := n3_; have HB := n4_; clear n0_ n1_ n2_ n3_ n4_; (try clear hb); (try clear hb2); (try clear hk); (try clear hi)) | ((with_reducible refine gate_dst (N := 8) rfl ?_); refine box_event ?hg (N := 8) ?hd (cs := #[.int .i64 0, .int .i64 0, .int .i64 0, .int .i64 0]) (t := 25) ?hr ?_; (case hd => rfl); (case hg => rfl); (case hr => first | (go_simp; done) | (go_simp; rfl)); intro Zda hg w50 hbox hb; have n0_ := mA (blk_below (g := Za) (o := cQ25 t326 t327 t328 t329) Zb.out hb); have n1_ := mA (blk_below (g := Ze) (o := cQ25 t330 t331 t332 t333) Zf.out hb); have n2_ := mA (blk_below (g := Zk) (o := cQ25 t334 t335 t336 t337) Zm.out hb); have n3_ := mA (blk_below (g := Zca) (o := cQ25 t341 t342 t343 t344) Zcb.out hb); have n4_ := mA (below_step (by repeat (first | (with_reducible first | exact HB.out | apply below_alloc | apply pw_below_drewN | apply below_drew1 | refine below_set ?_ Zd.out | refine below_set ?_ Zh.out | refine below_set ?_ Zp.out | refine below_set ?_ Zcd.out) | exact HB.out)) hb); have n5_ := mA (hbox); have n6_ := mA ((by rw [hg]; exact (below_size (by repeat (first | (with_reducible first | exact HB.out | apply below_alloc | apply pw_below_drewN | apply below_drew1 | refine below_set ?_ Zd.out | refine below_set ?_ Zh.out | refine below_set ?_ Zp.out | refine below_set ?_ Zcd.out) | exact HB.out))) : w.heap.size ≤ Zda)); have n7_ := mA ((by rw [hg]; exact (below_size (by repeat (first | (with_reducible first | exact HB.out | apply below_alloc | apply pw_below_drewN | apply below_drew1 | refine below_set ?_ Zd.out | refine below_set ?_ Zh.out | refine below_set ?_ Zp.out | refine below_set ?_ Zcd.out) | exact HB.out))) : w.heap.size ≤ Zda)); have n8_ := mA ((by rw [hg]; exact Nat.ne_of_lt (blk_lt (g := Za) (o := cQ25 t326 t327 t328 t329) Zb.out) : Za ≠ Zda)); have n9_ := mA ((by rw [hg]; exact Nat.ne_of_gt (blk_lt (g := Za) (o := cQ25 t326 t327 t328 t329) Zb.out) : Zda ≠ Za)); have n10_ := mA ((by rw [hg]; exact Nat.ne_of_lt (blk_lt (g := Ze) (o := cQ25 t330 t331 t332 t333) Zf.out) : Ze ≠ Zda)); have n11_ := mA ((by rw [hg]; exact Nat.ne_of_gt (blk_lt (g := Ze) (o := cQ25 t330 t331 t332 t333) Zf.out) : Zda ≠ Ze)); have n12_ := mA ((by rw [hg]; exact Nat.ne_of_lt (blk_lt (g := Zk) (o := cQ25 t334 t335 t336 t337) Zm.out) : Zk ≠ Zda)); have n13_ := mA ((by rw [hg]; exact Nat.ne_of_gt (blk_lt (g := Zk) (o := cQ25 t334 t335 t336 t337) Zm.out) : Zda ≠ Zk)); have n14_ := mA ((by rw [hg]; exact Nat.ne_of_lt (blk_lt (g := Zca) (o := cQ25 t341 t342 t343 t344) Zcb.out) : Zca ≠ Zda)); have n15_ := mA ((by rw [hg]; exact Nat.ne_of_gt (blk_lt (g := Zca) (o := cQ25 t341 t342 t343 t344) Zcb.out) : Zda ≠ Zca)); clear Zb; clear Zf; clear Zm; clear Zcb; clear HB; have Zb := n0_; have Zf := n1_; have Zm := n2_; have Zcb := n3_; have HB := n4_; have Zdb := n5_; have Zdc := n6_; have Zdd := n7_; have Zde := n8_; have Zdf := n9_; have Zdg := n10_; have Zdh := n11_; have Zdi := n12_; have Zdj := n13_; have Zdk := n14_; have Zdm := n15_; clear n0_ n1_ n2_ n3_ n4_ n5_ n6_ n7_ n8_ n9_ n10_ n11_ n12_ n13_ n14_ n15_; clear hb hbox hg; have Zdn := Zdf.out; have Zdp := Zde.out; have Zdq := Zdh.out; have Zdr := Zdg.out; have Zds := Zdj.out; have Zdt := Zdi.out; have Zdu := Zdm.out; have Zdv := Zdk.out; have Zdw : w50.cell? ⟨Zda, 0, none⟩ = some (.int .i64 0) := (blk_cell Zdb.out 0).trans rfl; have Zdx : w50.cell? ⟨Zda, 1, none⟩ = some (.int .i64 0) := (blk_cell Zdb.out 1).trans rfl; have Zdy : w50.cell? ⟨Zda, 2, none⟩ = some (.int .i64 0) := (blk_cell Zdb.out 2).trans rfl; have Zdz : w50.cell? ⟨Zda, 3, none⟩ = some (.int .i64 0) := (blk_cell Zdb.out 3).trans rfl; have Zea := blk_frozen Zdb.out 0; have Zeb := blk_frozen Zdb.out 1; have Zec := blk_frozen Zdb.out 2; have Zed := blk_frozen Zdb.out 3; have Zee : w50.cell? ⟨Zca, 0, none⟩ = some (.int .i64 t341) := (blk_cell Zcb.out 0).trans rfl; have Zef : w50.cell? ⟨Zca, 1, none⟩ = some (.int .i64 t342) := (blk_cell Zcb.out 1).trans rfl; have Zeg : w50.cell? ⟨Zca, 2, none⟩ = some (.int .i64 t343) := (blk_cell Zcb.out 2).trans rfl; have Zeh : w50.cell? ⟨Zca, 3, none⟩ = some (.int .i64 t344) := (blk_cell Zcb.out 3).trans rfl; have Zei := blk_frozen Zcb.out 0; have Zej := blk_frozen Zcb.out 1; have Zek := blk_frozen Zcb.out 2; have Zem := blk_frozen Zcb.out 3) | ((with_reducible refine gate_callee (f := 28) rfl ?_); refine goesL_ (some 40) rfl rfl Try.func28 (by kernel_rfl) rfl #[.agg #[.int .i64 t341, .int .i64 t342, .int .i64 t343, .int .i64 t344]] rfl (by (try simp only [List.map_toArray, List.map_cons, List.map_nil]); first | done | rfl | (simp only [List.length_drop, List.length_take]; rfl)) ?_; (with_reducible refine (impl_InvertInterval.calls k t341 t342 t343 t344 t353 t354 t355 t356 true _ A7.out).mono ?_); rintro e w57 ⟨rfl, hb⟩; refine ⟨_, rfl, ?_⟩; have n0_ := mA (blk_below (g := Za) (o := cQ25 t326 t327 t328 t329) (by (with_reducible repeat (first | refine blk_drewN ?_ _ | refine blk_drew ?_ | refine blk_alloc ?_ _)); refine blk_far ?_ Zde.out _; (with_reducible repeat (first | refine blk_drewN ?_ _ | refine blk_drew ?_ | refine blk_alloc ?_ _)); refine blk_far ?_ Zde.out _; (with_reducible repeat (first | refine blk_drewN ?_ _ | refine blk_drew ?_ | refine blk_alloc ?_ _)); refine blk_far ?_ Zde.out _; (with_reducible repeat (first | refine blk_drewN ?_ _ | refine blk_drew ?_ | refine blk_alloc ?_ _)); refine blk_far ?_ Zde.out _; (with_reducible repeat (first | refine blk_drewN ?_ _ | refine blk_drew ?_ | refine blk_alloc ?_ _)); exact Zb.out) hb); have n1_ := mA (blk_below (g := Ze) (o := cQ25 t330 t331 t332 t333) (by (with_reducible repeat (first | refine blk_drewN ?_ _ | refine blk_drew ?_ | refine blk_alloc ?_ _)); refine blk_far ?_ Zdg.out _; (with_reducible repeat (first | refine blk_drewN ?_ _ | refine blk_drew ?_ | refine blk_alloc ?_ _)); refine blk_far ?_ Zdg.out _; (with_reducible repeat (first | refine blk_drewN ?_ _ | refine blk_drew ?_ | refine blk_alloc ?_ _)); refine blk_far ?_ Zdg.out _; (with_reducible repeat (first | refine blk_drewN ?_ _ | refine blk_drew ?_ | refine blk_alloc ?_ _)); refine blk_far ?_ Zdg.out _; (with_reducible repeat (first | refine blk_drewN ?_ _ | refine blk_drew ?_ | refine blk_alloc ?_ _)); exact Zf.out) hb); have n2_ := mA (blk_below (g := Zk) (o := cQ25 t334 t335 t336 t337) (by (with_reducible repeat (first | refine blk_drewN ?_ _ | refine blk_drew ?_ | refine blk_alloc ?_ _)); refine blk_far ?_ Zdi.out _; (with_reducible repeat (first | refine blk_drewN ?_ _ | refine blk_drew ?_ | refine blk_alloc ?_ _)); refine blk_far ?_ Zdi.out _; (with_reducible repeat (first | refine blk_drewN ?_ _ | refine blk_drew ?_ | refine blk_alloc ?_ _)); refine blk_far ?_ Zdi.out _; (with_reducible repeat (first | refine blk_drewN ?_ _ | refine blk_drew ?_ | refine blk_alloc ?_ _)); refine blk_far ?_ Zdi.out _; (with_reducible repeat (first | refine blk_drewN ?_ _ | refine blk_drew ?_ | refine blk_alloc ?_ _)); exact Zm.out) hb); have n3_ := mA (blk_below (g := Zca) (o := cQ25 t341 t342 t343 t344) (by (with_reducible repeat (first | refine blk_drewN ?_ _ | refine blk_drew ?_ | refine blk_alloc ?_ _)); refine blk_far ?_ Zdk.out _; (with_reducible repeat (first | refine blk_drewN ?_ _ | refine blk_drew ?_ | refine blk_alloc ?_ _)); refine blk_far ?_ Zdk.out _; (with_reducible repeat (first | refine blk_drewN ?_ _ | refine blk_drew ?_ | refine blk_alloc ?_ _)); refine blk_far ?_ Zdk.out _; (with_reducible repeat (first | refine blk_drewN ?_ _ | refine blk_drew ?_ | refine blk_alloc ?_ _)); refine blk_far ?_ Zdk.out _; (with_reducible repeat (first | refine blk_drewN ?_ _ | refine blk_drew ?_ | refine blk_alloc ?_ _)); exact Zcb.out) hb); have n4_ := mA (blk_below (g := Zda) (o := cQ25 t347 t348 t349 t350) (by (with_reducible repeat (first | refine blk_drewN ?_ _ | refine blk_drew ?_ | refine blk_alloc ?_ _)); refine blk_put (cs := #[.int .i64 t347, .int .i64 t348, .int .i64 t349, .int .i64 0]) ?_ 3 _ rfl; (with_reducible repeat (first | refine blk_drewN ?_ _ | refine blk_drew ?_ | refine blk_alloc ?_ _)); refine blk_put (cs := #[.int .i64 t347, .int .i64 t348, .int .i64 0, .int .i64 0]) ?_ 2 _ rfl; (with_reducible repeat (first | refine blk_drewN ?_ _ | refine blk_drew ?_ | refine blk_alloc ?_ _)); refine blk_put (cs := #[.int .i64 t347, .int .i64 0, .int .i64 0, .int .i64 0]) ?_ 1 _ rfl; (with_reducible repeat (first | refine blk_drewN ?_ _ | refine blk_drew ?_ | refine blk_alloc ?_ _)); refine blk_put (cs := #[.int .i64 0, .int .i64 0, .int .i64 0, .int .i64 0]) ?_ 0 _ rfl; (with_reducible repeat (first | refine blk_drewN ?_ _ | refine blk_drew ?_ | refine blk_alloc ?_ _)); exact Zdb.out) hb); have n5_ := mA (below_step (by repeat (first | (with_reducible first | exact HB.out | apply below_alloc | apply pw_below_drewN | apply below_drew1 | refine below_set ?_ Zd.out | refine below_set ?_ Zh.out | refine below_set ?_ Zp.out | refine below_set ?_ Zcd.out | refine below_set ?_ Zdd.out) | exact HB.out)) hb); clear Zb; clear Zf; clear Zm; clear Zcb; clear Zdb; clear HB; have Zb := n0_; have Zf := n1_; have Zm := n2_; have Zcb := n3_; have Zdb := n4_; have HB := n5_; clear n0_ n1_ n2_ n3_ n4_ n5_; (try clear hb); (try clear hb2); (try clear hk); (try clear hi)) | ((with_reducible refine gate_dst (N := 10) rfl ?_); refine box_event ?hg (N := 10) ?hd (cs := #[.int .i64 0, .int .i64 0, .int .i64 0, .int .i64 0]) (t := 25) ?hr ?_; (case hd => rfl); (case hg => rfl); (case hr => first | (go_simp; done) | (go_simp; rfl)); intro Zen hg w58 hbox hb; have n0_ := mA (blk_below (g := Za) (o := cQ25 t326 t327 t328 t329) Zb.out hb); have n1_ := mA (blk_below (g := Ze) (o := cQ25 t330 t331 t332 t333) Zf.out hb); have n2_ := mA (blk_below (g := Zk) (o := cQ25 t334 t335 t336 t337) Zm.out hb); have n3_ := mA (blk_below (g := Zca) (o := cQ25 t341 t342 t343 t344) Zcb.out hb); have n4_ := mA (blk_below (g := Zda) (o := cQ25 t347 t348 t349 t350) Zdb.out hb); have n5_ := mA (below_step (by repeat (first | (with_reducible first | exact HB.out | apply below_alloc | apply pw_below_drewN | apply below_drew1 | refine below_set ?_ Zd.out | refine below_set ?_ Zh.out | refine below_set ?_ Zp.out | refine below_set ?_ Zcd.out | refine below_set ?_ Zdd.out) | exact HB.out)) hb); have n6_ := mA (hbox); have n7_ := mA ((by rw [hg]; exact (below_size (by repeat (first | (with_reducible first | exact HB.out | apply below_alloc | apply pw_below_drewN | apply below_drew1 | refine below_set ?_ Zd.out | refine below_set ?_ Zh.out | refine below_set ?_ Zp.out | refine below_set ?_ Zcd.out | refine below_set ?_ Zdd.out) | exact HB.out))) : w.heap.size ≤ Zen)); have n8_ := mA ((by rw [hg]; exact (below_size (by repeat (first | (with_reducible first | exact HB.out | apply below_alloc | apply pw_below_drewN | apply below_drew1 | refine below_set ?_ Zd.out | refine below_set ?_ Zh.out | refine below_set ?_ Zp.out | refine below_set ?_ Zcd.out | refine below_set ?_ Zdd.out) | exact HB.out))) : w.heap.size ≤ Zen)); have n9_ := mA ((by rw [hg]; exact Nat.ne_of_lt (blk_lt (g := Za) (o := cQ25 t326 t327 t328 t329) Zb.out) : Za ≠ Zen)); have n10_ := mA ((by rw [hg]; exact Nat.ne_of_gt (blk_lt (g := Za) (o := cQ25 t326 t327 t328 t329) Zb.out) : Zen ≠ Za)); have n11_ := mA ((by rw [hg]; exact Nat.ne_of_lt (blk_lt (g := Ze) (o := cQ25 t330 t331 t332 t333) Zf.out) : Ze ≠ Zen)); have n12_ := mA ((by rw [hg]; exact Nat.ne_of_gt (blk_lt (g := Ze) (o := cQ25 t330 t331 t332 t333) Zf.out) : Zen ≠ Ze)); have n13_ := mA ((by rw [hg]; exact Nat.ne_of_lt (blk_lt (g := Zk) (o := cQ25 t334 t335 t336 t337) Zm.out) : Zk ≠ Zen)); have n14_ := mA ((by rw [hg]; exact Nat.ne_of_gt (blk_lt (g := Zk) (o := cQ25 t334 t335 t336 t337) Zm.out) : Zen ≠ Zk)); have n15_ := mA ((by rw [hg]; exact Nat.ne_of_lt (blk_lt (g := Zca) (o := cQ25 t341 t342 t343 t344) Zcb.out) : Zca ≠ Zen)); have n16_ := mA ((by rw [hg]; exact Nat.ne_of_gt (blk_lt (g := Zca) (o := cQ25 t341 t342 t343 t344) Zcb.out) : Zen ≠ Zca)); have n17_ := mA ((by rw [hg]; exact Nat.ne_of_lt (blk_lt (g := Zda) (o := cQ25 t347 t348 t349 t350) Zdb.out) : Zda ≠ Zen)); have n18_ := mA ((by rw [hg]; exact Nat.ne_of_gt (blk_lt (g := Zda) (o := cQ25 t347 t348 t349 t350) Zdb.out) : Zen ≠ Zda)); clear Zb; clear Zf; clear Zm; clear Zcb; clear Zdb; clear HB; have Zb := n0_; have Zf := n1_; have Zm := n2_; have Zcb := n3_; have Zdb := n4_; have HB := n5_; have Zep := n6_; have Zeq := n7_; have Zer := n8_; have Zes := n9_; have Zet := n10_; have Zeu := n11_; have Zev := n12_; have Zew := n13_; have Zex := n14_; have Zey := n15_; have Zez := n16_; have Zfa := n17_; have Zfb := n18_; clear n0_ n1_ n2_ n3_ n4_ n5_ n6_ n7_ n8_ n9_ n10_ n11_ n12_ n13_ n14_ n15_ n16_ n17_ n18_; clear hb hbox hg; have Zfc := Zet.out; have Zfd := Zes.out; have Zfe := Zev.out; have Zff := Zeu.out; have Zfg := Zex.out; have Zfh := Zew.out; have Zfi := Zez.out; have Zfj := Zey.out; have Zfk := Zfb.out; have Zfm := Zfa.out; have Zfn : w58.cell? ⟨Zen, 0, none⟩ = some (.int .i64 0) := (blk_cell Zep.out 0).trans rfl; have Zfp : w58.cell? ⟨Zen, 1, none⟩ = some (.int .i64 0) := (blk_cell Zep.out 1).trans rfl; have Zfq : w58.cell? ⟨Zen, 2, none⟩ = some (.int .i64 0) := (blk_cell Zep.out 2).trans rfl; have Zfr : w58.cell? ⟨Zen, 3, none⟩ = some (.int .i64 0) := (blk_cell Zep.out 3).trans rfl; have Zfs := blk_frozen Zep.out 0; have Zft := blk_frozen Zep.out 1; have Zfu := blk_frozen Zep.out 2; have Zfv := blk_frozen Zep.out 3) | ((with_reducible refine gate_callee (f := 28) rfl ?_); refine goesL_ (some 45) rfl rfl Try.func28 (by kernel_rfl) rfl #[.agg #[.int .i64 t353, .int .i64 t354, .int .i64 t355, .int .i64 t356]] rfl (by (try simp only [List.map_toArray, List.map_cons, List.map_nil]); first | done | rfl | (simp only [List.length_drop, List.length_take]; rfl)) ?_; (with_reducible refine (impl_InvertInterval.calls k t353 t354 t355 t356 t359 t360 t361 t362 true _ A8.out).mono ?_); rintro e w65 ⟨rfl, hb⟩; refine ⟨_, rfl, ?_⟩; have n0_ := mA (blk_below (g := Za) (o := cQ25 t326 t327 t328 t329) (by (with_reducible repeat (first | refine blk_drewN ?_ _ | refine blk_drew ?_ | refine blk_alloc ?_ _)); refine blk_far ?_ Zes.out _; (with_reducible repeat (first | refine blk_drewN ?_ _ | refine blk_drew ?_ | refine blk_alloc ?_ _)); refine blk_far ?_ Zes.out _; (with_reducible repeat (first | refine blk_drewN ?_ _ | refine blk_drew ?_ | refine blk_alloc ?_ _)); refine blk_far ?_ Zes.out _; (with_reducible repeat (first | refine blk_drewN ?_ _ | refine blk_drew ?_ | refine blk_alloc ?_ _)); refine blk_far ?_ Zes.out _; (with_reducible repeat (first | refine blk_drewN ?_ _ | refine blk_drew ?_ | refine blk_alloc ?_ _)); exact Zb.out) hb); have n1_ := mA (blk_below (g := Ze) (o := cQ25 t330 t331 t332 t333) (by (with_reducible repeat (first | refine blk_drewN ?_ _ | refine blk_drew ?_ | refine blk_alloc ?_ _)); refine blk_far ?_ Zeu.out _; (with_reducible repeat (first | refine blk_drewN ?_ _ | refine blk_drew ?_ | refine blk_alloc ?_ _)); refine blk_far ?_ Zeu.out _; (with_reducible repeat (first | refine blk_drewN ?_ _ | refine blk_drew ?_ | refine blk_alloc ?_ _)); refine blk_far ?_ Zeu.out _; (with_reducible repeat (first | refine blk_drewN ?_ _ | refine blk_drew ?_ | refine blk_alloc ?_ _)); refine blk_far ?_ Zeu.out _; (with_reducible repeat (first | refine blk_drewN ?_ _ | refine blk_drew ?_ | refine blk_alloc ?_ _)); exact Zf.out) hb); have n2_ := mA (blk_below (g := Zk) (o := cQ25 t334 t335 t336 t337) (by (with_reducible repeat (first | refine blk_drewN ?_ _ | refine blk_drew ?_ | refine blk_alloc ?_ _)); refine blk_far ?_ Zew.out _; (with_reducible repeat (first | refine blk_drewN ?_ _ | refine blk_drew ?_ | refine blk_alloc ?_ _)); refine blk_far ?_ Zew.out _; (with_reducible repeat (first | refine blk_drewN ?_ _ | refine blk_drew ?_ | refine blk_alloc ?_ _)); refine blk_far ?_ Zew.out _; (with_reducible repeat (first | refine blk_drewN ?_ _ | refine blk_drew ?_ | refine blk_alloc ?_ _)); refine blk_far ?_ Zew.out _; (with_reducible repeat (first | refine blk_drewN ?_ _ | refine blk_drew ?_ | refine blk_alloc ?_ _)); exact Zm.out) hb); have n3_ := mA (blk_below (g := Zca) (o := cQ25 t341 t342 t343 t344) (by (with_reducible repeat (first | refine blk_drewN ?_ _ | refine blk_drew ?_ | refine blk_alloc ?_ _)); refine blk_far ?_ Zey.out _; (with_reducible repeat (first | refine blk_drewN ?_ _ | refine blk_drew ?_ | refine blk_alloc ?_ _)); refine blk_far ?_ Zey.out _; (with_reducible repeat (first | refine blk_drewN ?_ _ | refine blk_drew ?_ | refine blk_alloc ?_ _)); refine blk_far ?_ Zey.out _; (with_reducible repeat (first | refine blk_drewN ?_ _ | refine blk_drew ?_ | refine blk_alloc ?_ _)); refine blk_far ?_ Zey.out _; (with_reducible repeat (first | refine blk_drewN ?_ _ | refine blk_drew ?_ | refine blk_alloc ?_ _)); exact Zcb.out) hb); have n4_ := mA (blk_below (g := Zda) (o := cQ25 t347 t348 t349 t350) (by (with_reducible repeat (first | refine blk_drewN ?_ _ | refine blk_drew ?_ | refine blk_alloc ?_ _)); refine blk_far ?_ Zfa.out _; (with_reducible repeat (first | refine blk_drewN ?_ _ | refine blk_drew ?_ | refine blk_alloc ?_ _)); refine blk_far ?_ Zfa.out _; (with_reducible repeat (first | refine blk_drewN ?_ _ | refine blk_drew ?_ | refine blk_alloc ?_ _)); refine blk_far ?_ Zfa.out _; (with_reducible repeat (first | refine blk_drewN ?_ _ | refine blk_drew ?_ | refine blk_alloc ?_ _)); refine blk_far ?_ Zfa.out _; (with_reducible repeat (first | refine blk_drewN ?_ _ | refine blk_drew ?_ | refine blk_alloc ?_ _)); exact Zdb.out) hb); have n5_ := mA (blk_below (g := Zen) (o := cQ25 t353 t354 t355 t356) (by (with_reducible repeat (first | refine blk_drewN ?_ _ | refine blk_drew ?_ | refine blk_alloc ?_ _)); refine blk_put (cs := #[.int .i64 t353, .int .i64 t354, .int .i64 t355, .int .i64 0]) ?_ 3 _ rfl; (with_reducible repeat (first | refine blk_drewN ?_ _ | refine blk_drew ?_ | refine blk_alloc ?_ _)); refine blk_put (cs := #[.int .i64 t353, .int .i64 t354, .int .i64 0, .int .i64 0]) ?_ 2 _ rfl; (with_reducible repeat (first | refine blk_drewN ?_ _ | refine blk_drew ?_ | refine blk_alloc ?_ _)); refine blk_put (cs := #[.int .i64 t353, .int .i64 0, .int .i64 0, .int .i64 0]) ?_ 1 _ rfl; (with_reducible repeat (first | refine blk_drewN ?_ _ | refine blk_drew ?_ | refine blk_alloc ?_ _)); refine blk_put (cs := #[.int .i64 0, .int .i64 0, .int .i64 0, .int .i64 0]) ?_ 0 _ rfl; (with_reducible repeat (first | refine blk_drewN ?_ _ | refine blk_drew ?_ | refine blk_alloc ?_ _)); exact Zep.out) hb); have n6_ := mA (below_step (by repeat (first | (with_reducible first | exact HB.out | apply below_alloc | apply pw_below_drewN | apply below_drew1 | refine below_set ?_ Zd.out | refine below_set ?_ Zh.out | refine below_set ?_ Zp.out | refine below_set ?_ Zcd.out | refine below_set ?_ Zdd.out | refine below_set ?_ Zer.out) | exact HB.out)) hb); clear Zb; clear Zf; clear Zm; clear Zcb; clear Zdb; clear Zep; clear HB; have Zb := n0_; have Zf := n1_; have Zm := n2_; have Zcb := n3_; have Zdb := n4_; have Zep := n5_; have HB := n6_; clear n0_ n1_ n2_ n3_ n4_ n5_ n6_; (try clear hb); (try clear hb2); (try clear hk); (try clear hi)) | ((with_reducible refine gate_dst (N := 12) rfl ?_); refine box_event ?hg (N := 12) ?hd (cs := #[.int .i64 0, .int .i64 0, .int .i64 0, .int .i64 0]) (t := 25) ?hr ?_; (case hd => rfl); (case hg => rfl); (case hr => first | (go_simp; done) | (go_simp; rfl)); intro Zfw hg w66 hbox hb; have n0_ := mA (blk_below (g := Za) (o := cQ25 t326 t327 t328 t329) Zb.out hb); have n1_ := mA (blk_below (g := Ze) (o := cQ25 t330 t331 t332 t333) Zf.out hb); have n2_ := mA (blk_below (g := Zk) (o := cQ25 t334 t335 t336 t337) Zm.out hb); have n3_ := mA (blk_below (g := Zca) (o := cQ25 t341 t342 t343 t344) Zcb.out hb); have n4_ := mA (blk_below (g := Zda) (o := cQ25 t347 t348 t349 t350) Zdb.out hb); have n5_ := mA (blk_below (g := Zen) (o := cQ25 t353 t354 t355 t356) Zep.out hb); have n6_ := mA (below_step (by repeat (first | (with_reducible first | exact HB.out | apply below_alloc | apply pw_below_drewN | apply below_drew1 | refine below_set ?_ Zd.out | refine below_set ?_ Zh.out | refine below_set ?_ Zp.out | refine below_set ?_ Zcd.out | refine below_set ?_ Zdd.out | refine below_set ?_ Zer.out) | exact HB.out)) hb); have n7_ := mA (hbox); have n8_ := mA ((by rw [hg]; exact (below_size (by repeat (first | (with_reducible first | exact HB.out | apply below_alloc | apply pw_below_drewN | apply below_drew1 | refine below_set ?_ Zd.out | refine below_set ?_ Zh.out | refine below_set ?_ Zp.out | refine below_set ?_ Zcd.out | refine below_set ?_ Zdd.out | refine below_set ?_ Zer.out) | exact HB.out))) : w.heap.size ≤ Zfw)); have n9_ := mA ((by rw [hg]; exact (below_size (by repeat (first | (with_reducible first | exact HB.out | apply below_alloc | apply pw_below_drewN | apply below_drew1 | refine below_set ?_ Zd.out | refine below_set ?_ Zh.out | refine below_set ?_ Zp.out | refine below_set ?_ Zcd.out | refine below_set ?_ Zdd.out | refine below_set ?_ Zer.out) | exact HB.out))) : w.heap.size ≤ Zfw)); have n10_ := mA ((by rw [hg]; exact Nat.ne_of_lt (blk_lt (g := Za) (o := cQ25 t326 t327 t328 t329) Zb.out) : Za ≠ Zfw)); have n11_ := mA ((by rw [hg]; exact Nat.ne_of_gt (blk_lt (g := Za) (o := cQ25 t326 t327 t328 t329) Zb.out) : Zfw ≠ Za)); have n12_ := mA ((by rw [hg]; exact Nat.ne_of_lt (blk_lt (g := Ze) (o := cQ25 t330 t331 t332 t333) Zf.out) : Ze ≠ Zfw)); have n13_ := mA ((by rw [hg]; exact Nat.ne_of_gt (blk_lt (g := Ze) (o := cQ25 t330 t331 t332 t333) Zf.out) : Zfw ≠ Ze)); have n14_ := mA ((by rw [hg]; exact Nat.ne_of_lt (blk_lt (g := Zk) (o := cQ25 t334 t335 t336 t337) Zm.out) : Zk ≠ Zfw)); have n15_ := mA ((by rw [hg]; exact Nat.ne_of_gt (blk_lt (g := Zk) (o := cQ25 t334 t335 t336 t337) Zm.out) : Zfw ≠ Zk)); have n16_ := mA ((by rw [hg]; exact Nat.ne_of_lt (blk_lt (g := Zca) (o := cQ25 t341 t342 t343 t344) Zcb.out) : Zca ≠ Zfw)); have n17_ := mA ((by rw [hg]; exact Nat.ne_of_gt (blk_lt (g := Zca) (o := cQ25 t341 t342 t343 t344) Zcb.out) : Zfw ≠ Zca)); have n18_ := mA ((by rw [hg]; exact Nat.ne_of_lt (blk_lt (g := Zda) (o := cQ25 t347 t348 t349 t350) Zdb.out) : Zda ≠ Zfw)); have n19_ := mA ((by rw [hg]; exact Nat.ne_of_gt (blk_lt (g := Zda) (o := cQ25 t347 t348 t349 t350) Zdb.out) : Zfw ≠ Zda)); have n20_ := mA ((by rw [hg]; exact Nat.ne_of_lt (blk_lt (g := Zen) (o := cQ25 t353 t354 t355 t356) Zep.out) : Zen ≠ Zfw)); have n21_ := mA ((by rw [hg]; exact Nat.ne_of_gt (blk_lt (g := Zen) (o := cQ25 t353 t354 t355 t356) Zep.out) : Zfw ≠ Zen)); clear Zb; clear Zf; clear Zm; clear Zcb; clear Zdb; clear Zep; clear HB; have Zb := n0_; have Zf := n1_; have Zm := n2_; have Zcb := n3_; have Zdb := n4_; have Zep := n5_; have HB := n6_; have Zfx := n7_; have Zfy := n8_; have Zfz := n9_; have Zga := n10_; have Zgb := n11_; have Zgc := n12_; have Zgd := n13_; have Zge := n14_; have Zgf := n15_; have Zgg := n16_; have Zgh := n17_; have Zgi := n18_; have Zgj := n19_; have Zgk := n20_; have Zgm := n21_; clear n0_ n1_ n2_ n3_ n4_ n5_ n6_ n7_ n8_ n9_ n10_ n11_ n12_ n13_ n14_ n15_ n16_ n17_ n18_ n19_ n20_ n21_; clear hb hbox hg; have Zgn := Zgb.out; have Zgp := Zga.out; have Zgq := Zgd.out; have Zgr := Zgc.out; have Zgs := Zgf.out; have Zgt := Zge.out; have Zgu := Zgh.out; have Zgv := Zgg.out; have Zgw := Zgj.out; have Zgx := Zgi.out; have Zgy := Zgm.out; have Zgz := Zgk.out; have Zha : w66.cell? ⟨Zfw, 0, none⟩ = some (.int .i64 0) := (blk_cell Zfx.out 0).trans rfl; have Zhb : w66.cell? ⟨Zfw, 1, none⟩ = some (.int .i64 0) := (blk_cell Zfx.out 1).trans rfl; have Zhc : w66.cell? ⟨Zfw, 2, none⟩ = some (.int .i64 0) := (blk_cell Zfx.out 2).trans rfl; have Zhd : w66.cell? ⟨Zfw, 3, none⟩ = some (.int .i64 0) := (blk_cell Zfx.out 3).trans rfl; have Zhe := blk_frozen Zfx.out 0; have Zhf := blk_frozen Zfx.out 1; have Zhg := blk_frozen Zfx.out 2; have Zhh := blk_frozen Zfx.out 3; have Zhi : w66.cell? ⟨Zca, 0, none⟩ = some (.int .i64 t341) := (blk_cell Zcb.out 0).trans rfl; have Zhj : w66.cell? ⟨Zca, 1, none⟩ = some (.int .i64 t342) := (blk_cell Zcb.out 1).trans rfl; have Zhk : w66.cell? ⟨Zca, 2, none⟩ = some (.int .i64 t343) := (blk_cell Zcb.out 2).trans rfl; have Zhm : w66.cell? ⟨Zca, 3, none⟩ = some (.int .i64 t344) := (blk_cell Zcb.out 3).trans rfl; have Zhn := blk_frozen Zcb.out 0; have Zhp := blk_frozen Zcb.out 1; have Zhq := blk_frozen Zcb.out 2; have Zhr := blk_frozen Zcb.out 3; have Zhs : w66.cell? ⟨Zen, 0, none⟩ = some (.int .i64 t353) := (blk_cell Zep.out 0).trans rfl; have Zht : w66.cell? ⟨Zen, 1, none⟩ = some (.int .i64 t354) := (blk_cell Zep.out 1).trans rfl; have Zhu : w66.cell? ⟨Zen, 2, none⟩ = some (.int .i64 t355) := (blk_cell Zep.out 2).trans rfl; have Zhv : w66.cell? ⟨Zen, 3, none⟩ = some (.int .i64 t356) := (blk_cell Zep.out 3).trans rfl; have Zhw := blk_frozen Zep.out 0; have Zhx := blk_frozen Zep.out 1; have Zhy := blk_frozen Zep.out 2; have Zhz := blk_frozen Zep.out 3) | ((with_reducible refine gate_callee (f := 24) rfl ?_); refine goesL_ (some 51) rfl rfl Try.func24 (by kernel_rfl) rfl #[.agg #[.int .i64 t341, .int .i64 t342, .int .i64 t343, .int .i64 t344], .agg #[.int .i64 t353, .int .i64 t354, .int .i64 t355, .int .i64 t356]] rfl (by (try simp only [List.map_toArray, List.map_cons, List.map_nil]); first | done | rfl | (simp only [List.length_drop, List.length_take]; rfl)) ?_; (with_reducible refine (impl_AddIntervals.calls k t341 t342 t343 t344 t353 t354 t355 t356 t365 t366 t367 t368 true _ A9.out).mono ?_); rintro e w76 ⟨rfl, hb⟩; refine ⟨_, rfl, ?_⟩; have n0_ := mA (blk_below (g := Za) (o := cQ25 t326 t327 t328 t329) (by (with_reducible repeat (first | refine blk_drewN ?_ _ | refine blk_drew ?_ | refine blk_alloc ?_ _)); refine blk_far ?_ Zga.out _; (with_reducible repeat (first | refine blk_drewN ?_ _ | refine blk_drew ?_ | refine blk_alloc ?_ _)); refine blk_far ?_ Zga.out _; (with_reducible repeat (first | refine blk_drewN ?_ _ | refine blk_drew ?_ | refine blk_alloc ?_ _)); refine blk_far ?_ Zga.out _; (with_reducible repeat (first | refine blk_drewN ?_ _ | refine blk_drew ?_ | refine blk_alloc ?_ _)); refine blk_far ?_ Zga.out _; (with_reducible repeat (first | refine blk_drewN ?_ _ | refine blk_drew ?_ | refine blk_alloc ?_ _)); exact Zb.out) hb); have n1_ := mA (blk_below (g := Ze) (o := cQ25 t330 t331 t332 t333) (by (with_reducible repeat (first | refine blk_drewN ?_ _ | refine blk_drew ?_ | refine blk_alloc ?_ _)); refine blk_far ?_ Zgc.out _; (with_reducible repeat (first | refine blk_drewN ?_ _ | refine blk_drew ?_ | refine blk_alloc ?_ _)); refine blk_far ?_ Zgc.out _; (with_reducible repeat (first | refine blk_drewN ?_ _ | refine blk_drew ?_ | refine blk_alloc ?_ _)); refine blk_far ?_ Zgc.out _; (with_reducible repeat (first | refine blk_drewN ?_ _ | refine blk_drew ?_ | refine blk_alloc ?_ _)); refine blk_far ?_ Zgc.out _; (with_reducible repeat (first | refine blk_drewN ?_ _ | refine blk_drew ?_ | refine blk_alloc ?_ _)); exact Zf.out) hb); have n2_ := mA (blk_below (g := Zk) (o := cQ25 t334 t335 t336 t337) (by (with_reducible repeat (first | refine blk_drewN ?_ _ | refine blk_drew ?_ | refine blk_alloc ?_ _)); refine blk_far ?_ Zge.out _; (with_reducible repeat (first | refine blk_drewN ?_ _ | refine blk_drew ?_ | refine blk_alloc ?_ _)); refine blk_far ?_ Zge.out _; (with_reducible repeat (first | refine blk_drewN ?_ _ | refine blk_drew ?_ | refine blk_alloc ?_ _)); refine blk_far ?_ Zge.out _; (with_reducible repeat (first | refine blk_drewN ?_ _ | refine blk_drew ?_ | refine blk_alloc ?_ _)); refine blk_far ?_ Zge.out _; (with_reducible repeat (first | refine blk_drewN ?_ _ | refine blk_drew ?_ | refine blk_alloc ?_ _)); exact Zm.out) hb); have n3_ := mA (blk_below (g := Zca) (o := cQ25 t341 t342 t343 t344) (by (with_reducible repeat (first | refine blk_drewN ?_ _ | refine blk_drew ?_ | refine blk_alloc ?_ _)); refine blk_far ?_ Zgg.out _; (with_reducible repeat (first | refine blk_drewN ?_ _ | refine blk_drew ?_ | refine blk_alloc ?_ _)); refine blk_far ?_ Zgg.out _; (with_reducible repeat (first | refine blk_drewN ?_ _ | refine blk_drew ?_ | refine blk_alloc ?_ _)); refine blk_far ?_ Zgg.out _; (with_reducible repeat (first | refine blk_drewN ?_ _ | refine blk_drew ?_ | refine blk_alloc ?_ _)); refine blk_far ?_ Zgg.out _; (with_reducible repeat (first | refine blk_drewN ?_ _ | refine blk_drew ?_ | refine blk_alloc ?_ _)); exact Zcb.out) hb); have n4_ := mA (blk_below (g := Zda) (o := cQ25 t347 t348 t349 t350) (by (with_reducible repeat (first | refine blk_drewN ?_ _ | refine blk_drew ?_ | refine blk_alloc ?_ _)); refine blk_far ?_ Zgi.out _; (with_reducible repeat (first | refine blk_drewN ?_ _ | refine blk_drew ?_ | refine blk_alloc ?_ _)); refine blk_far ?_ Zgi.out _; (with_reducible repeat (first | refine blk_drewN ?_ _ | refine blk_drew ?_ | refine blk_alloc ?_ _)); refine blk_far ?_ Zgi.out _; (with_reducible repeat (first | refine blk_drewN ?_ _ | refine blk_drew ?_ | refine blk_alloc ?_ _)); refine blk_far ?_ Zgi.out _; (with_reducible repeat (first | refine blk_drewN ?_ _ | refine blk_drew ?_ | refine blk_alloc ?_ _)); exact Zdb.out) hb); have n5_ := mA (blk_below (g := Zen) (o := cQ25 t353 t354 t355 t356) (by (with_reducible repeat (first | refine blk_drewN ?_ _ | refine blk_drew ?_ | refine blk_alloc ?_ _)); refine blk_far ?_ Zgk.out _; (with_reducible repeat (first | refine blk_drewN ?_ _ | refine blk_drew ?_ | refine blk_alloc ?_ _)); refine blk_far ?_ Zgk.out _; (with_reducible repeat (first | refine blk_drewN ?_ _ | refine blk_drew ?_ | refine blk_alloc ?_ _)); refine blk_far ?_ Zgk.out _; (with_reducible repeat (first | refine blk_drewN ?_ _ | refine blk_drew ?_ | refine blk_alloc ?_ _)); refine blk_far ?_ Zgk.out _; (with_reducible repeat (first | refine blk_drewN ?_ _ | refine blk_drew ?_ | refine blk_alloc ?_ _)); exact Zep.out) hb); have n6_ := mA (blk_below (g := Zfw) (o := cQ25 t359 t360 t361 t362) (by (with_reducible repeat (first | refine blk_drewN ?_ _ | refine blk_drew ?_ | refine blk_alloc ?_ _)); refine blk_put (cs := #[.int .i64 t359, .int .i64 t360, .int .i64 t361, .int .i64 0]) ?_ 3 _ rfl; (with_reducible repeat (first | refine blk_drewN ?_ _ | refine blk_drew ?_ | refine blk_alloc ?_ _)); refine blk_put (cs := #[.int .i64 t359, .int .i64 t360, .int .i64 0, .int .i64 0]) ?_ 2 _ rfl; (with_reducible repeat (first | refine blk_drewN ?_ _ | refine blk_drew ?_ | refine blk_alloc ?_ _)); refine blk_put (cs := #[.int .i64 t359, .int .i64 0, .int .i64 0, .int .i64 0]) ?_ 1 _ rfl; (with_reducible repeat (first | refine blk_drewN ?_ _ | refine blk_drew ?_ | refine blk_alloc ?_ _)); refine blk_put (cs := #[.int .i64 0, .int .i64 0, .int .i64 0, .int .i64 0]) ?_ 0 _ rfl; (with_reducible repeat (first | refine blk_drewN ?_ _ | refine blk_drew ?_ | refine blk_alloc ?_ _)); exact Zfx.out) hb); have n7_ := mA (below_step (by repeat (first | (with_reducible first | exact HB.out | apply below_alloc | apply pw_below_drewN | apply below_drew1 | refine below_set ?_ Zd.out | refine below_set ?_ Zh.out | refine below_set ?_ Zp.out | refine below_set ?_ Zcd.out | refine below_set ?_ Zdd.out | refine below_set ?_ Zer.out | refine below_set ?_ Zfz.out) | exact HB.out)) hb); clear Zb; clear Zf; clear Zm; clear Zcb; clear Zdb; clear Zep; clear Zfx; clear HB; have Zb := n0_; have Zf := n1_; have Zm := n2_; have Zcb := n3_; have Zdb := n4_; have Zep := n5_; have Zfx := n6_; have HB := n7_; clear n0_ n1_ n2_ n3_ n4_ n5_ n6_ n7_; (try clear hb); (try clear hb2); (try clear hk); (try clear hi)) | ((with_reducible refine gate_dst (N := 14) rfl ?_); refine box_event ?hg (N := 14) ?hd (cs := #[.int .i64 0, .int .i64 0, .int .i64 0, .int .i64 0]) (t := 25) ?hr ?_; (case hd => rfl); (case hg => rfl); (case hr => first | (go_simp; done) | (go_simp; rfl)); intro Zia hg w77 hbox hb; have n0_ := mA (blk_below (g := Za) (o := cQ25 t326 t327 t328 t329) Zb.out hb); have n1_ := mA (blk_below (g := Ze) (o := cQ25 t330 t331 t332 t333) Zf.out hb); have n2_ := mA (blk_below (g := Zk) (o := cQ25 t334 t335 t336 t337) Zm.out hb); have n3_ := mA (blk_below (g := Zca) (o := cQ25 t341 t342 t343 t344) Zcb.out hb); have n4_ := mA (blk_below (g := Zda) (o := cQ25 t347 t348 t349 t350) Zdb.out hb); have n5_ := mA (blk_below (g := Zen) (o := cQ25 t353 t354 t355 t356) Zep.out hb); have n6_ := mA (blk_below (g := Zfw) (o := cQ25 t359 t360 t361 t362) Zfx.out hb); have n7_ := mA (below_step (by repeat (first | (with_reducible first | exact HB.out | apply below_alloc | apply pw_below_drewN | apply below_drew1 | refine below_set ?_ Zd.out | refine below_set ?_ Zh.out | refine below_set ?_ Zp.out | refine below_set ?_ Zcd.out | refine below_set ?_ Zdd.out | refine below_set ?_ Zer.out | refine below_set ?_ Zfz.out) | exact HB.out)) hb); have n8_ := mA (hbox); have n9_ := mA ((by rw [hg]; exact (below_size (by repeat (first | (with_reducible first | exact HB.out | apply below_alloc | apply pw_below_drewN | apply below_drew1 | refine below_set ?_ Zd.out | refine below_set ?_ Zh.out | refine below_set ?_ Zp.out | refine below_set ?_ Zcd.out | refine below_set ?_ Zdd.out | refine below_set ?_ Zer.out | refine below_set ?_ Zfz.out) | exact HB.out))) : w.heap.size ≤ Zia)); have n10_ := mA ((by rw [hg]; exact (below_size (by repeat (first | (with_reducible first | exact HB.out | apply below_alloc | apply pw_below_drewN | apply below_drew1 | refine below_set ?_ Zd.out | refine below_set ?_ Zh.out | refine below_set ?_ Zp.out | refine below_set ?_ Zcd.out | refine below_set ?_ Zdd.out | refine below_set ?_ Zer.out | refine below_set ?_ Zfz.out) | exact HB.out))) : w.heap.size ≤ Zia)); have n11_ := mA ((by rw [hg]; exact Nat.ne_of_lt (blk_lt (g := Za) (o := cQ25 t326 t327 t328 t329) Zb.out) : Za ≠ Zia)); have n12_ := mA ((by rw [hg]; exact Nat.ne_of_gt (blk_lt (g := Za) (o := cQ25 t326 t327 t328 t329) Zb.out) : Zia ≠ Za)); have n13_ := mA ((by rw [hg]; exact Nat.ne_of_lt (blk_lt (g := Ze) (o := cQ25 t330 t331 t332 t333) Zf.out) : Ze ≠ Zia)); have n14_ := mA ((by rw [hg]; exact Nat.ne_of_gt (blk_lt (g := Ze) (o := cQ25 t330 t331 t332 t333) Zf.out) : Zia ≠ Ze)); have n15_ := mA ((by rw [hg]; exact Nat.ne_of_lt (blk_lt (g := Zk) (o := cQ25 t334 t335 t336 t337) Zm.out) : Zk ≠ Zia)); have n16_ := mA ((by rw [hg]; exact Nat.ne_of_gt (blk_lt (g := Zk) (o := cQ25 t334 t335 t336 t337) Zm.out) : Zia ≠ Zk)); have n17_ := mA ((by rw [hg]; exact Nat.ne_of_lt (blk_lt (g := Zca) (o := cQ25 t341 t342 t343 t344) Zcb.out) : Zca ≠ Zia)); have n18_ := mA ((by rw [hg]; exact Nat.ne_of_gt (blk_lt (g := Zca) (o := cQ25 t341 t342 t343 t344) Zcb.out) : Zia ≠ Zca)); have n19_ := mA ((by rw [hg]; exact Nat.ne_of_lt (blk_lt (g := Zda) (o := cQ25 t347 t348 t349 t350) Zdb.out) : Zda ≠ Zia)); have n20_ := mA ((by rw [hg]; exact Nat.ne_of_gt (blk_lt (g := Zda) (o := cQ25 t347 t348 t349 t350) Zdb.out) : Zia ≠ Zda)); have n21_ := mA ((by rw [hg]; exact Nat.ne_of_lt (blk_lt (g := Zen) (o := cQ25 t353 t354 t355 t356) Zep.out) : Zen ≠ Zia)); have n22_ := mA ((by rw [hg]; exact Nat.ne_of_gt (blk_lt (g := Zen) (o := cQ25 t353 t354 t355 t356) Zep.out) : Zia ≠ Zen)); have n23_ := mA ((by rw [hg]; exact Nat.ne_of_lt (blk_lt (g := Zfw) (o := cQ25 t359 t360 t361 t362) Zfx.out) : Zfw ≠ Zia)); have n24_ := mA ((by rw [hg]; exact Nat.ne_of_gt (blk_lt (g := Zfw) (o := cQ25 t359 t360 t361 t362) Zfx.out) : Zia ≠ Zfw)); clear Zb; clear Zf; clear Zm; clear Zcb; clear Zdb; clear Zep; clear Zfx; clear HB; have Zb := n0_; have Zf := n1_; have Zm := n2_; have Zcb := n3_; have Zdb := n4_; have Zep := n5_; have Zfx := n6_; have HB := n7_; have Zib := n8_; have Zic := n9_; have Zid := n10_; have Zie := n11_; have Zif := n12_; have Zig := n13_; have Zih := n14_; have Zii := n15_; have Zij := n16_; have Zik := n17_; have Zim := n18_; have Zin := n19_; have Zip := n20_; have Ziq := n21_; have Zir := n22_; have Zis := n23_; have Zit := n24_; clear n0_ n1_ n2_ n3_ n4_ n5_ n6_ n7_ n8_ n9_ n10_ n11_ n12_ n13_ n14_ n15_ n16_ n17_ n18_ n19_ n20_ n21_ n22_ n23_ n24_; clear hb hbox hg; have Ziu := Zif.out; have Ziv := Zie.out; have Ziw := Zih.out; have Zix := Zig.out; have Ziy := Zij.out; have Ziz := Zii.out; have Zja := Zim.out; have Zjb := Zik.out; have Zjc := Zip.out; have Zjd := Zin.out; have Zje := Zir.out; have Zjf := Ziq.out; have Zjg := Zit.out; have Zjh := Zis.out; have Zji : w77.cell? ⟨Zia, 0, none⟩ = some (.int .i64 0) := (blk_cell Zib.out 0).trans rfl; have Zjj : w77.cell? ⟨Zia, 1, none⟩ = some (.int .i64 0) := (blk_cell Zib.out 1).trans rfl; have Zjk : w77.cell? ⟨Zia, 2, none⟩ = some (.int .i64 0) := (blk_cell Zib.out 2).trans rfl; have Zjm : w77.cell? ⟨Zia, 3, none⟩ = some (.int .i64 0) := (blk_cell Zib.out 3).trans rfl; have Zjn := blk_frozen Zib.out 0; have Zjp := blk_frozen Zib.out 1; have Zjq := blk_frozen Zib.out 2; have Zjr := blk_frozen Zib.out 3))
  have n0_ : Aside0 (((((w77.setCell ⟨Zia, 0, none⟩ (.int .i64 t365)).setCell ⟨Zia, 1, none⟩ (.int .i64 t366)).setCell ⟨Zia, 2, none⟩ (.int .i64 t367)).setCell ⟨Zia, 3, none⟩ (.int .i64 t368)).heap[Za]? = some (.cells #[.int .i64 t326, .int .i64 t327, .int .i64 t328, .int .i64 t329] 25 (0, 0))) := ⟨by (with_reducible repeat (first | refine blk_drewN ?_ _ | refine blk_drew ?_ | refine blk_alloc ?_ _)); refine blk_far ?_ Zie.out _; (with_reducible repeat (first | refine blk_drewN ?_ _ | refine blk_drew ?_ | refine blk_alloc ?_ _)); refine blk_far ?_ Zie.out _; (with_reducible repeat (first | refine blk_drewN ?_ _ | refine blk_drew ?_ | refine blk_alloc ?_ _)); refine blk_far ?_ Zie.out _; (with_reducible repeat (first | refine blk_drewN ?_ _ | refine blk_drew ?_ | refine blk_alloc ?_ _)); refine blk_far ?_ Zie.out _; (with_reducible repeat (first | refine blk_drewN ?_ _ | refine blk_drew ?_ | refine blk_alloc ?_ _)); exact Zb.out⟩
  have n1_ : Aside0 (((((w77.setCell ⟨Zia, 0, none⟩ (.int .i64 t365)).setCell ⟨Zia, 1, none⟩ (.int .i64 t366)).setCell ⟨Zia, 2, none⟩ (.int .i64 t367)).setCell ⟨Zia, 3, none⟩ (.int .i64 t368)).heap[Ze]? = some (.cells #[.int .i64 t330, .int .i64 t331, .int .i64 t332, .int .i64 t333] 25 (0, 0))) := ⟨by (with_reducible repeat (first | refine blk_drewN ?_ _ | refine blk_drew ?_ | refine blk_alloc ?_ _)); refine blk_far ?_ Zig.out _; (with_reducible repeat (first | refine blk_drewN ?_ _ | refine blk_drew ?_ | refine blk_alloc ?_ _)); refine blk_far ?_ Zig.out _; (with_reducible repeat (first | refine blk_drewN ?_ _ | refine blk_drew ?_ | refine blk_alloc ?_ _)); refine blk_far ?_ Zig.out _; (with_reducible repeat (first | refine blk_drewN ?_ _ | refine blk_drew ?_ | refine blk_alloc ?_ _)); refine blk_far ?_ Zig.out _; (with_reducible repeat (first | refine blk_drewN ?_ _ | refine blk_drew ?_ | refine blk_alloc ?_ _)); exact Zf.out⟩
  have n2_ : Aside0 (((((w77.setCell ⟨Zia, 0, none⟩ (.int .i64 t365)).setCell ⟨Zia, 1, none⟩ (.int .i64 t366)).setCell ⟨Zia, 2, none⟩ (.int .i64 t367)).setCell ⟨Zia, 3, none⟩ (.int .i64 t368)).heap[Zk]? = some (.cells #[.int .i64 t334, .int .i64 t335, .int .i64 t336, .int .i64 t337] 25 (0, 0))) := ⟨by (with_reducible repeat (first | refine blk_drewN ?_ _ | refine blk_drew ?_ | refine blk_alloc ?_ _)); refine blk_far ?_ Zii.out _; (with_reducible repeat (first | refine blk_drewN ?_ _ | refine blk_drew ?_ | refine blk_alloc ?_ _)); refine blk_far ?_ Zii.out _; (with_reducible repeat (first | refine blk_drewN ?_ _ | refine blk_drew ?_ | refine blk_alloc ?_ _)); refine blk_far ?_ Zii.out _; (with_reducible repeat (first | refine blk_drewN ?_ _ | refine blk_drew ?_ | refine blk_alloc ?_ _)); refine blk_far ?_ Zii.out _; (with_reducible repeat (first | refine blk_drewN ?_ _ | refine blk_drew ?_ | refine blk_alloc ?_ _)); exact Zm.out⟩
  have n3_ : Aside0 (((((w77.setCell ⟨Zia, 0, none⟩ (.int .i64 t365)).setCell ⟨Zia, 1, none⟩ (.int .i64 t366)).setCell ⟨Zia, 2, none⟩ (.int .i64 t367)).setCell ⟨Zia, 3, none⟩ (.int .i64 t368)).heap[Zca]? = some (.cells #[.int .i64 t341, .int .i64 t342, .int .i64 t343, .int .i64 t344] 25 (0, 0))) := ⟨by (with_reducible repeat (first | refine blk_drewN ?_ _ | refine blk_drew ?_ | refine blk_alloc ?_ _)); refine blk_far ?_ Zik.out _; (with_reducible repeat (first | refine blk_drewN ?_ _ | refine blk_drew ?_ | refine blk_alloc ?_ _)); refine blk_far ?_ Zik.out _; (with_reducible repeat (first | refine blk_drewN ?_ _ | refine blk_drew ?_ | refine blk_alloc ?_ _)); refine blk_far ?_ Zik.out _; (with_reducible repeat (first | refine blk_drewN ?_ _ | refine blk_drew ?_ | refine blk_alloc ?_ _)); refine blk_far ?_ Zik.out _; (with_reducible repeat (first | refine blk_drewN ?_ _ | refine blk_drew ?_ | refine blk_alloc ?_ _)); exact Zcb.out⟩
  have n4_ : Aside0 (((((w77.setCell ⟨Zia, 0, none⟩ (.int .i64 t365)).setCell ⟨Zia, 1, none⟩ (.int .i64 t366)).setCell ⟨Zia, 2, none⟩ (.int .i64 t367)).setCell ⟨Zia, 3, none⟩ (.int .i64 t368)).heap[Zda]? = some (.cells #[.int .i64 t347, .int .i64 t348, .int .i64 t349, .int .i64 t350] 25 (0, 0))) := ⟨by (with_reducible repeat (first | refine blk_drewN ?_ _ | refine blk_drew ?_ | refine blk_alloc ?_ _)); refine blk_far ?_ Zin.out _; (with_reducible repeat (first | refine blk_drewN ?_ _ | refine blk_drew ?_ | refine blk_alloc ?_ _)); refine blk_far ?_ Zin.out _; (with_reducible repeat (first | refine blk_drewN ?_ _ | refine blk_drew ?_ | refine blk_alloc ?_ _)); refine blk_far ?_ Zin.out _; (with_reducible repeat (first | refine blk_drewN ?_ _ | refine blk_drew ?_ | refine blk_alloc ?_ _)); refine blk_far ?_ Zin.out _; (with_reducible repeat (first | refine blk_drewN ?_ _ | refine blk_drew ?_ | refine blk_alloc ?_ _)); exact Zdb.out⟩
  have n5_ : Aside0 (((((w77.setCell ⟨Zia, 0, none⟩ (.int .i64 t365)).setCell ⟨Zia, 1, none⟩ (.int .i64 t366)).setCell ⟨Zia, 2, none⟩ (.int .i64 t367)).setCell ⟨Zia, 3, none⟩ (.int .i64 t368)).heap[Zen]? = some (.cells #[.int .i64 t353, .int .i64 t354, .int .i64 t355, .int .i64 t356] 25 (0, 0))) := ⟨by (with_reducible repeat (first | refine blk_drewN ?_ _ | refine blk_drew ?_ | refine blk_alloc ?_ _)); refine blk_far ?_ Ziq.out _; (with_reducible repeat (first | refine blk_drewN ?_ _ | refine blk_drew ?_ | refine blk_alloc ?_ _)); refine blk_far ?_ Ziq.out _; (with_reducible repeat (first | refine blk_drewN ?_ _ | refine blk_drew ?_ | refine blk_alloc ?_ _)); refine blk_far ?_ Ziq.out _; (with_reducible repeat (first | refine blk_drewN ?_ _ | refine blk_drew ?_ | refine blk_alloc ?_ _)); refine blk_far ?_ Ziq.out _; (with_reducible repeat (first | refine blk_drewN ?_ _ | refine blk_drew ?_ | refine blk_alloc ?_ _)); exact Zep.out⟩
  have n6_ : Aside0 (((((w77.setCell ⟨Zia, 0, none⟩ (.int .i64 t365)).setCell ⟨Zia, 1, none⟩ (.int .i64 t366)).setCell ⟨Zia, 2, none⟩ (.int .i64 t367)).setCell ⟨Zia, 3, none⟩ (.int .i64 t368)).heap[Zfw]? = some (.cells #[.int .i64 t359, .int .i64 t360, .int .i64 t361, .int .i64 t362] 25 (0, 0))) := ⟨by (with_reducible repeat (first | refine blk_drewN ?_ _ | refine blk_drew ?_ | refine blk_alloc ?_ _)); refine blk_far ?_ Zis.out _; (with_reducible repeat (first | refine blk_drewN ?_ _ | refine blk_drew ?_ | refine blk_alloc ?_ _)); refine blk_far ?_ Zis.out _; (with_reducible repeat (first | refine blk_drewN ?_ _ | refine blk_drew ?_ | refine blk_alloc ?_ _)); refine blk_far ?_ Zis.out _; (with_reducible repeat (first | refine blk_drewN ?_ _ | refine blk_drew ?_ | refine blk_alloc ?_ _)); refine blk_far ?_ Zis.out _; (with_reducible repeat (first | refine blk_drewN ?_ _ | refine blk_drew ?_ | refine blk_alloc ?_ _)); exact Zfx.out⟩
  have n7_ : Aside0 (((((w77.setCell ⟨Zia, 0, none⟩ (.int .i64 t365)).setCell ⟨Zia, 1, none⟩ (.int .i64 t366)).setCell ⟨Zia, 2, none⟩ (.int .i64 t367)).setCell ⟨Zia, 3, none⟩ (.int .i64 t368)).heap[Zia]? = some (.cells #[.int .i64 t365, .int .i64 t366, .int .i64 t367, .int .i64 t368] 25 (0, 0))) := ⟨by (with_reducible repeat (first | refine blk_drewN ?_ _ | refine blk_drew ?_ | refine blk_alloc ?_ _)); refine blk_put (cs := #[.int .i64 t365, .int .i64 t366, .int .i64 t367, .int .i64 0]) ?_ 3 _ rfl; (with_reducible repeat (first | refine blk_drewN ?_ _ | refine blk_drew ?_ | refine blk_alloc ?_ _)); refine blk_put (cs := #[.int .i64 t365, .int .i64 t366, .int .i64 0, .int .i64 0]) ?_ 2 _ rfl; (with_reducible repeat (first | refine blk_drewN ?_ _ | refine blk_drew ?_ | refine blk_alloc ?_ _)); refine blk_put (cs := #[.int .i64 t365, .int .i64 0, .int .i64 0, .int .i64 0]) ?_ 1 _ rfl; (with_reducible repeat (first | refine blk_drewN ?_ _ | refine blk_drew ?_ | refine blk_alloc ?_ _)); refine blk_put (cs := #[.int .i64 0, .int .i64 0, .int .i64 0, .int .i64 0]) ?_ 0 _ rfl; (with_reducible repeat (first | refine blk_drewN ?_ _ | refine blk_drew ?_ | refine blk_alloc ?_ _)); exact Zib.out⟩
  have n8_ : Aside0 (Below w.heap.size w ((((w77.setCell ⟨Zia, 0, none⟩ (.int .i64 t365)).setCell ⟨Zia, 1, none⟩ (.int .i64 t366)).setCell ⟨Zia, 2, none⟩ (.int .i64 t367)).setCell ⟨Zia, 3, none⟩ (.int .i64 t368))) := ⟨by repeat (first | (with_reducible first | exact HB.out | apply below_alloc | apply pw_below_drewN | apply below_drew1 | refine below_set ?_ Zd.out | refine below_set ?_ Zh.out | refine below_set ?_ Zp.out | refine below_set ?_ Zcd.out | refine below_set ?_ Zdd.out | refine below_set ?_ Zer.out | refine below_set ?_ Zfz.out | refine below_set ?_ Zid.out) | exact HB.out)⟩
  (try clear Zb)
  (try clear Zf)
  (try clear Zm)
  (try clear Zcb)
  (try clear Zdb)
  (try clear Zep)
  (try clear Zfx)
  (try clear Zib)
  (try clear HB)
  generalize ((((w77.setCell ⟨Zia, 0, none⟩ (.int .i64 t365)).setCell ⟨Zia, 1, none⟩ (.int .i64 t366)).setCell ⟨Zia, 2, none⟩ (.int .i64 t367)).setCell ⟨Zia, 3, none⟩ (.int .i64 t368)) = w86 at n0_ n1_ n2_ n3_ n4_ n5_ n6_ n7_ n8_ ⊢
  have Zb := n0_
  have Zf := n1_
  have Zm := n2_
  have Zcb := n3_
  have Zdb := n4_
  have Zep := n5_
  have Zfx := n6_
  have Zib := n7_
  have HB := n8_
  clear n0_ n1_ n2_ n3_ n4_ n5_ n6_ n7_ n8_
  have n0_ := mA (blk_drew Zb.out)
  have n1_ := mA (blk_drew Zf.out)
  have n2_ := mA (blk_drew Zm.out)
  have n3_ := mA (blk_drew Zcb.out)
  have n4_ := mA (blk_drew Zdb.out)
  have n5_ := mA (blk_drew Zep.out)
  have n6_ := mA (blk_drew Zfx.out)
  have n7_ := mA (blk_drew Zib.out)
  have n8_ := mA (below_drew1 HB.out)
  clear Zb
  clear Zf
  clear Zm
  clear Zcb
  clear Zdb
  clear Zep
  clear Zfx
  clear Zib
  clear HB
  have Zb := n0_
  have Zf := n1_
  have Zm := n2_
  have Zcb := n3_
  have Zdb := n4_
  have Zep := n5_
  have Zfx := n6_
  have Zib := n7_
  have HB := n8_
  clear n0_ n1_ n2_ n3_ n4_ n5_ n6_ n7_ n8_
  refine start_ (n := 10) (S := fun w' => w'.cell? ⟨Za, 0, none⟩ = some (.int .i64 t326) ∧ w'.cell? ⟨Za, 1, none⟩ = some (.int .i64 t327) ∧ w'.cell? ⟨Za, 2, none⟩ = some (.int .i64 t328) ∧ w'.cell? ⟨Za, 3, none⟩ = some (.int .i64 t329)) (ds := []) #[false, false, false, false, false, false, false, false, false, false] (by kernel_rfl) rfl rfl ⟨(blk_cell Zb.out 0).trans rfl, (blk_cell Zb.out 1).trans rfl, (blk_cell Zb.out 2).trans rfl, (blk_cell Zb.out 3).trans rfl⟩ (fun hHeld => ?_); refine with_tabW laws_FnOctaves.tab9 laws_FnOctaves.bits9 (fun HT_ HW_ => ?_)
  generalize w86.drew = w87 at Zb Zf Zm Zcb Zdb Zep Zfx Zib HB hHeld ⊢
  refine take_ (i := 1) (N := some 56) (v := ?_) (a' := ?_) #[false, true, false, false, false, false, false, false, false, false] rfl rfl (take_ofW HT_.out HW_.out (by kernel_rfl)) (fun _ _ _ h => h) (Or.inl ⟨by rfl, ?_⟩) hHeld ?_ ?_
  rotate_left
  · rintro w' ⟨s0, s1, s2, s3⟩
    go_simp
    with_reducible rfl
  rotate_left
  · simp only [Act.put, List.setIfInBounds_toArray, List.set_cons_zero, List.set_cons_succ, i64_w, i32_w]
    rfl
  refine join_ (σ := Nat) 2 #[true, true, true, true, true, true, true, true, false, false] (fun s_ => [(55, .agg #[.int .i64 t371, .int .i64 t372, .int .i64 t373, .int .i64 t374]), (57, .int .i64 t375), (58, .tuple #[.agg #[.int .i64 t376, .int .i64 t377, .int .i64 t378, .int .i64 t379], .bool true]), (16, .pointer (some ⟨s_, 0, none⟩)), (54, .tuple #[.agg #[.int .i64 t376, .int .i64 t377, .int .i64 t378, .int .i64 t379], .bool true]), (59, .agg #[.int .i64 t376, .int .i64 t377, .int .i64 t378, .int .i64 t379]), (60, .bool true)]) (fun s_ w' => (w'.cell? ⟨Za, 0, none⟩ = some (.int .i64 t326) ∧ w'.cell? ⟨Za, 1, none⟩ = some (.int .i64 t327) ∧ w'.cell? ⟨Za, 2, none⟩ = some (.int .i64 t328) ∧ w'.cell? ⟨Za, 3, none⟩ = some (.int .i64 t329)) ∧ (w'.heap[Za]? = some (.cells #[.int .i64 t326, .int .i64 t327, .int .i64 t328, .int .i64 t329] 25 (0, 0))) ∧ (w'.heap[Ze]? = some (.cells #[.int .i64 t330, .int .i64 t331, .int .i64 t332, .int .i64 t333] 25 (0, 0))) ∧ (w'.heap[Zk]? = some (.cells #[.int .i64 t334, .int .i64 t335, .int .i64 t336, .int .i64 t337] 25 (0, 0))) ∧ (w'.heap[Zca]? = some (.cells #[.int .i64 t341, .int .i64 t342, .int .i64 t343, .int .i64 t344] 25 (0, 0))) ∧ (w'.heap[Zda]? = some (.cells #[.int .i64 t347, .int .i64 t348, .int .i64 t349, .int .i64 t350] 25 (0, 0))) ∧ (w'.heap[Zen]? = some (.cells #[.int .i64 t353, .int .i64 t354, .int .i64 t355, .int .i64 t356] 25 (0, 0))) ∧ (w'.heap[Zfw]? = some (.cells #[.int .i64 t359, .int .i64 t360, .int .i64 t361, .int .i64 t362] 25 (0, 0))) ∧ (w'.heap[Zia]? = some (.cells #[.int .i64 t365, .int .i64 t366, .int .i64 t367, .int .i64 t368] 25 (0, 0))) ∧ (w'.heap[s_]? = some (.cells #[.int .i64 0, .int .i64 0, .int .i64 0, .int .i64 0] 25 (0, 0))) ∧ (w.heap.size ≤ s_) ∧ (w.heap.size ≤ s_) ∧ (Za ≠ s_) ∧ (s_ ≠ Za) ∧ (Ze ≠ s_) ∧ (s_ ≠ Ze) ∧ (Zk ≠ s_) ∧ (s_ ≠ Zk) ∧ (Zca ≠ s_) ∧ (s_ ≠ Zca) ∧ (Zda ≠ s_) ∧ (s_ ≠ Zda) ∧ (Zen ≠ s_) ∧ (s_ ≠ Zen) ∧ (Zfw ≠ s_) ∧ (s_ ≠ Zfw) ∧ (Zia ≠ s_) ∧ (s_ ≠ Zia) ∧ (Below w.heap.size w w')) ?_ ?_
  rotate_left
  · intro hCont
    refine two_ (i := 0) (j := 7) (Ni := some 55) (Nj := some 16) #[true, true, false, false, false, false, false, false, false, false] #[false, true, false, false, false, false, false, true, false, false] rfl rfl rfl rfl (two_of HT_.out (by kernel_rfl)) (by decide) (by decide) (fun K hK => ?_) (fun K hK => ?_)
    · skip
      refine goes_ Try.func25 (by kernel_rfl) rfl #[.int .i64 1, .int .i64 0, .int .i64 0] (by rfl) rfl rfl (by (try simp only [List.map_toArray, List.map_cons, List.map_nil]); first | done | rfl | (simp only [List.length_drop, List.length_take]; rfl)) ?_
      with_reducible refine (impl_PureOf.calls 1 0 0 t371 t372 t373 t374 _ A10.out).mono ?_
      rintro e w88 ⟨rfl, hb⟩
      refine ⟨_, rfl, ?_⟩
      have n0_ := mA (blk_below (g := Za) (o := cQ25 t326 t327 t328 t329) Zb.out hb)
      have n1_ := mA (blk_below (g := Ze) (o := cQ25 t330 t331 t332 t333) Zf.out hb)
      have n2_ := mA (blk_below (g := Zk) (o := cQ25 t334 t335 t336 t337) Zm.out hb)
      have n3_ := mA (blk_below (g := Zca) (o := cQ25 t341 t342 t343 t344) Zcb.out hb)
      have n4_ := mA (blk_below (g := Zda) (o := cQ25 t347 t348 t349 t350) Zdb.out hb)
      have n5_ := mA (blk_below (g := Zen) (o := cQ25 t353 t354 t355 t356) Zep.out hb)
      have n6_ := mA (blk_below (g := Zfw) (o := cQ25 t359 t360 t361 t362) Zfx.out hb)
      have n7_ := mA (blk_below (g := Zia) (o := cQ25 t365 t366 t367 t368) Zib.out hb)
      have n8_ := mA (below_step (by repeat (first | (with_reducible first | exact HB.out | apply below_alloc | apply pw_below_drewN | apply below_drew1 | refine below_set ?_ Zd.out | refine below_set ?_ Zh.out | refine below_set ?_ Zp.out | refine below_set ?_ Zcd.out | refine below_set ?_ Zdd.out | refine below_set ?_ Zer.out | refine below_set ?_ Zfz.out | refine below_set ?_ Zid.out) | exact HB.out)) hb)
      clear Zb
      clear Zf
      clear Zm
      clear Zcb
      clear Zdb
      clear Zep
      clear Zfx
      clear Zib
      clear HB
      have Zb := n0_
      have Zf := n1_
      have Zm := n2_
      have Zcb := n3_
      have Zdb := n4_
      have Zep := n5_
      have Zfx := n6_
      have Zib := n7_
      have HB := n8_
      clear n0_ n1_ n2_ n3_ n4_ n5_ n6_ n7_ n8_
      (try clear hb)
      (try clear hb2)
      (try clear hk)
      (try clear hi)
      refine hK.out _ _ ⟨(blk_cell Zb.out 0).trans rfl, (blk_cell Zb.out 1).trans rfl, (blk_cell Zb.out 2).trans rfl, (blk_cell Zb.out 3).trans rfl⟩ (fun hHeld => ?_)
      clear hK K
      refine norm_ (a' := ?_) ?_ ?_
      rotate_left
      · show Act.put _ (some 55) _ = _
        simp only [Act.put, List.setIfInBounds_toArray, List.set_cons_zero, List.set_cons_succ, i64_w, i32_w]
        rfl
      refine two_ (i := 2) (j := 7) (Ni := some 57) (Nj := some 16) #[true, true, true, false, false, false, false, false, false, false] #[true, true, false, false, false, false, false, true, false, false] rfl rfl rfl rfl (two_of HT_.out (by kernel_rfl)) (by decide) (by decide) (fun K hK => ?_) (fun K hK => ?_)
      · skip
        refine goes_ Try.func14 (by kernel_rfl) rfl #[.agg #[.int .i64 t326, .int .i64 t327, .int .i64 t328, .int .i64 t329]] (by rfl) rfl rfl (by (try simp only [List.map_toArray, List.map_cons, List.map_nil]); first | done | rfl | (simp only [List.length_drop, List.length_take]; rfl)) ?_
        with_reducible refine (impl_OctavesIn.calls k t326 t327 t328 t329 t375 _ A11.out).mono ?_
        rintro e w89 ⟨rfl, hb⟩
        refine ⟨_, rfl, ?_⟩
        have n0_ := mA (blk_below (g := Za) (o := cQ25 t326 t327 t328 t329) Zb.out hb)
        have n1_ := mA (blk_below (g := Ze) (o := cQ25 t330 t331 t332 t333) Zf.out hb)
        have n2_ := mA (blk_below (g := Zk) (o := cQ25 t334 t335 t336 t337) Zm.out hb)
        have n3_ := mA (blk_below (g := Zca) (o := cQ25 t341 t342 t343 t344) Zcb.out hb)
        have n4_ := mA (blk_below (g := Zda) (o := cQ25 t347 t348 t349 t350) Zdb.out hb)
        have n5_ := mA (blk_below (g := Zen) (o := cQ25 t353 t354 t355 t356) Zep.out hb)
        have n6_ := mA (blk_below (g := Zfw) (o := cQ25 t359 t360 t361 t362) Zfx.out hb)
        have n7_ := mA (blk_below (g := Zia) (o := cQ25 t365 t366 t367 t368) Zib.out hb)
        have n8_ := mA (below_step (by repeat (first | (with_reducible first | exact HB.out | apply below_alloc | apply pw_below_drewN | apply below_drew1 | refine below_set ?_ Zd.out | refine below_set ?_ Zh.out | refine below_set ?_ Zp.out | refine below_set ?_ Zcd.out | refine below_set ?_ Zdd.out | refine below_set ?_ Zer.out | refine below_set ?_ Zfz.out | refine below_set ?_ Zid.out) | exact HB.out)) hb)
        clear Zb
        clear Zf
        clear Zm
        clear Zcb
        clear Zdb
        clear Zep
        clear Zfx
        clear Zib
        clear HB
        have Zb := n0_
        have Zf := n1_
        have Zm := n2_
        have Zcb := n3_
        have Zdb := n4_
        have Zep := n5_
        have Zfx := n6_
        have Zib := n7_
        have HB := n8_
        clear n0_ n1_ n2_ n3_ n4_ n5_ n6_ n7_ n8_
        (try clear hb)
        (try clear hb2)
        (try clear hk)
        (try clear hi)
        refine hK.out _ _ ⟨(blk_cell Zb.out 0).trans rfl, (blk_cell Zb.out 1).trans rfl, (blk_cell Zb.out 2).trans rfl, (blk_cell Zb.out 3).trans rfl⟩ (fun hHeld => ?_)
        clear hK K
        refine norm_ (a' := ?_) ?_ ?_
        rotate_left
        · show Act.put _ (some 57) _ = _
          simp only [Act.put, List.setIfInBounds_toArray, List.set_cons_zero, List.set_cons_succ, i64_w, i32_w]
          rfl
        refine two_ (i := 3) (j := 7) (Ni := some 58) (Nj := some 16) #[true, true, true, true, false, false, false, false, false, false] #[true, true, true, false, false, false, false, true, false, false] rfl rfl rfl rfl (two_of HT_.out (by kernel_rfl)) (by decide) (by decide) (fun K hK => ?_) (fun K hK => ?_)
        · skip
          refine goes_ Try.func29 (by kernel_rfl) rfl #[.agg #[.int .i64 t371, .int .i64 t372, .int .i64 t373, .int .i64 t374], .int .i64 t375] (by rfl) rfl rfl (by (try simp only [List.map_toArray, List.map_cons, List.map_nil]); first | done | rfl | (simp only [List.length_drop, List.length_take]; rfl)) ?_
          with_reducible refine (impl_TimesInterval.calls k t371 t372 t373 t374 t375 t376 t377 t378 t379 true _ A12.out).mono ?_
          rintro e w90 ⟨rfl, hb⟩
          refine ⟨_, rfl, ?_⟩
          have n0_ := mA (blk_below (g := Za) (o := cQ25 t326 t327 t328 t329) Zb.out hb)
          have n1_ := mA (blk_below (g := Ze) (o := cQ25 t330 t331 t332 t333) Zf.out hb)
          have n2_ := mA (blk_below (g := Zk) (o := cQ25 t334 t335 t336 t337) Zm.out hb)
          have n3_ := mA (blk_below (g := Zca) (o := cQ25 t341 t342 t343 t344) Zcb.out hb)
          have n4_ := mA (blk_below (g := Zda) (o := cQ25 t347 t348 t349 t350) Zdb.out hb)
          have n5_ := mA (blk_below (g := Zen) (o := cQ25 t353 t354 t355 t356) Zep.out hb)
          have n6_ := mA (blk_below (g := Zfw) (o := cQ25 t359 t360 t361 t362) Zfx.out hb)
          have n7_ := mA (blk_below (g := Zia) (o := cQ25 t365 t366 t367 t368) Zib.out hb)
          have n8_ := mA (below_step (by repeat (first | (with_reducible first | exact HB.out | apply below_alloc | apply pw_below_drewN | apply below_drew1 | refine below_set ?_ Zd.out | refine below_set ?_ Zh.out | refine below_set ?_ Zp.out | refine below_set ?_ Zcd.out | refine below_set ?_ Zdd.out | refine below_set ?_ Zer.out | refine below_set ?_ Zfz.out | refine below_set ?_ Zid.out) | exact HB.out)) hb)
          clear Zb
          clear Zf
          clear Zm
          clear Zcb
          clear Zdb
          clear Zep
          clear Zfx
          clear Zib
          clear HB
          have Zb := n0_
          have Zf := n1_
          have Zm := n2_
          have Zcb := n3_
          have Zdb := n4_
          have Zep := n5_
          have Zfx := n6_
          have Zib := n7_
          have HB := n8_
          clear n0_ n1_ n2_ n3_ n4_ n5_ n6_ n7_ n8_
          (try clear hb)
          (try clear hb2)
          (try clear hk)
          (try clear hi)
          refine hK.out _ _ ⟨(blk_cell Zb.out 0).trans rfl, (blk_cell Zb.out 1).trans rfl, (blk_cell Zb.out 2).trans rfl, (blk_cell Zb.out 3).trans rfl⟩ (fun hHeld => ?_)
          clear hK K
          refine norm_ (a' := ?_) ?_ ?_
          rotate_left
          · show Act.put _ (some 58) _ = _
            simp only [Act.put, List.setIfInBounds_toArray, List.set_cons_zero, List.set_cons_succ, i64_w, i32_w]
            rfl
          refine pure_ (i := 4) (N := some 54) (v := ?_) (a' := ?_) #[true, true, true, true, true, false, false, false, false, false] rfl rfl (any_of HT_.out (by kernel_rfl)) (fun _ _ _ h => h) (Or.inl ⟨by rfl, ?_⟩) ?_ ?_
          rotate_left
          · intro w'
            go_simp
            with_reducible rfl
          rotate_left
          · simp only [Act.put, List.setIfInBounds_toArray, List.set_cons_zero, List.set_cons_succ, i64_w, i32_w]
            rfl
          refine pure_ (i := 5) (N := some 59) (v := ?_) (a' := ?_) #[true, true, true, true, true, true, false, false, false, false] rfl rfl (any_of HT_.out (by kernel_rfl)) (fun _ _ _ h => h) (Or.inl ⟨by rfl, ?_⟩) ?_ ?_
          rotate_left
          · intro w'
            go_simp
            with_reducible rfl
          rotate_left
          · simp only [Act.put, List.setIfInBounds_toArray, List.set_cons_zero, List.set_cons_succ, i64_w, i32_w]
            rfl
          refine pure_ (i := 6) (N := some 60) (v := ?_) (a' := ?_) #[true, true, true, true, true, true, true, false, false, false] rfl rfl (any_of HT_.out (by kernel_rfl)) (fun _ _ _ h => h) (Or.inl ⟨by rfl, ?_⟩) ?_ ?_
          rotate_left
          · intro w'
            go_simp
            with_reducible rfl
          rotate_left
          · simp only [Act.put, List.setIfInBounds_toArray, List.set_cons_zero, List.set_cons_succ, i64_w, i32_w]
            rfl
          refine one_ (i := 7) (N := some 16) #[true, true, true, true, true, true, true, true, false, false] rfl rfl (one_of HT_.out (by kernel_rfl)) (by decide) (fun K hK => ?_)
          refine box_step ?hg (N := 16) ?hd (cs := #[.int .i64 0, .int .i64 0, .int .i64 0, .int .i64 0]) (t := 25) ?hr ?_; (case hd => rfl); (case hg => rfl); (case hr => first | (go_simp; done) | (go_simp; rfl))
          intro Zjs hg w91 hbox hb
          have n0_ := mA (blk_below (g := Za) (o := cQ25 t326 t327 t328 t329) Zb.out hb)
          have n1_ := mA (blk_below (g := Ze) (o := cQ25 t330 t331 t332 t333) Zf.out hb)
          have n2_ := mA (blk_below (g := Zk) (o := cQ25 t334 t335 t336 t337) Zm.out hb)
          have n3_ := mA (blk_below (g := Zca) (o := cQ25 t341 t342 t343 t344) Zcb.out hb)
          have n4_ := mA (blk_below (g := Zda) (o := cQ25 t347 t348 t349 t350) Zdb.out hb)
          have n5_ := mA (blk_below (g := Zen) (o := cQ25 t353 t354 t355 t356) Zep.out hb)
          have n6_ := mA (blk_below (g := Zfw) (o := cQ25 t359 t360 t361 t362) Zfx.out hb)
          have n7_ := mA (blk_below (g := Zia) (o := cQ25 t365 t366 t367 t368) Zib.out hb)
          have n8_ := mA (below_step (by repeat (first | (with_reducible first | exact HB.out | apply below_alloc | apply pw_below_drewN | apply below_drew1 | refine below_set ?_ Zd.out | refine below_set ?_ Zh.out | refine below_set ?_ Zp.out | refine below_set ?_ Zcd.out | refine below_set ?_ Zdd.out | refine below_set ?_ Zer.out | refine below_set ?_ Zfz.out | refine below_set ?_ Zid.out) | exact HB.out)) hb)
          have n9_ := mA (hbox)
          have n10_ := mA ((by rw [hg]; exact (below_size (by repeat (first | (with_reducible first | exact HB.out | apply below_alloc | apply pw_below_drewN | apply below_drew1 | refine below_set ?_ Zd.out | refine below_set ?_ Zh.out | refine below_set ?_ Zp.out | refine below_set ?_ Zcd.out | refine below_set ?_ Zdd.out | refine below_set ?_ Zer.out | refine below_set ?_ Zfz.out | refine below_set ?_ Zid.out) | exact HB.out))) : w.heap.size ≤ Zjs))
          have n11_ := mA ((by rw [hg]; exact (below_size (by repeat (first | (with_reducible first | exact HB.out | apply below_alloc | apply pw_below_drewN | apply below_drew1 | refine below_set ?_ Zd.out | refine below_set ?_ Zh.out | refine below_set ?_ Zp.out | refine below_set ?_ Zcd.out | refine below_set ?_ Zdd.out | refine below_set ?_ Zer.out | refine below_set ?_ Zfz.out | refine below_set ?_ Zid.out) | exact HB.out))) : w.heap.size ≤ Zjs))
          have n12_ := mA ((by rw [hg]; exact Nat.ne_of_lt (blk_lt (g := Za) (o := cQ25 t326 t327 t328 t329) Zb.out) : Za ≠ Zjs))
          have n13_ := mA ((by rw [hg]; exact Nat.ne_of_gt (blk_lt (g := Za) (o := cQ25 t326 t327 t328 t329) Zb.out) : Zjs ≠ Za))
          have n14_ := mA ((by rw [hg]; exact Nat.ne_of_lt (blk_lt (g := Ze) (o := cQ25 t330 t331 t332 t333) Zf.out) : Ze ≠ Zjs))
          have n15_ := mA ((by rw [hg]; exact Nat.ne_of_gt (blk_lt (g := Ze) (o := cQ25 t330 t331 t332 t333) Zf.out) : Zjs ≠ Ze))
          have n16_ := mA ((by rw [hg]; exact Nat.ne_of_lt (blk_lt (g := Zk) (o := cQ25 t334 t335 t336 t337) Zm.out) : Zk ≠ Zjs))
          have n17_ := mA ((by rw [hg]; exact Nat.ne_of_gt (blk_lt (g := Zk) (o := cQ25 t334 t335 t336 t337) Zm.out) : Zjs ≠ Zk))
          have n18_ := mA ((by rw [hg]; exact Nat.ne_of_lt (blk_lt (g := Zca) (o := cQ25 t341 t342 t343 t344) Zcb.out) : Zca ≠ Zjs))
          have n19_ := mA ((by rw [hg]; exact Nat.ne_of_gt (blk_lt (g := Zca) (o := cQ25 t341 t342 t343 t344) Zcb.out) : Zjs ≠ Zca))
          have n20_ := mA ((by rw [hg]; exact Nat.ne_of_lt (blk_lt (g := Zda) (o := cQ25 t347 t348 t349 t350) Zdb.out) : Zda ≠ Zjs))
          have n21_ := mA ((by rw [hg]; exact Nat.ne_of_gt (blk_lt (g := Zda) (o := cQ25 t347 t348 t349 t350) Zdb.out) : Zjs ≠ Zda))
          have n22_ := mA ((by rw [hg]; exact Nat.ne_of_lt (blk_lt (g := Zen) (o := cQ25 t353 t354 t355 t356) Zep.out) : Zen ≠ Zjs))
          have n23_ := mA ((by rw [hg]; exact Nat.ne_of_gt (blk_lt (g := Zen) (o := cQ25 t353 t354 t355 t356) Zep.out) : Zjs ≠ Zen))
          have n24_ := mA ((by rw [hg]; exact Nat.ne_of_lt (blk_lt (g := Zfw) (o := cQ25 t359 t360 t361 t362) Zfx.out) : Zfw ≠ Zjs))
          have n25_ := mA ((by rw [hg]; exact Nat.ne_of_gt (blk_lt (g := Zfw) (o := cQ25 t359 t360 t361 t362) Zfx.out) : Zjs ≠ Zfw))
          have n26_ := mA ((by rw [hg]; exact Nat.ne_of_lt (blk_lt (g := Zia) (o := cQ25 t365 t366 t367 t368) Zib.out) : Zia ≠ Zjs))
          have n27_ := mA ((by rw [hg]; exact Nat.ne_of_gt (blk_lt (g := Zia) (o := cQ25 t365 t366 t367 t368) Zib.out) : Zjs ≠ Zia))
          clear Zb
          clear Zf
          clear Zm
          clear Zcb
          clear Zdb
          clear Zep
          clear Zfx
          clear Zib
          clear HB
          have Zb := n0_
          have Zf := n1_
          have Zm := n2_
          have Zcb := n3_
          have Zdb := n4_
          have Zep := n5_
          have Zfx := n6_
          have Zib := n7_
          have HB := n8_
          have Zjt := n9_
          have Zju := n10_
          have Zjv := n11_
          have Zjw := n12_
          have Zjx := n13_
          have Zjy := n14_
          have Zjz := n15_
          have Zka := n16_
          have Zkb := n17_
          have Zkc := n18_
          have Zkd := n19_
          have Zke := n20_
          have Zkf := n21_
          have Zkg := n22_
          have Zkh := n23_
          have Zki := n24_
          have Zkj := n25_
          have Zkk := n26_
          have Zkm := n27_
          clear n0_ n1_ n2_ n3_ n4_ n5_ n6_ n7_ n8_ n9_ n10_ n11_ n12_ n13_ n14_ n15_ n16_ n17_ n18_ n19_ n20_ n21_ n22_ n23_ n24_ n25_ n26_ n27_
          clear hb hbox hg
          refine hK.out _ _ ⟨(blk_cell Zb.out 0).trans rfl, (blk_cell Zb.out 1).trans rfl, (blk_cell Zb.out 2).trans rfl, (blk_cell Zb.out 3).trans rfl⟩ (fun hHeld => ?_)
          clear hK K
          refine norm_ (a' := ?_) ?_ ?_
          rotate_left
          · show Act.put _ (some 16) _ = _
            simp only [Act.put, List.setIfInBounds_toArray, List.set_cons_zero, List.set_cons_succ, i64_w, i32_w]
            rfl
          exact norm_ (by simp only [putAll, Act.put, List.setIfInBounds_toArray, List.set_cons_zero, List.set_cons_succ]) (hCont (Zjs) _ ⟨hHeld, Zb.out, Zf.out, Zm.out, Zcb.out, Zdb.out, Zep.out, Zfx.out, Zib.out, Zjt.out, Zju.out, Zjv.out, Zjw.out, Zjx.out, Zjy.out, Zjz.out, Zka.out, Zkb.out, Zkc.out, Zkd.out, Zke.out, Zkf.out, Zkg.out, Zkh.out, Zki.out, Zkj.out, Zkk.out, Zkm.out, (by repeat (first | (with_reducible first | exact HB.out | apply below_alloc | apply pw_below_drewN | apply below_drew1 | refine below_set ?_ Zd.out | refine below_set ?_ Zh.out | refine below_set ?_ Zp.out | refine below_set ?_ Zcd.out | refine below_set ?_ Zdd.out | refine below_set ?_ Zer.out | refine below_set ?_ Zfz.out | refine below_set ?_ Zid.out | refine below_set ?_ Zjv.out) | exact HB.out))⟩)
        · skip
          refine box_step ?hg (N := 16) ?hd (cs := #[.int .i64 0, .int .i64 0, .int .i64 0, .int .i64 0]) (t := 25) ?hr ?_; (case hd => rfl); (case hg => rfl); (case hr => first | (go_simp; done) | (go_simp; rfl))
          intro Zjs hg w90 hbox hb
          have n0_ := mA (blk_below (g := Za) (o := cQ25 t326 t327 t328 t329) Zb.out hb)
          have n1_ := mA (blk_below (g := Ze) (o := cQ25 t330 t331 t332 t333) Zf.out hb)
          have n2_ := mA (blk_below (g := Zk) (o := cQ25 t334 t335 t336 t337) Zm.out hb)
          have n3_ := mA (blk_below (g := Zca) (o := cQ25 t341 t342 t343 t344) Zcb.out hb)
          have n4_ := mA (blk_below (g := Zda) (o := cQ25 t347 t348 t349 t350) Zdb.out hb)
          have n5_ := mA (blk_below (g := Zen) (o := cQ25 t353 t354 t355 t356) Zep.out hb)
          have n6_ := mA (blk_below (g := Zfw) (o := cQ25 t359 t360 t361 t362) Zfx.out hb)
          have n7_ := mA (blk_below (g := Zia) (o := cQ25 t365 t366 t367 t368) Zib.out hb)
          have n8_ := mA (below_step (by repeat (first | (with_reducible first | exact HB.out | apply below_alloc | apply pw_below_drewN | apply below_drew1 | refine below_set ?_ Zd.out | refine below_set ?_ Zh.out | refine below_set ?_ Zp.out | refine below_set ?_ Zcd.out | refine below_set ?_ Zdd.out | refine below_set ?_ Zer.out | refine below_set ?_ Zfz.out | refine below_set ?_ Zid.out) | exact HB.out)) hb)
          have n9_ := mA (hbox)
          have n10_ := mA ((by rw [hg]; exact (below_size (by repeat (first | (with_reducible first | exact HB.out | apply below_alloc | apply pw_below_drewN | apply below_drew1 | refine below_set ?_ Zd.out | refine below_set ?_ Zh.out | refine below_set ?_ Zp.out | refine below_set ?_ Zcd.out | refine below_set ?_ Zdd.out | refine below_set ?_ Zer.out | refine below_set ?_ Zfz.out | refine below_set ?_ Zid.out) | exact HB.out))) : w.heap.size ≤ Zjs))
          have n11_ := mA ((by rw [hg]; exact (below_size (by repeat (first | (with_reducible first | exact HB.out | apply below_alloc | apply pw_below_drewN | apply below_drew1 | refine below_set ?_ Zd.out | refine below_set ?_ Zh.out | refine below_set ?_ Zp.out | refine below_set ?_ Zcd.out | refine below_set ?_ Zdd.out | refine below_set ?_ Zer.out | refine below_set ?_ Zfz.out | refine below_set ?_ Zid.out) | exact HB.out))) : w.heap.size ≤ Zjs))
          have n12_ := mA ((by rw [hg]; exact Nat.ne_of_lt (blk_lt (g := Za) (o := cQ25 t326 t327 t328 t329) Zb.out) : Za ≠ Zjs))
          have n13_ := mA ((by rw [hg]; exact Nat.ne_of_gt (blk_lt (g := Za) (o := cQ25 t326 t327 t328 t329) Zb.out) : Zjs ≠ Za))
          have n14_ := mA ((by rw [hg]; exact Nat.ne_of_lt (blk_lt (g := Ze) (o := cQ25 t330 t331 t332 t333) Zf.out) : Ze ≠ Zjs))
          have n15_ := mA ((by rw [hg]; exact Nat.ne_of_gt (blk_lt (g := Ze) (o := cQ25 t330 t331 t332 t333) Zf.out) : Zjs ≠ Ze))
          have n16_ := mA ((by rw [hg]; exact Nat.ne_of_lt (blk_lt (g := Zk) (o := cQ25 t334 t335 t336 t337) Zm.out) : Zk ≠ Zjs))
          have n17_ := mA ((by rw [hg]; exact Nat.ne_of_gt (blk_lt (g := Zk) (o := cQ25 t334 t335 t336 t337) Zm.out) : Zjs ≠ Zk))
          have n18_ := mA ((by rw [hg]; exact Nat.ne_of_lt (blk_lt (g := Zca) (o := cQ25 t341 t342 t343 t344) Zcb.out) : Zca ≠ Zjs))
          have n19_ := mA ((by rw [hg]; exact Nat.ne_of_gt (blk_lt (g := Zca) (o := cQ25 t341 t342 t343 t344) Zcb.out) : Zjs ≠ Zca))
          have n20_ := mA ((by rw [hg]; exact Nat.ne_of_lt (blk_lt (g := Zda) (o := cQ25 t347 t348 t349 t350) Zdb.out) : Zda ≠ Zjs))
          have n21_ := mA ((by rw [hg]; exact Nat.ne_of_gt (blk_lt (g := Zda) (o := cQ25 t347 t348 t349 t350) Zdb.out) : Zjs ≠ Zda))
          have n22_ := mA ((by rw [hg]; exact Nat.ne_of_lt (blk_lt (g := Zen) (o := cQ25 t353 t354 t355 t356) Zep.out) : Zen ≠ Zjs))
          have n23_ := mA ((by rw [hg]; exact Nat.ne_of_gt (blk_lt (g := Zen) (o := cQ25 t353 t354 t355 t356) Zep.out) : Zjs ≠ Zen))
          have n24_ := mA ((by rw [hg]; exact Nat.ne_of_lt (blk_lt (g := Zfw) (o := cQ25 t359 t360 t361 t362) Zfx.out) : Zfw ≠ Zjs))
          have n25_ := mA ((by rw [hg]; exact Nat.ne_of_gt (blk_lt (g := Zfw) (o := cQ25 t359 t360 t361 t362) Zfx.out) : Zjs ≠ Zfw))
          have n26_ := mA ((by rw [hg]; exact Nat.ne_of_lt (blk_lt (g := Zia) (o := cQ25 t365 t366 t367 t368) Zib.out) : Zia ≠ Zjs))
          have n27_ := mA ((by rw [hg]; exact Nat.ne_of_gt (blk_lt (g := Zia) (o := cQ25 t365 t366 t367 t368) Zib.out) : Zjs ≠ Zia))
          clear Zb
          clear Zf
          clear Zm
          clear Zcb
          clear Zdb
          clear Zep
          clear Zfx
          clear Zib
          clear HB
          have Zb := n0_
          have Zf := n1_
          have Zm := n2_
          have Zcb := n3_
          have Zdb := n4_
          have Zep := n5_
          have Zfx := n6_
          have Zib := n7_
          have HB := n8_
          have Zjt := n9_
          have Zju := n10_
          have Zjv := n11_
          have Zjw := n12_
          have Zjx := n13_
          have Zjy := n14_
          have Zjz := n15_
          have Zka := n16_
          have Zkb := n17_
          have Zkc := n18_
          have Zkd := n19_
          have Zke := n20_
          have Zkf := n21_
          have Zkg := n22_
          have Zkh := n23_
          have Zki := n24_
          have Zkj := n25_
          have Zkk := n26_
          have Zkm := n27_
          clear n0_ n1_ n2_ n3_ n4_ n5_ n6_ n7_ n8_ n9_ n10_ n11_ n12_ n13_ n14_ n15_ n16_ n17_ n18_ n19_ n20_ n21_ n22_ n23_ n24_ n25_ n26_ n27_
          clear hb hbox hg
          refine hK.out _ _ ⟨(blk_cell Zb.out 0).trans rfl, (blk_cell Zb.out 1).trans rfl, (blk_cell Zb.out 2).trans rfl, (blk_cell Zb.out 3).trans rfl⟩ (fun hHeld => ?_)
          clear hK K
          refine norm_ (a' := ?_) ?_ ?_
          rotate_left
          · show Act.put _ (some 16) _ = _
            simp only [Act.put, List.setIfInBounds_toArray, List.set_cons_zero, List.set_cons_succ, i64_w, i32_w]
            rfl
          refine one_ (i := 3) (N := some 58) #[true, true, true, true, false, false, false, true, false, false] rfl rfl (one_of HT_.out (by kernel_rfl)) (by decide) (fun K hK => ?_)
          refine goes_ Try.func29 (by kernel_rfl) rfl #[.agg #[.int .i64 t371, .int .i64 t372, .int .i64 t373, .int .i64 t374], .int .i64 t375] (by rfl) rfl rfl (by (try simp only [List.map_toArray, List.map_cons, List.map_nil]); first | done | rfl | (simp only [List.length_drop, List.length_take]; rfl)) ?_
          with_reducible refine (impl_TimesInterval.calls k t371 t372 t373 t374 t375 t376 t377 t378 t379 true _ A12.out).mono ?_
          rintro e w91 ⟨rfl, hb⟩
          refine ⟨_, rfl, ?_⟩
          have n0_ := mA (blk_below (g := Za) (o := cQ25 t326 t327 t328 t329) Zb.out hb)
          have n1_ := mA (blk_below (g := Ze) (o := cQ25 t330 t331 t332 t333) Zf.out hb)
          have n2_ := mA (blk_below (g := Zk) (o := cQ25 t334 t335 t336 t337) Zm.out hb)
          have n3_ := mA (blk_below (g := Zca) (o := cQ25 t341 t342 t343 t344) Zcb.out hb)
          have n4_ := mA (blk_below (g := Zda) (o := cQ25 t347 t348 t349 t350) Zdb.out hb)
          have n5_ := mA (blk_below (g := Zen) (o := cQ25 t353 t354 t355 t356) Zep.out hb)
          have n6_ := mA (blk_below (g := Zfw) (o := cQ25 t359 t360 t361 t362) Zfx.out hb)
          have n7_ := mA (blk_below (g := Zia) (o := cQ25 t365 t366 t367 t368) Zib.out hb)
          have n8_ := mA (blk_below (g := Zjs) (o := cQ25 0 0 0 0) Zjt.out hb)
          have n9_ := mA (below_step (by repeat (first | (with_reducible first | exact HB.out | apply below_alloc | apply pw_below_drewN | apply below_drew1 | refine below_set ?_ Zd.out | refine below_set ?_ Zh.out | refine below_set ?_ Zp.out | refine below_set ?_ Zcd.out | refine below_set ?_ Zdd.out | refine below_set ?_ Zer.out | refine below_set ?_ Zfz.out | refine below_set ?_ Zid.out | refine below_set ?_ Zjv.out) | exact HB.out)) hb)
          clear Zb
          clear Zf
          clear Zm
          clear Zcb
          clear Zdb
          clear Zep
          clear Zfx
          clear Zib
          clear Zjt
          clear HB
          have Zb := n0_
          have Zf := n1_
          have Zm := n2_
          have Zcb := n3_
          have Zdb := n4_
          have Zep := n5_
          have Zfx := n6_
          have Zib := n7_
          have Zjt := n8_
          have HB := n9_
          clear n0_ n1_ n2_ n3_ n4_ n5_ n6_ n7_ n8_ n9_
          (try clear hb)
          (try clear hb2)
          (try clear hk)
          (try clear hi)
          refine hK.out _ _ ⟨(blk_cell Zb.out 0).trans rfl, (blk_cell Zb.out 1).trans rfl, (blk_cell Zb.out 2).trans rfl, (blk_cell Zb.out 3).trans rfl⟩ (fun hHeld => ?_)
          clear hK K
          refine norm_ (a' := ?_) ?_ ?_
          rotate_left
          · show Act.put _ (some 58) _ = _
            simp only [Act.put, List.setIfInBounds_toArray, List.set_cons_zero, List.set_cons_succ, i64_w, i32_w]
            rfl
          refine pure_ (i := 4) (N := some 54) (v := ?_) (a' := ?_) #[true, true, true, true, true, false, false, true, false, false] rfl rfl (any_of HT_.out (by kernel_rfl)) (fun _ _ _ h => h) (Or.inl ⟨by rfl, ?_⟩) ?_ ?_
          rotate_left
          · intro w'
            go_simp
            with_reducible rfl
          rotate_left
          · simp only [Act.put, List.setIfInBounds_toArray, List.set_cons_zero, List.set_cons_succ, i64_w, i32_w]
            rfl
          refine pure_ (i := 5) (N := some 59) (v := ?_) (a' := ?_) #[true, true, true, true, true, true, false, true, false, false] rfl rfl (any_of HT_.out (by kernel_rfl)) (fun _ _ _ h => h) (Or.inl ⟨by rfl, ?_⟩) ?_ ?_
          rotate_left
          · intro w'
            go_simp
            with_reducible rfl
          rotate_left
          · simp only [Act.put, List.setIfInBounds_toArray, List.set_cons_zero, List.set_cons_succ, i64_w, i32_w]
            rfl
          refine pure_ (i := 6) (N := some 60) (v := ?_) (a' := ?_) #[true, true, true, true, true, true, true, true, false, false] rfl rfl (any_of HT_.out (by kernel_rfl)) (fun _ _ _ h => h) (Or.inl ⟨by rfl, ?_⟩) ?_ ?_
          rotate_left
          · intro w'
            go_simp
            with_reducible rfl
          rotate_left
          · simp only [Act.put, List.setIfInBounds_toArray, List.set_cons_zero, List.set_cons_succ, i64_w, i32_w]
            rfl
          exact norm_ (by simp only [putAll, Act.put, List.setIfInBounds_toArray, List.set_cons_zero, List.set_cons_succ]) (hCont (Zjs) _ ⟨hHeld, Zb.out, Zf.out, Zm.out, Zcb.out, Zdb.out, Zep.out, Zfx.out, Zib.out, Zjt.out, Zju.out, Zjv.out, Zjw.out, Zjx.out, Zjy.out, Zjz.out, Zka.out, Zkb.out, Zkc.out, Zkd.out, Zke.out, Zkf.out, Zkg.out, Zkh.out, Zki.out, Zkj.out, Zkk.out, Zkm.out, (by repeat (first | (with_reducible first | exact HB.out | apply below_alloc | apply pw_below_drewN | apply below_drew1 | refine below_set ?_ Zd.out | refine below_set ?_ Zh.out | refine below_set ?_ Zp.out | refine below_set ?_ Zcd.out | refine below_set ?_ Zdd.out | refine below_set ?_ Zer.out | refine below_set ?_ Zfz.out | refine below_set ?_ Zid.out | refine below_set ?_ Zjv.out) | exact HB.out))⟩)
      · skip
        refine box_step ?hg (N := 16) ?hd (cs := #[.int .i64 0, .int .i64 0, .int .i64 0, .int .i64 0]) (t := 25) ?hr ?_; (case hd => rfl); (case hg => rfl); (case hr => first | (go_simp; done) | (go_simp; rfl))
        intro Zjs hg w89 hbox hb
        have n0_ := mA (blk_below (g := Za) (o := cQ25 t326 t327 t328 t329) Zb.out hb)
        have n1_ := mA (blk_below (g := Ze) (o := cQ25 t330 t331 t332 t333) Zf.out hb)
        have n2_ := mA (blk_below (g := Zk) (o := cQ25 t334 t335 t336 t337) Zm.out hb)
        have n3_ := mA (blk_below (g := Zca) (o := cQ25 t341 t342 t343 t344) Zcb.out hb)
        have n4_ := mA (blk_below (g := Zda) (o := cQ25 t347 t348 t349 t350) Zdb.out hb)
        have n5_ := mA (blk_below (g := Zen) (o := cQ25 t353 t354 t355 t356) Zep.out hb)
        have n6_ := mA (blk_below (g := Zfw) (o := cQ25 t359 t360 t361 t362) Zfx.out hb)
        have n7_ := mA (blk_below (g := Zia) (o := cQ25 t365 t366 t367 t368) Zib.out hb)
        have n8_ := mA (below_step (by repeat (first | (with_reducible first | exact HB.out | apply below_alloc | apply pw_below_drewN | apply below_drew1 | refine below_set ?_ Zd.out | refine below_set ?_ Zh.out | refine below_set ?_ Zp.out | refine below_set ?_ Zcd.out | refine below_set ?_ Zdd.out | refine below_set ?_ Zer.out | refine below_set ?_ Zfz.out | refine below_set ?_ Zid.out) | exact HB.out)) hb)
        have n9_ := mA (hbox)
        have n10_ := mA ((by rw [hg]; exact (below_size (by repeat (first | (with_reducible first | exact HB.out | apply below_alloc | apply pw_below_drewN | apply below_drew1 | refine below_set ?_ Zd.out | refine below_set ?_ Zh.out | refine below_set ?_ Zp.out | refine below_set ?_ Zcd.out | refine below_set ?_ Zdd.out | refine below_set ?_ Zer.out | refine below_set ?_ Zfz.out | refine below_set ?_ Zid.out) | exact HB.out))) : w.heap.size ≤ Zjs))
        have n11_ := mA ((by rw [hg]; exact (below_size (by repeat (first | (with_reducible first | exact HB.out | apply below_alloc | apply pw_below_drewN | apply below_drew1 | refine below_set ?_ Zd.out | refine below_set ?_ Zh.out | refine below_set ?_ Zp.out | refine below_set ?_ Zcd.out | refine below_set ?_ Zdd.out | refine below_set ?_ Zer.out | refine below_set ?_ Zfz.out | refine below_set ?_ Zid.out) | exact HB.out))) : w.heap.size ≤ Zjs))
        have n12_ := mA ((by rw [hg]; exact Nat.ne_of_lt (blk_lt (g := Za) (o := cQ25 t326 t327 t328 t329) Zb.out) : Za ≠ Zjs))
        have n13_ := mA ((by rw [hg]; exact Nat.ne_of_gt (blk_lt (g := Za) (o := cQ25 t326 t327 t328 t329) Zb.out) : Zjs ≠ Za))
        have n14_ := mA ((by rw [hg]; exact Nat.ne_of_lt (blk_lt (g := Ze) (o := cQ25 t330 t331 t332 t333) Zf.out) : Ze ≠ Zjs))
        have n15_ := mA ((by rw [hg]; exact Nat.ne_of_gt (blk_lt (g := Ze) (o := cQ25 t330 t331 t332 t333) Zf.out) : Zjs ≠ Ze))
        have n16_ := mA ((by rw [hg]; exact Nat.ne_of_lt (blk_lt (g := Zk) (o := cQ25 t334 t335 t336 t337) Zm.out) : Zk ≠ Zjs))
        have n17_ := mA ((by rw [hg]; exact Nat.ne_of_gt (blk_lt (g := Zk) (o := cQ25 t334 t335 t336 t337) Zm.out) : Zjs ≠ Zk))
        have n18_ := mA ((by rw [hg]; exact Nat.ne_of_lt (blk_lt (g := Zca) (o := cQ25 t341 t342 t343 t344) Zcb.out) : Zca ≠ Zjs))
        have n19_ := mA ((by rw [hg]; exact Nat.ne_of_gt (blk_lt (g := Zca) (o := cQ25 t341 t342 t343 t344) Zcb.out) : Zjs ≠ Zca))
        have n20_ := mA ((by rw [hg]; exact Nat.ne_of_lt (blk_lt (g := Zda) (o := cQ25 t347 t348 t349 t350) Zdb.out) : Zda ≠ Zjs))
        have n21_ := mA ((by rw [hg]; exact Nat.ne_of_gt (blk_lt (g := Zda) (o := cQ25 t347 t348 t349 t350) Zdb.out) : Zjs ≠ Zda))
        have n22_ := mA ((by rw [hg]; exact Nat.ne_of_lt (blk_lt (g := Zen) (o := cQ25 t353 t354 t355 t356) Zep.out) : Zen ≠ Zjs))
        have n23_ := mA ((by rw [hg]; exact Nat.ne_of_gt (blk_lt (g := Zen) (o := cQ25 t353 t354 t355 t356) Zep.out) : Zjs ≠ Zen))
        have n24_ := mA ((by rw [hg]; exact Nat.ne_of_lt (blk_lt (g := Zfw) (o := cQ25 t359 t360 t361 t362) Zfx.out) : Zfw ≠ Zjs))
        have n25_ := mA ((by rw [hg]; exact Nat.ne_of_gt (blk_lt (g := Zfw) (o := cQ25 t359 t360 t361 t362) Zfx.out) : Zjs ≠ Zfw))
        have n26_ := mA ((by rw [hg]; exact Nat.ne_of_lt (blk_lt (g := Zia) (o := cQ25 t365 t366 t367 t368) Zib.out) : Zia ≠ Zjs))
        have n27_ := mA ((by rw [hg]; exact Nat.ne_of_gt (blk_lt (g := Zia) (o := cQ25 t365 t366 t367 t368) Zib.out) : Zjs ≠ Zia))
        clear Zb
        clear Zf
        clear Zm
        clear Zcb
        clear Zdb
        clear Zep
        clear Zfx
        clear Zib
        clear HB
        have Zb := n0_
        have Zf := n1_
        have Zm := n2_
        have Zcb := n3_
        have Zdb := n4_
        have Zep := n5_
        have Zfx := n6_
        have Zib := n7_
        have HB := n8_
        have Zjt := n9_
        have Zju := n10_
        have Zjv := n11_
        have Zjw := n12_
        have Zjx := n13_
        have Zjy := n14_
        have Zjz := n15_
        have Zka := n16_
        have Zkb := n17_
        have Zkc := n18_
        have Zkd := n19_
        have Zke := n20_
        have Zkf := n21_
        have Zkg := n22_
        have Zkh := n23_
        have Zki := n24_
        have Zkj := n25_
        have Zkk := n26_
        have Zkm := n27_
        clear n0_ n1_ n2_ n3_ n4_ n5_ n6_ n7_ n8_ n9_ n10_ n11_ n12_ n13_ n14_ n15_ n16_ n17_ n18_ n19_ n20_ n21_ n22_ n23_ n24_ n25_ n26_ n27_
        clear hb hbox hg
        refine hK.out _ _ ⟨(blk_cell Zb.out 0).trans rfl, (blk_cell Zb.out 1).trans rfl, (blk_cell Zb.out 2).trans rfl, (blk_cell Zb.out 3).trans rfl⟩ (fun hHeld => ?_)
        clear hK K
        refine norm_ (a' := ?_) ?_ ?_
        rotate_left
        · show Act.put _ (some 16) _ = _
          simp only [Act.put, List.setIfInBounds_toArray, List.set_cons_zero, List.set_cons_succ, i64_w, i32_w]
          rfl
        refine one_ (i := 2) (N := some 57) #[true, true, true, false, false, false, false, true, false, false] rfl rfl (one_of HT_.out (by kernel_rfl)) (by decide) (fun K hK => ?_)
        refine goes_ Try.func14 (by kernel_rfl) rfl #[.agg #[.int .i64 t326, .int .i64 t327, .int .i64 t328, .int .i64 t329]] (by rfl) rfl rfl (by (try simp only [List.map_toArray, List.map_cons, List.map_nil]); first | done | rfl | (simp only [List.length_drop, List.length_take]; rfl)) ?_
        with_reducible refine (impl_OctavesIn.calls k t326 t327 t328 t329 t375 _ A11.out).mono ?_
        rintro e w90 ⟨rfl, hb⟩
        refine ⟨_, rfl, ?_⟩
        have n0_ := mA (blk_below (g := Za) (o := cQ25 t326 t327 t328 t329) Zb.out hb)
        have n1_ := mA (blk_below (g := Ze) (o := cQ25 t330 t331 t332 t333) Zf.out hb)
        have n2_ := mA (blk_below (g := Zk) (o := cQ25 t334 t335 t336 t337) Zm.out hb)
        have n3_ := mA (blk_below (g := Zca) (o := cQ25 t341 t342 t343 t344) Zcb.out hb)
        have n4_ := mA (blk_below (g := Zda) (o := cQ25 t347 t348 t349 t350) Zdb.out hb)
        have n5_ := mA (blk_below (g := Zen) (o := cQ25 t353 t354 t355 t356) Zep.out hb)
        have n6_ := mA (blk_below (g := Zfw) (o := cQ25 t359 t360 t361 t362) Zfx.out hb)
        have n7_ := mA (blk_below (g := Zia) (o := cQ25 t365 t366 t367 t368) Zib.out hb)
        have n8_ := mA (blk_below (g := Zjs) (o := cQ25 0 0 0 0) Zjt.out hb)
        have n9_ := mA (below_step (by repeat (first | (with_reducible first | exact HB.out | apply below_alloc | apply pw_below_drewN | apply below_drew1 | refine below_set ?_ Zd.out | refine below_set ?_ Zh.out | refine below_set ?_ Zp.out | refine below_set ?_ Zcd.out | refine below_set ?_ Zdd.out | refine below_set ?_ Zer.out | refine below_set ?_ Zfz.out | refine below_set ?_ Zid.out | refine below_set ?_ Zjv.out) | exact HB.out)) hb)
        clear Zb
        clear Zf
        clear Zm
        clear Zcb
        clear Zdb
        clear Zep
        clear Zfx
        clear Zib
        clear Zjt
        clear HB
        have Zb := n0_
        have Zf := n1_
        have Zm := n2_
        have Zcb := n3_
        have Zdb := n4_
        have Zep := n5_
        have Zfx := n6_
        have Zib := n7_
        have Zjt := n8_
        have HB := n9_
        clear n0_ n1_ n2_ n3_ n4_ n5_ n6_ n7_ n8_ n9_
        (try clear hb)
        (try clear hb2)
        (try clear hk)
        (try clear hi)
        refine hK.out _ _ ⟨(blk_cell Zb.out 0).trans rfl, (blk_cell Zb.out 1).trans rfl, (blk_cell Zb.out 2).trans rfl, (blk_cell Zb.out 3).trans rfl⟩ (fun hHeld => ?_)
        clear hK K
        refine norm_ (a' := ?_) ?_ ?_
        rotate_left
        · show Act.put _ (some 57) _ = _
          simp only [Act.put, List.setIfInBounds_toArray, List.set_cons_zero, List.set_cons_succ, i64_w, i32_w]
          rfl
        refine one_ (i := 3) (N := some 58) #[true, true, true, true, false, false, false, true, false, false] rfl rfl (one_of HT_.out (by kernel_rfl)) (by decide) (fun K hK => ?_)
        refine goes_ Try.func29 (by kernel_rfl) rfl #[.agg #[.int .i64 t371, .int .i64 t372, .int .i64 t373, .int .i64 t374], .int .i64 t375] (by rfl) rfl rfl (by (try simp only [List.map_toArray, List.map_cons, List.map_nil]); first | done | rfl | (simp only [List.length_drop, List.length_take]; rfl)) ?_
        with_reducible refine (impl_TimesInterval.calls k t371 t372 t373 t374 t375 t376 t377 t378 t379 true _ A12.out).mono ?_
        rintro e w91 ⟨rfl, hb⟩
        refine ⟨_, rfl, ?_⟩
        have n0_ := mA (blk_below (g := Za) (o := cQ25 t326 t327 t328 t329) Zb.out hb)
        have n1_ := mA (blk_below (g := Ze) (o := cQ25 t330 t331 t332 t333) Zf.out hb)
        have n2_ := mA (blk_below (g := Zk) (o := cQ25 t334 t335 t336 t337) Zm.out hb)
        have n3_ := mA (blk_below (g := Zca) (o := cQ25 t341 t342 t343 t344) Zcb.out hb)
        have n4_ := mA (blk_below (g := Zda) (o := cQ25 t347 t348 t349 t350) Zdb.out hb)
        have n5_ := mA (blk_below (g := Zen) (o := cQ25 t353 t354 t355 t356) Zep.out hb)
        have n6_ := mA (blk_below (g := Zfw) (o := cQ25 t359 t360 t361 t362) Zfx.out hb)
        have n7_ := mA (blk_below (g := Zia) (o := cQ25 t365 t366 t367 t368) Zib.out hb)
        have n8_ := mA (blk_below (g := Zjs) (o := cQ25 0 0 0 0) Zjt.out hb)
        have n9_ := mA (below_step (by repeat (first | (with_reducible first | exact HB.out | apply below_alloc | apply pw_below_drewN | apply below_drew1 | refine below_set ?_ Zd.out | refine below_set ?_ Zh.out | refine below_set ?_ Zp.out | refine below_set ?_ Zcd.out | refine below_set ?_ Zdd.out | refine below_set ?_ Zer.out | refine below_set ?_ Zfz.out | refine below_set ?_ Zid.out | refine below_set ?_ Zjv.out) | exact HB.out)) hb)
        clear Zb
        clear Zf
        clear Zm
        clear Zcb
        clear Zdb
        clear Zep
        clear Zfx
        clear Zib
        clear Zjt
        clear HB
        have Zb := n0_
        have Zf := n1_
        have Zm := n2_
        have Zcb := n3_
        have Zdb := n4_
        have Zep := n5_
        have Zfx := n6_
        have Zib := n7_
        have Zjt := n8_
        have HB := n9_
        clear n0_ n1_ n2_ n3_ n4_ n5_ n6_ n7_ n8_ n9_
        (try clear hb)
        (try clear hb2)
        (try clear hk)
        (try clear hi)
        refine hK.out _ _ ⟨(blk_cell Zb.out 0).trans rfl, (blk_cell Zb.out 1).trans rfl, (blk_cell Zb.out 2).trans rfl, (blk_cell Zb.out 3).trans rfl⟩ (fun hHeld => ?_)
        clear hK K
        refine norm_ (a' := ?_) ?_ ?_
        rotate_left
        · show Act.put _ (some 58) _ = _
          simp only [Act.put, List.setIfInBounds_toArray, List.set_cons_zero, List.set_cons_succ, i64_w, i32_w]
          rfl
        refine pure_ (i := 4) (N := some 54) (v := ?_) (a' := ?_) #[true, true, true, true, true, false, false, true, false, false] rfl rfl (any_of HT_.out (by kernel_rfl)) (fun _ _ _ h => h) (Or.inl ⟨by rfl, ?_⟩) ?_ ?_
        rotate_left
        · intro w'
          go_simp
          with_reducible rfl
        rotate_left
        · simp only [Act.put, List.setIfInBounds_toArray, List.set_cons_zero, List.set_cons_succ, i64_w, i32_w]
          rfl
        refine pure_ (i := 5) (N := some 59) (v := ?_) (a' := ?_) #[true, true, true, true, true, true, false, true, false, false] rfl rfl (any_of HT_.out (by kernel_rfl)) (fun _ _ _ h => h) (Or.inl ⟨by rfl, ?_⟩) ?_ ?_
        rotate_left
        · intro w'
          go_simp
          with_reducible rfl
        rotate_left
        · simp only [Act.put, List.setIfInBounds_toArray, List.set_cons_zero, List.set_cons_succ, i64_w, i32_w]
          rfl
        refine pure_ (i := 6) (N := some 60) (v := ?_) (a' := ?_) #[true, true, true, true, true, true, true, true, false, false] rfl rfl (any_of HT_.out (by kernel_rfl)) (fun _ _ _ h => h) (Or.inl ⟨by rfl, ?_⟩) ?_ ?_
        rotate_left
        · intro w'
          go_simp
          with_reducible rfl
        rotate_left
        · simp only [Act.put, List.setIfInBounds_toArray, List.set_cons_zero, List.set_cons_succ, i64_w, i32_w]
          rfl
        exact norm_ (by simp only [putAll, Act.put, List.setIfInBounds_toArray, List.set_cons_zero, List.set_cons_succ]) (hCont (Zjs) _ ⟨hHeld, Zb.out, Zf.out, Zm.out, Zcb.out, Zdb.out, Zep.out, Zfx.out, Zib.out, Zjt.out, Zju.out, Zjv.out, Zjw.out, Zjx.out, Zjy.out, Zjz.out, Zka.out, Zkb.out, Zkc.out, Zkd.out, Zke.out, Zkf.out, Zkg.out, Zkh.out, Zki.out, Zkj.out, Zkk.out, Zkm.out, (by repeat (first | (with_reducible first | exact HB.out | apply below_alloc | apply pw_below_drewN | apply below_drew1 | refine below_set ?_ Zd.out | refine below_set ?_ Zh.out | refine below_set ?_ Zp.out | refine below_set ?_ Zcd.out | refine below_set ?_ Zdd.out | refine below_set ?_ Zer.out | refine below_set ?_ Zfz.out | refine below_set ?_ Zid.out | refine below_set ?_ Zjv.out) | exact HB.out))⟩)
    · skip
      refine box_step ?hg (N := 16) ?hd (cs := #[.int .i64 0, .int .i64 0, .int .i64 0, .int .i64 0]) (t := 25) ?hr ?_; (case hd => rfl); (case hg => rfl); (case hr => first | (go_simp; done) | (go_simp; rfl))
      intro Zjs hg w88 hbox hb
      have n0_ := mA (blk_below (g := Za) (o := cQ25 t326 t327 t328 t329) Zb.out hb)
      have n1_ := mA (blk_below (g := Ze) (o := cQ25 t330 t331 t332 t333) Zf.out hb)
      have n2_ := mA (blk_below (g := Zk) (o := cQ25 t334 t335 t336 t337) Zm.out hb)
      have n3_ := mA (blk_below (g := Zca) (o := cQ25 t341 t342 t343 t344) Zcb.out hb)
      have n4_ := mA (blk_below (g := Zda) (o := cQ25 t347 t348 t349 t350) Zdb.out hb)
      have n5_ := mA (blk_below (g := Zen) (o := cQ25 t353 t354 t355 t356) Zep.out hb)
      have n6_ := mA (blk_below (g := Zfw) (o := cQ25 t359 t360 t361 t362) Zfx.out hb)
      have n7_ := mA (blk_below (g := Zia) (o := cQ25 t365 t366 t367 t368) Zib.out hb)
      have n8_ := mA (below_step (by repeat (first | (with_reducible first | exact HB.out | apply below_alloc | apply pw_below_drewN | apply below_drew1 | refine below_set ?_ Zd.out | refine below_set ?_ Zh.out | refine below_set ?_ Zp.out | refine below_set ?_ Zcd.out | refine below_set ?_ Zdd.out | refine below_set ?_ Zer.out | refine below_set ?_ Zfz.out | refine below_set ?_ Zid.out) | exact HB.out)) hb)
      have n9_ := mA (hbox)
      have n10_ := mA ((by rw [hg]; exact (below_size (by repeat (first | (with_reducible first | exact HB.out | apply below_alloc | apply pw_below_drewN | apply below_drew1 | refine below_set ?_ Zd.out | refine below_set ?_ Zh.out | refine below_set ?_ Zp.out | refine below_set ?_ Zcd.out | refine below_set ?_ Zdd.out | refine below_set ?_ Zer.out | refine below_set ?_ Zfz.out | refine below_set ?_ Zid.out) | exact HB.out))) : w.heap.size ≤ Zjs))
      have n11_ := mA ((by rw [hg]; exact (below_size (by repeat (first | (with_reducible first | exact HB.out | apply below_alloc | apply pw_below_drewN | apply below_drew1 | refine below_set ?_ Zd.out | refine below_set ?_ Zh.out | refine below_set ?_ Zp.out | refine below_set ?_ Zcd.out | refine below_set ?_ Zdd.out | refine below_set ?_ Zer.out | refine below_set ?_ Zfz.out | refine below_set ?_ Zid.out) | exact HB.out))) : w.heap.size ≤ Zjs))
      have n12_ := mA ((by rw [hg]; exact Nat.ne_of_lt (blk_lt (g := Za) (o := cQ25 t326 t327 t328 t329) Zb.out) : Za ≠ Zjs))
      have n13_ := mA ((by rw [hg]; exact Nat.ne_of_gt (blk_lt (g := Za) (o := cQ25 t326 t327 t328 t329) Zb.out) : Zjs ≠ Za))
      have n14_ := mA ((by rw [hg]; exact Nat.ne_of_lt (blk_lt (g := Ze) (o := cQ25 t330 t331 t332 t333) Zf.out) : Ze ≠ Zjs))
      have n15_ := mA ((by rw [hg]; exact Nat.ne_of_gt (blk_lt (g := Ze) (o := cQ25 t330 t331 t332 t333) Zf.out) : Zjs ≠ Ze))
      have n16_ := mA ((by rw [hg]; exact Nat.ne_of_lt (blk_lt (g := Zk) (o := cQ25 t334 t335 t336 t337) Zm.out) : Zk ≠ Zjs))
      have n17_ := mA ((by rw [hg]; exact Nat.ne_of_gt (blk_lt (g := Zk) (o := cQ25 t334 t335 t336 t337) Zm.out) : Zjs ≠ Zk))
      have n18_ := mA ((by rw [hg]; exact Nat.ne_of_lt (blk_lt (g := Zca) (o := cQ25 t341 t342 t343 t344) Zcb.out) : Zca ≠ Zjs))
      have n19_ := mA ((by rw [hg]; exact Nat.ne_of_gt (blk_lt (g := Zca) (o := cQ25 t341 t342 t343 t344) Zcb.out) : Zjs ≠ Zca))
      have n20_ := mA ((by rw [hg]; exact Nat.ne_of_lt (blk_lt (g := Zda) (o := cQ25 t347 t348 t349 t350) Zdb.out) : Zda ≠ Zjs))
      have n21_ := mA ((by rw [hg]; exact Nat.ne_of_gt (blk_lt (g := Zda) (o := cQ25 t347 t348 t349 t350) Zdb.out) : Zjs ≠ Zda))
      have n22_ := mA ((by rw [hg]; exact Nat.ne_of_lt (blk_lt (g := Zen) (o := cQ25 t353 t354 t355 t356) Zep.out) : Zen ≠ Zjs))
      have n23_ := mA ((by rw [hg]; exact Nat.ne_of_gt (blk_lt (g := Zen) (o := cQ25 t353 t354 t355 t356) Zep.out) : Zjs ≠ Zen))
      have n24_ := mA ((by rw [hg]; exact Nat.ne_of_lt (blk_lt (g := Zfw) (o := cQ25 t359 t360 t361 t362) Zfx.out) : Zfw ≠ Zjs))
      have n25_ := mA ((by rw [hg]; exact Nat.ne_of_gt (blk_lt (g := Zfw) (o := cQ25 t359 t360 t361 t362) Zfx.out) : Zjs ≠ Zfw))
      have n26_ := mA ((by rw [hg]; exact Nat.ne_of_lt (blk_lt (g := Zia) (o := cQ25 t365 t366 t367 t368) Zib.out) : Zia ≠ Zjs))
      have n27_ := mA ((by rw [hg]; exact Nat.ne_of_gt (blk_lt (g := Zia) (o := cQ25 t365 t366 t367 t368) Zib.out) : Zjs ≠ Zia))
      clear Zb
      clear Zf
      clear Zm
      clear Zcb
      clear Zdb
      clear Zep
      clear Zfx
      clear Zib
      clear HB
      have Zb := n0_
      have Zf := n1_
      have Zm := n2_
      have Zcb := n3_
      have Zdb := n4_
      have Zep := n5_
      have Zfx := n6_
      have Zib := n7_
      have HB := n8_
      have Zjt := n9_
      have Zju := n10_
      have Zjv := n11_
      have Zjw := n12_
      have Zjx := n13_
      have Zjy := n14_
      have Zjz := n15_
      have Zka := n16_
      have Zkb := n17_
      have Zkc := n18_
      have Zkd := n19_
      have Zke := n20_
      have Zkf := n21_
      have Zkg := n22_
      have Zkh := n23_
      have Zki := n24_
      have Zkj := n25_
      have Zkk := n26_
      have Zkm := n27_
      clear n0_ n1_ n2_ n3_ n4_ n5_ n6_ n7_ n8_ n9_ n10_ n11_ n12_ n13_ n14_ n15_ n16_ n17_ n18_ n19_ n20_ n21_ n22_ n23_ n24_ n25_ n26_ n27_
      clear hb hbox hg
      refine hK.out _ _ ⟨(blk_cell Zb.out 0).trans rfl, (blk_cell Zb.out 1).trans rfl, (blk_cell Zb.out 2).trans rfl, (blk_cell Zb.out 3).trans rfl⟩ (fun hHeld => ?_)
      clear hK K
      refine norm_ (a' := ?_) ?_ ?_
      rotate_left
      · show Act.put _ (some 16) _ = _
        simp only [Act.put, List.setIfInBounds_toArray, List.set_cons_zero, List.set_cons_succ, i64_w, i32_w]
        rfl
      refine one_ (i := 0) (N := some 55) #[true, true, false, false, false, false, false, true, false, false] rfl rfl (one_of HT_.out (by kernel_rfl)) (by decide) (fun K hK => ?_)
      refine goes_ Try.func25 (by kernel_rfl) rfl #[.int .i64 1, .int .i64 0, .int .i64 0] (by rfl) rfl rfl (by (try simp only [List.map_toArray, List.map_cons, List.map_nil]); first | done | rfl | (simp only [List.length_drop, List.length_take]; rfl)) ?_
      with_reducible refine (impl_PureOf.calls 1 0 0 t371 t372 t373 t374 _ A10.out).mono ?_
      rintro e w89 ⟨rfl, hb⟩
      refine ⟨_, rfl, ?_⟩
      have n0_ := mA (blk_below (g := Za) (o := cQ25 t326 t327 t328 t329) Zb.out hb)
      have n1_ := mA (blk_below (g := Ze) (o := cQ25 t330 t331 t332 t333) Zf.out hb)
      have n2_ := mA (blk_below (g := Zk) (o := cQ25 t334 t335 t336 t337) Zm.out hb)
      have n3_ := mA (blk_below (g := Zca) (o := cQ25 t341 t342 t343 t344) Zcb.out hb)
      have n4_ := mA (blk_below (g := Zda) (o := cQ25 t347 t348 t349 t350) Zdb.out hb)
      have n5_ := mA (blk_below (g := Zen) (o := cQ25 t353 t354 t355 t356) Zep.out hb)
      have n6_ := mA (blk_below (g := Zfw) (o := cQ25 t359 t360 t361 t362) Zfx.out hb)
      have n7_ := mA (blk_below (g := Zia) (o := cQ25 t365 t366 t367 t368) Zib.out hb)
      have n8_ := mA (blk_below (g := Zjs) (o := cQ25 0 0 0 0) Zjt.out hb)
      have n9_ := mA (below_step (by repeat (first | (with_reducible first | exact HB.out | apply below_alloc | apply pw_below_drewN | apply below_drew1 | refine below_set ?_ Zd.out | refine below_set ?_ Zh.out | refine below_set ?_ Zp.out | refine below_set ?_ Zcd.out | refine below_set ?_ Zdd.out | refine below_set ?_ Zer.out | refine below_set ?_ Zfz.out | refine below_set ?_ Zid.out | refine below_set ?_ Zjv.out) | exact HB.out)) hb)
      clear Zb
      clear Zf
      clear Zm
      clear Zcb
      clear Zdb
      clear Zep
      clear Zfx
      clear Zib
      clear Zjt
      clear HB
      have Zb := n0_
      have Zf := n1_
      have Zm := n2_
      have Zcb := n3_
      have Zdb := n4_
      have Zep := n5_
      have Zfx := n6_
      have Zib := n7_
      have Zjt := n8_
      have HB := n9_
      clear n0_ n1_ n2_ n3_ n4_ n5_ n6_ n7_ n8_ n9_
      (try clear hb)
      (try clear hb2)
      (try clear hk)
      (try clear hi)
      refine hK.out _ _ ⟨(blk_cell Zb.out 0).trans rfl, (blk_cell Zb.out 1).trans rfl, (blk_cell Zb.out 2).trans rfl, (blk_cell Zb.out 3).trans rfl⟩ (fun hHeld => ?_)
      clear hK K
      refine norm_ (a' := ?_) ?_ ?_
      rotate_left
      · show Act.put _ (some 55) _ = _
        simp only [Act.put, List.setIfInBounds_toArray, List.set_cons_zero, List.set_cons_succ, i64_w, i32_w]
        rfl
      refine one_ (i := 2) (N := some 57) #[true, true, true, false, false, false, false, true, false, false] rfl rfl (one_of HT_.out (by kernel_rfl)) (by decide) (fun K hK => ?_)
      refine goes_ Try.func14 (by kernel_rfl) rfl #[.agg #[.int .i64 t326, .int .i64 t327, .int .i64 t328, .int .i64 t329]] (by rfl) rfl rfl (by (try simp only [List.map_toArray, List.map_cons, List.map_nil]); first | done | rfl | (simp only [List.length_drop, List.length_take]; rfl)) ?_
      with_reducible refine (impl_OctavesIn.calls k t326 t327 t328 t329 t375 _ A11.out).mono ?_
      rintro e w90 ⟨rfl, hb⟩
      refine ⟨_, rfl, ?_⟩
      have n0_ := mA (blk_below (g := Za) (o := cQ25 t326 t327 t328 t329) Zb.out hb)
      have n1_ := mA (blk_below (g := Ze) (o := cQ25 t330 t331 t332 t333) Zf.out hb)
      have n2_ := mA (blk_below (g := Zk) (o := cQ25 t334 t335 t336 t337) Zm.out hb)
      have n3_ := mA (blk_below (g := Zca) (o := cQ25 t341 t342 t343 t344) Zcb.out hb)
      have n4_ := mA (blk_below (g := Zda) (o := cQ25 t347 t348 t349 t350) Zdb.out hb)
      have n5_ := mA (blk_below (g := Zen) (o := cQ25 t353 t354 t355 t356) Zep.out hb)
      have n6_ := mA (blk_below (g := Zfw) (o := cQ25 t359 t360 t361 t362) Zfx.out hb)
      have n7_ := mA (blk_below (g := Zia) (o := cQ25 t365 t366 t367 t368) Zib.out hb)
      have n8_ := mA (blk_below (g := Zjs) (o := cQ25 0 0 0 0) Zjt.out hb)
      have n9_ := mA (below_step (by repeat (first | (with_reducible first | exact HB.out | apply below_alloc | apply pw_below_drewN | apply below_drew1 | refine below_set ?_ Zd.out | refine below_set ?_ Zh.out | refine below_set ?_ Zp.out | refine below_set ?_ Zcd.out | refine below_set ?_ Zdd.out | refine below_set ?_ Zer.out | refine below_set ?_ Zfz.out | refine below_set ?_ Zid.out | refine below_set ?_ Zjv.out) | exact HB.out)) hb)
      clear Zb
      clear Zf
      clear Zm
      clear Zcb
      clear Zdb
      clear Zep
      clear Zfx
      clear Zib
      clear Zjt
      clear HB
      have Zb := n0_
      have Zf := n1_
      have Zm := n2_
      have Zcb := n3_
      have Zdb := n4_
      have Zep := n5_
      have Zfx := n6_
      have Zib := n7_
      have Zjt := n8_
      have HB := n9_
      clear n0_ n1_ n2_ n3_ n4_ n5_ n6_ n7_ n8_ n9_
      (try clear hb)
      (try clear hb2)
      (try clear hk)
      (try clear hi)
      refine hK.out _ _ ⟨(blk_cell Zb.out 0).trans rfl, (blk_cell Zb.out 1).trans rfl, (blk_cell Zb.out 2).trans rfl, (blk_cell Zb.out 3).trans rfl⟩ (fun hHeld => ?_)
      clear hK K
      refine norm_ (a' := ?_) ?_ ?_
      rotate_left
      · show Act.put _ (some 57) _ = _
        simp only [Act.put, List.setIfInBounds_toArray, List.set_cons_zero, List.set_cons_succ, i64_w, i32_w]
        rfl
      refine one_ (i := 3) (N := some 58) #[true, true, true, true, false, false, false, true, false, false] rfl rfl (one_of HT_.out (by kernel_rfl)) (by decide) (fun K hK => ?_)
      refine goes_ Try.func29 (by kernel_rfl) rfl #[.agg #[.int .i64 t371, .int .i64 t372, .int .i64 t373, .int .i64 t374], .int .i64 t375] (by rfl) rfl rfl (by (try simp only [List.map_toArray, List.map_cons, List.map_nil]); first | done | rfl | (simp only [List.length_drop, List.length_take]; rfl)) ?_
      with_reducible refine (impl_TimesInterval.calls k t371 t372 t373 t374 t375 t376 t377 t378 t379 true _ A12.out).mono ?_
      rintro e w91 ⟨rfl, hb⟩
      refine ⟨_, rfl, ?_⟩
      have n0_ := mA (blk_below (g := Za) (o := cQ25 t326 t327 t328 t329) Zb.out hb)
      have n1_ := mA (blk_below (g := Ze) (o := cQ25 t330 t331 t332 t333) Zf.out hb)
      have n2_ := mA (blk_below (g := Zk) (o := cQ25 t334 t335 t336 t337) Zm.out hb)
      have n3_ := mA (blk_below (g := Zca) (o := cQ25 t341 t342 t343 t344) Zcb.out hb)
      have n4_ := mA (blk_below (g := Zda) (o := cQ25 t347 t348 t349 t350) Zdb.out hb)
      have n5_ := mA (blk_below (g := Zen) (o := cQ25 t353 t354 t355 t356) Zep.out hb)
      have n6_ := mA (blk_below (g := Zfw) (o := cQ25 t359 t360 t361 t362) Zfx.out hb)
      have n7_ := mA (blk_below (g := Zia) (o := cQ25 t365 t366 t367 t368) Zib.out hb)
      have n8_ := mA (blk_below (g := Zjs) (o := cQ25 0 0 0 0) Zjt.out hb)
      have n9_ := mA (below_step (by repeat (first | (with_reducible first | exact HB.out | apply below_alloc | apply pw_below_drewN | apply below_drew1 | refine below_set ?_ Zd.out | refine below_set ?_ Zh.out | refine below_set ?_ Zp.out | refine below_set ?_ Zcd.out | refine below_set ?_ Zdd.out | refine below_set ?_ Zer.out | refine below_set ?_ Zfz.out | refine below_set ?_ Zid.out | refine below_set ?_ Zjv.out) | exact HB.out)) hb)
      clear Zb
      clear Zf
      clear Zm
      clear Zcb
      clear Zdb
      clear Zep
      clear Zfx
      clear Zib
      clear Zjt
      clear HB
      have Zb := n0_
      have Zf := n1_
      have Zm := n2_
      have Zcb := n3_
      have Zdb := n4_
      have Zep := n5_
      have Zfx := n6_
      have Zib := n7_
      have Zjt := n8_
      have HB := n9_
      clear n0_ n1_ n2_ n3_ n4_ n5_ n6_ n7_ n8_ n9_
      (try clear hb)
      (try clear hb2)
      (try clear hk)
      (try clear hi)
      refine hK.out _ _ ⟨(blk_cell Zb.out 0).trans rfl, (blk_cell Zb.out 1).trans rfl, (blk_cell Zb.out 2).trans rfl, (blk_cell Zb.out 3).trans rfl⟩ (fun hHeld => ?_)
      clear hK K
      refine norm_ (a' := ?_) ?_ ?_
      rotate_left
      · show Act.put _ (some 58) _ = _
        simp only [Act.put, List.setIfInBounds_toArray, List.set_cons_zero, List.set_cons_succ, i64_w, i32_w]
        rfl
      refine pure_ (i := 4) (N := some 54) (v := ?_) (a' := ?_) #[true, true, true, true, true, false, false, true, false, false] rfl rfl (any_of HT_.out (by kernel_rfl)) (fun _ _ _ h => h) (Or.inl ⟨by rfl, ?_⟩) ?_ ?_
      rotate_left
      · intro w'
        go_simp
        with_reducible rfl
      rotate_left
      · simp only [Act.put, List.setIfInBounds_toArray, List.set_cons_zero, List.set_cons_succ, i64_w, i32_w]
        rfl
      refine pure_ (i := 5) (N := some 59) (v := ?_) (a' := ?_) #[true, true, true, true, true, true, false, true, false, false] rfl rfl (any_of HT_.out (by kernel_rfl)) (fun _ _ _ h => h) (Or.inl ⟨by rfl, ?_⟩) ?_ ?_
      rotate_left
      · intro w'
        go_simp
        with_reducible rfl
      rotate_left
      · simp only [Act.put, List.setIfInBounds_toArray, List.set_cons_zero, List.set_cons_succ, i64_w, i32_w]
        rfl
      refine pure_ (i := 6) (N := some 60) (v := ?_) (a' := ?_) #[true, true, true, true, true, true, true, true, false, false] rfl rfl (any_of HT_.out (by kernel_rfl)) (fun _ _ _ h => h) (Or.inl ⟨by rfl, ?_⟩) ?_ ?_
      rotate_left
      · intro w'
        go_simp
        with_reducible rfl
      rotate_left
      · simp only [Act.put, List.setIfInBounds_toArray, List.set_cons_zero, List.set_cons_succ, i64_w, i32_w]
        rfl
      exact norm_ (by simp only [putAll, Act.put, List.setIfInBounds_toArray, List.set_cons_zero, List.set_cons_succ]) (hCont (Zjs) _ ⟨hHeld, Zb.out, Zf.out, Zm.out, Zcb.out, Zdb.out, Zep.out, Zfx.out, Zib.out, Zjt.out, Zju.out, Zjv.out, Zjw.out, Zjx.out, Zjy.out, Zjz.out, Zka.out, Zkb.out, Zkc.out, Zkd.out, Zke.out, Zkf.out, Zkg.out, Zkh.out, Zki.out, Zkj.out, Zkk.out, Zkm.out, (by repeat (first | (with_reducible first | exact HB.out | apply below_alloc | apply pw_below_drewN | apply below_drew1 | refine below_set ?_ Zd.out | refine below_set ?_ Zh.out | refine below_set ?_ Zp.out | refine below_set ?_ Zcd.out | refine below_set ?_ Zdd.out | refine below_set ?_ Zer.out | refine below_set ?_ Zfz.out | refine below_set ?_ Zid.out | refine below_set ?_ Zjv.out) | exact HB.out))⟩)
  rintro Zjs w92 ⟨hS_, h0_, h1_, h2_, h3_, h4_, h5_, h6_, h7_, h8_, h9_, h10_, h11_, h12_, h13_, h14_, h15_, h16_, h17_, h18_, h19_, h20_, h21_, h22_, h23_, h24_, h25_, h26_, h27_⟩
  have n0_ : Aside0 (w92.heap[Za]? = some (.cells #[.int .i64 t326, .int .i64 t327, .int .i64 t328, .int .i64 t329] 25 (0, 0))) := ⟨h0_⟩
  have n1_ : Aside0 (w92.heap[Ze]? = some (.cells #[.int .i64 t330, .int .i64 t331, .int .i64 t332, .int .i64 t333] 25 (0, 0))) := ⟨h1_⟩
  have n2_ : Aside0 (w92.heap[Zk]? = some (.cells #[.int .i64 t334, .int .i64 t335, .int .i64 t336, .int .i64 t337] 25 (0, 0))) := ⟨h2_⟩
  have n3_ : Aside0 (w92.heap[Zca]? = some (.cells #[.int .i64 t341, .int .i64 t342, .int .i64 t343, .int .i64 t344] 25 (0, 0))) := ⟨h3_⟩
  have n4_ : Aside0 (w92.heap[Zda]? = some (.cells #[.int .i64 t347, .int .i64 t348, .int .i64 t349, .int .i64 t350] 25 (0, 0))) := ⟨h4_⟩
  have n5_ : Aside0 (w92.heap[Zen]? = some (.cells #[.int .i64 t353, .int .i64 t354, .int .i64 t355, .int .i64 t356] 25 (0, 0))) := ⟨h5_⟩
  have n6_ : Aside0 (w92.heap[Zfw]? = some (.cells #[.int .i64 t359, .int .i64 t360, .int .i64 t361, .int .i64 t362] 25 (0, 0))) := ⟨h6_⟩
  have n7_ : Aside0 (w92.heap[Zia]? = some (.cells #[.int .i64 t365, .int .i64 t366, .int .i64 t367, .int .i64 t368] 25 (0, 0))) := ⟨h7_⟩
  have n8_ : Aside0 (w92.heap[Zjs]? = some (.cells #[.int .i64 0, .int .i64 0, .int .i64 0, .int .i64 0] 25 (0, 0))) := ⟨h8_⟩
  have n9_ : Aside0 (w.heap.size ≤ Zjs) := ⟨h9_⟩
  have n10_ : Aside0 (w.heap.size ≤ Zjs) := ⟨h10_⟩
  have n11_ : Aside0 (Za ≠ Zjs) := ⟨h11_⟩
  have n12_ : Aside0 (Zjs ≠ Za) := ⟨h12_⟩
  have n13_ : Aside0 (Ze ≠ Zjs) := ⟨h13_⟩
  have n14_ : Aside0 (Zjs ≠ Ze) := ⟨h14_⟩
  have n15_ : Aside0 (Zk ≠ Zjs) := ⟨h15_⟩
  have n16_ : Aside0 (Zjs ≠ Zk) := ⟨h16_⟩
  have n17_ : Aside0 (Zca ≠ Zjs) := ⟨h17_⟩
  have n18_ : Aside0 (Zjs ≠ Zca) := ⟨h18_⟩
  have n19_ : Aside0 (Zda ≠ Zjs) := ⟨h19_⟩
  have n20_ : Aside0 (Zjs ≠ Zda) := ⟨h20_⟩
  have n21_ : Aside0 (Zen ≠ Zjs) := ⟨h21_⟩
  have n22_ : Aside0 (Zjs ≠ Zen) := ⟨h22_⟩
  have n23_ : Aside0 (Zfw ≠ Zjs) := ⟨h23_⟩
  have n24_ : Aside0 (Zjs ≠ Zfw) := ⟨h24_⟩
  have n25_ : Aside0 (Zia ≠ Zjs) := ⟨h25_⟩
  have n26_ : Aside0 (Zjs ≠ Zia) := ⟨h26_⟩
  have n27_ : Aside0 (Below w.heap.size w w92) := ⟨h27_⟩
  clear Zb
  clear Zf
  clear Zm
  clear Zcb
  clear Zdb
  clear Zep
  clear Zfx
  clear Zib
  clear HB
  clear h0_ h1_ h2_ h3_ h4_ h5_ h6_ h7_ h8_ h9_ h10_ h11_ h12_ h13_ h14_ h15_ h16_ h17_ h18_ h19_ h20_ h21_ h22_ h23_ h24_ h25_ h26_ h27_
  have Zb := n0_
  have Zf := n1_
  have Zm := n2_
  have Zcb := n3_
  have Zdb := n4_
  have Zep := n5_
  have Zfx := n6_
  have Zib := n7_
  have Zjt := n8_
  have Zju := n9_
  have Zjv := n10_
  have Zjw := n11_
  have Zjx := n12_
  have Zjy := n13_
  have Zjz := n14_
  have Zka := n15_
  have Zkb := n16_
  have Zkc := n17_
  have Zkd := n18_
  have Zke := n19_
  have Zkf := n20_
  have Zkg := n21_
  have Zkh := n22_
  have Zki := n23_
  have Zkj := n24_
  have Zkk := n25_
  have Zkm := n26_
  have HB := n27_
  clear n0_ n1_ n2_ n3_ n4_ n5_ n6_ n7_ n8_ n9_ n10_ n11_ n12_ n13_ n14_ n15_ n16_ n17_ n18_ n19_ n20_ n21_ n22_ n23_ n24_ n25_ n26_ n27_
  have hHeld : w92.cell? ⟨Za, 0, none⟩ = some (.int .i64 t326) ∧ w92.cell? ⟨Za, 1, none⟩ = some (.int .i64 t327) ∧ w92.cell? ⟨Za, 2, none⟩ = some (.int .i64 t328) ∧ w92.cell? ⟨Za, 3, none⟩ = some (.int .i64 t329) := hS_
  refine norm_ (a' := ?_) ?_ ?_
  rotate_left
  · simp only [putAll, Act.put, List.setIfInBounds_toArray, List.set_cons_zero, List.set_cons_succ]
    rfl
  refine one_ (i := 8) (N := none) #[true, true, true, true, true, true, true, true, true, false] rfl rfl (one_of HT_.out (by kernel_rfl)) (by decide) (fun K hK => ?_)
  have hs93 : w92.cell? ⟨Zjs, 0, none⟩ = some (.int .i64 0) := (blk_cell Zjt.out 0).trans rfl
  have hfs93 := blk_frozen Zjt.out 0
  have Zkn := Zjw.out
  have Zkp := Zjy.out
  have Zkq := Zka.out
  have Zkr := Zkc.out
  have Zks := Zke.out
  have Zkt := Zkg.out
  have Zku := Zki.out
  have Zkv := Zkk.out
  have Zkw := Zjx.out
  have Zkx := Zjz.out
  have Zky := Zkb.out
  have Zkz := Zkd.out
  have Zma := Zkf.out
  have Zmb := Zkh.out
  have Zmc := Zkj.out
  have Zmd := Zkm.out
  have hs94 : w92.cell? ⟨Zjs, 1, none⟩ = some (.int .i64 0) := (blk_cell Zjt.out 1).trans rfl
  have hfs94 := blk_frozen Zjt.out 1
  have Zme := Zjw.out
  have Zmf := Zjy.out
  have Zmg := Zka.out
  have Zmh := Zkc.out
  have Zmi := Zke.out
  have Zmj := Zkg.out
  have Zmk := Zki.out
  have Zmm := Zkk.out
  have Zmn := Zjx.out
  have Zmp := Zjz.out
  have Zmq := Zkb.out
  have Zmr := Zkd.out
  have Zms := Zkf.out
  have Zmt := Zkh.out
  have Zmu := Zkj.out
  have Zmv := Zkm.out
  have hs95 : w92.cell? ⟨Zjs, 2, none⟩ = some (.int .i64 0) := (blk_cell Zjt.out 2).trans rfl
  have hfs95 := blk_frozen Zjt.out 2
  have Zmw := Zjw.out
  have Zmx := Zjy.out
  have Zmy := Zka.out
  have Zmz := Zkc.out
  have Zna := Zke.out
  have Znb := Zkg.out
  have Znc := Zki.out
  have Znd := Zkk.out
  have Zne := Zjx.out
  have Znf := Zjz.out
  have Zng := Zkb.out
  have Znh := Zkd.out
  have Zni := Zkf.out
  have Znj := Zkh.out
  have Znk := Zkj.out
  have Znm := Zkm.out
  have hs96 : w92.cell? ⟨Zjs, 3, none⟩ = some (.int .i64 0) := (blk_cell Zjt.out 3).trans rfl
  have hfs96 := blk_frozen Zjt.out 3
  have Znn := Zjw.out
  have Znp := Zjy.out
  have Znq := Zka.out
  have Znr := Zkc.out
  have Zns := Zke.out
  have Znt := Zkg.out
  have Znu := Zki.out
  have Znv := Zkk.out
  have Znw := Zjx.out
  have Znx := Zjz.out
  have Zny := Zkb.out
  have Znz := Zkd.out
  have Zpa := Zkf.out
  have Zpb := Zkh.out
  have Zpc := Zkj.out
  have Zpd := Zkm.out
  refine skip_ (w1 := ?_) (by rfl) rfl ?_ ?_
  rotate_left
  · go_simp
    rfl
  refine hK.out _ _ ⟨((cell_far (p := ⟨Zjs, _, none⟩) Zjw.out _).trans (((cell_far (p := ⟨Zjs, _, none⟩) Zjw.out _).trans (((cell_far (p := ⟨Zjs, _, none⟩) Zjw.out _).trans (((cell_far (p := ⟨Zjs, _, none⟩) Zjw.out _).trans (hHeld.1)))))))), ((cell_far (p := ⟨Zjs, _, none⟩) Zjw.out _).trans (((cell_far (p := ⟨Zjs, _, none⟩) Zjw.out _).trans (((cell_far (p := ⟨Zjs, _, none⟩) Zjw.out _).trans (((cell_far (p := ⟨Zjs, _, none⟩) Zjw.out _).trans (hHeld.2.1)))))))), ((cell_far (p := ⟨Zjs, _, none⟩) Zjw.out _).trans (((cell_far (p := ⟨Zjs, _, none⟩) Zjw.out _).trans (((cell_far (p := ⟨Zjs, _, none⟩) Zjw.out _).trans (((cell_far (p := ⟨Zjs, _, none⟩) Zjw.out _).trans (hHeld.2.2.1)))))))), ((cell_far (p := ⟨Zjs, _, none⟩) Zjw.out _).trans (((cell_far (p := ⟨Zjs, _, none⟩) Zjw.out _).trans (((cell_far (p := ⟨Zjs, _, none⟩) Zjw.out _).trans (((cell_far (p := ⟨Zjs, _, none⟩) Zjw.out _).trans (hHeld.2.2.2))))))))⟩ (fun hHeld => ?_)
  clear hK K
  refine pure_ (i := 9) (N := some 17) (v := ?_) (a' := ?_) #[true, true, true, true, true, true, true, true, true, true] rfl rfl (any_of HT_.out (by kernel_rfl)) (fun _ _ _ h => h) (Or.inl ⟨by rfl, ?_⟩) ?_ ?_
  rotate_left
  · intro w'
    go_simp
    with_reducible rfl
  rotate_left
  · simp only [Act.put, List.setIfInBounds_toArray, List.set_cons_zero, List.set_cons_succ, i64_w, i32_w]
    rfl
  refine done_ (done_of HT_.out (by kernel_rfl)) ?_
  have Zpe := Zkc.out
  have Zpf := Zkd.out
  have Zpg : w92.cell? ⟨Zca, 0, none⟩ = some (.int .i64 t341) := (blk_cell Zcb.out 0).trans rfl
  have Zph : w92.cell? ⟨Zca, 1, none⟩ = some (.int .i64 t342) := (blk_cell Zcb.out 1).trans rfl
  have Zpi : w92.cell? ⟨Zca, 2, none⟩ = some (.int .i64 t343) := (blk_cell Zcb.out 2).trans rfl
  have Zpj : w92.cell? ⟨Zca, 3, none⟩ = some (.int .i64 t344) := (blk_cell Zcb.out 3).trans rfl
  have Zpk := blk_frozen Zcb.out 0
  have Zpm := blk_frozen Zcb.out 1
  have Zpn := blk_frozen Zcb.out 2
  have Zpp := blk_frozen Zcb.out 3
  have Zpq := Zjx.out
  have Zpr := Zjw.out
  have Zps := Zjz.out
  have Zpt := Zjy.out
  have Zpu := Zkb.out
  have Zpv := Zka.out
  have Zpw := Zkf.out
  have Zpx := Zke.out
  have Zpy := Zkh.out
  have Zpz := Zkg.out
  have Zqa := Zkj.out
  have Zqb := Zki.out
  have Zqc := Zkm.out
  have Zqd := Zkk.out
  have Zqe : w92.cell? ⟨Zjs, 0, none⟩ = some (.int .i64 0) := (blk_cell Zjt.out 0).trans rfl
  have Zqf : w92.cell? ⟨Zjs, 1, none⟩ = some (.int .i64 0) := (blk_cell Zjt.out 1).trans rfl
  have Zqg : w92.cell? ⟨Zjs, 2, none⟩ = some (.int .i64 0) := (blk_cell Zjt.out 2).trans rfl
  have Zqh : w92.cell? ⟨Zjs, 3, none⟩ = some (.int .i64 0) := (blk_cell Zjt.out 3).trans rfl
  have Zqi := blk_frozen Zjt.out 0
  have Zqj := blk_frozen Zjt.out 1
  have Zqk := blk_frozen Zjt.out 2
  have Zqm := blk_frozen Zjt.out 3
  try go_wp2_with (first | ((with_reducible refine gate_callee (f := 24) rfl ?_); refine goesL_ (some 64) rfl rfl Try.func24 (by kernel_rfl) rfl #[.agg #[.int .i64 t341, .int .i64 t342, .int .i64 t343, .int .i64 t344], .agg #[.int .i64 t376, .int .i64 t377, .int .i64 t378, .int .i64 t379]] rfl (by (try simp only [List.map_toArray, List.map_cons, List.map_nil]); first | done | rfl | (simp only [List.length_drop, List.length_take]; rfl)) ?_; (with_reducible refine (impl_AddIntervals.calls k t341 t342 t343 t344 t376 t377 t378 t379 t382 t383 t384 t385 true _ A13.out).mono ?_); rintro e w107 ⟨rfl, hb⟩; refine ⟨_, rfl, ?_⟩; have n0_ := mA (blk_below (g := Za) (o := cQ25 t326 t327 t328 t329) (by (with_reducible repeat (first | refine blk_drewN ?_ _ | refine blk_drew ?_ | refine blk_alloc ?_ _)); refine blk_far ?_ Zjw.out _; (with_reducible repeat (first | refine blk_drewN ?_ _ | refine blk_drew ?_ | refine blk_alloc ?_ _)); refine blk_far ?_ Zjw.out _; (with_reducible repeat (first | refine blk_drewN ?_ _ | refine blk_drew ?_ | refine blk_alloc ?_ _)); refine blk_far ?_ Zjw.out _; (with_reducible repeat (first | refine blk_drewN ?_ _ | refine blk_drew ?_ | refine blk_alloc ?_ _)); refine blk_far ?_ Zjw.out _; (with_reducible repeat (first | refine blk_drewN ?_ _ | refine blk_drew ?_ | refine blk_alloc ?_ _)); exact Zb.out) hb); have n1_ := mA (blk_below (g := Ze) (o := cQ25 t330 t331 t332 t333) (by (with_reducible repeat (first | refine blk_drewN ?_ _ | refine blk_drew ?_ | refine blk_alloc ?_ _)); refine blk_far ?_ Zjy.out _; (with_reducible repeat (first | refine blk_drewN ?_ _ | refine blk_drew ?_ | refine blk_alloc ?_ _)); refine blk_far ?_ Zjy.out _; (with_reducible repeat (first | refine blk_drewN ?_ _ | refine blk_drew ?_ | refine blk_alloc ?_ _)); refine blk_far ?_ Zjy.out _; (with_reducible repeat (first | refine blk_drewN ?_ _ | refine blk_drew ?_ | refine blk_alloc ?_ _)); refine blk_far ?_ Zjy.out _; (with_reducible repeat (first | refine blk_drewN ?_ _ | refine blk_drew ?_ | refine blk_alloc ?_ _)); exact Zf.out) hb); have n2_ := mA (blk_below (g := Zk) (o := cQ25 t334 t335 t336 t337) (by (with_reducible repeat (first | refine blk_drewN ?_ _ | refine blk_drew ?_ | refine blk_alloc ?_ _)); refine blk_far ?_ Zka.out _; (with_reducible repeat (first | refine blk_drewN ?_ _ | refine blk_drew ?_ | refine blk_alloc ?_ _)); refine blk_far ?_ Zka.out _; (with_reducible repeat (first | refine blk_drewN ?_ _ | refine blk_drew ?_ | refine blk_alloc ?_ _)); refine blk_far ?_ Zka.out _; (with_reducible repeat (first | refine blk_drewN ?_ _ | refine blk_drew ?_ | refine blk_alloc ?_ _)); refine blk_far ?_ Zka.out _; (with_reducible repeat (first | refine blk_drewN ?_ _ | refine blk_drew ?_ | refine blk_alloc ?_ _)); exact Zm.out) hb); have n3_ := mA (blk_below (g := Zca) (o := cQ25 t341 t342 t343 t344) (by (with_reducible repeat (first | refine blk_drewN ?_ _ | refine blk_drew ?_ | refine blk_alloc ?_ _)); refine blk_far ?_ Zkc.out _; (with_reducible repeat (first | refine blk_drewN ?_ _ | refine blk_drew ?_ | refine blk_alloc ?_ _)); refine blk_far ?_ Zkc.out _; (with_reducible repeat (first | refine blk_drewN ?_ _ | refine blk_drew ?_ | refine blk_alloc ?_ _)); refine blk_far ?_ Zkc.out _; (with_reducible repeat (first | refine blk_drewN ?_ _ | refine blk_drew ?_ | refine blk_alloc ?_ _)); refine blk_far ?_ Zkc.out _; (with_reducible repeat (first | refine blk_drewN ?_ _ | refine blk_drew ?_ | refine blk_alloc ?_ _)); exact Zcb.out) hb); have n4_ := mA (blk_below (g := Zda) (o := cQ25 t347 t348 t349 t350) (by (with_reducible repeat (first | refine blk_drewN ?_ _ | refine blk_drew ?_ | refine blk_alloc ?_ _)); refine blk_far ?_ Zke.out _; (with_reducible repeat (first | refine blk_drewN ?_ _ | refine blk_drew ?_ | refine blk_alloc ?_ _)); refine blk_far ?_ Zke.out _; (with_reducible repeat (first | refine blk_drewN ?_ _ | refine blk_drew ?_ | refine blk_alloc ?_ _)); refine blk_far ?_ Zke.out _; (with_reducible repeat (first | refine blk_drewN ?_ _ | refine blk_drew ?_ | refine blk_alloc ?_ _)); refine blk_far ?_ Zke.out _; (with_reducible repeat (first | refine blk_drewN ?_ _ | refine blk_drew ?_ | refine blk_alloc ?_ _)); exact Zdb.out) hb); have n5_ := mA (blk_below (g := Zen) (o := cQ25 t353 t354 t355 t356) (by (with_reducible repeat (first | refine blk_drewN ?_ _ | refine blk_drew ?_ | refine blk_alloc ?_ _)); refine blk_far ?_ Zkg.out _; (with_reducible repeat (first | refine blk_drewN ?_ _ | refine blk_drew ?_ | refine blk_alloc ?_ _)); refine blk_far ?_ Zkg.out _; (with_reducible repeat (first | refine blk_drewN ?_ _ | refine blk_drew ?_ | refine blk_alloc ?_ _)); refine blk_far ?_ Zkg.out _; (with_reducible repeat (first | refine blk_drewN ?_ _ | refine blk_drew ?_ | refine blk_alloc ?_ _)); refine blk_far ?_ Zkg.out _; (with_reducible repeat (first | refine blk_drewN ?_ _ | refine blk_drew ?_ | refine blk_alloc ?_ _)); exact Zep.out) hb); have n6_ := mA (blk_below (g := Zfw) (o := cQ25 t359 t360 t361 t362) (by (with_reducible repeat (first | refine blk_drewN ?_ _ | refine blk_drew ?_ | refine blk_alloc ?_ _)); refine blk_far ?_ Zki.out _; (with_reducible repeat (first | refine blk_drewN ?_ _ | refine blk_drew ?_ | refine blk_alloc ?_ _)); refine blk_far ?_ Zki.out _; (with_reducible repeat (first | refine blk_drewN ?_ _ | refine blk_drew ?_ | refine blk_alloc ?_ _)); refine blk_far ?_ Zki.out _; (with_reducible repeat (first | refine blk_drewN ?_ _ | refine blk_drew ?_ | refine blk_alloc ?_ _)); refine blk_far ?_ Zki.out _; (with_reducible repeat (first | refine blk_drewN ?_ _ | refine blk_drew ?_ | refine blk_alloc ?_ _)); exact Zfx.out) hb); have n7_ := mA (blk_below (g := Zia) (o := cQ25 t365 t366 t367 t368) (by (with_reducible repeat (first | refine blk_drewN ?_ _ | refine blk_drew ?_ | refine blk_alloc ?_ _)); refine blk_far ?_ Zkk.out _; (with_reducible repeat (first | refine blk_drewN ?_ _ | refine blk_drew ?_ | refine blk_alloc ?_ _)); refine blk_far ?_ Zkk.out _; (with_reducible repeat (first | refine blk_drewN ?_ _ | refine blk_drew ?_ | refine blk_alloc ?_ _)); refine blk_far ?_ Zkk.out _; (with_reducible repeat (first | refine blk_drewN ?_ _ | refine blk_drew ?_ | refine blk_alloc ?_ _)); refine blk_far ?_ Zkk.out _; (with_reducible repeat (first | refine blk_drewN ?_ _ | refine blk_drew ?_ | refine blk_alloc ?_ _)); exact Zib.out) hb); have n8_ := mA (blk_below (g := Zjs) (o := cQ25 t376 t377 t378 t379) (by (with_reducible repeat (first | refine blk_drewN ?_ _ | refine blk_drew ?_ | refine blk_alloc ?_ _)); refine blk_put (cs := #[.int .i64 t376, .int .i64 t377, .int .i64 t378, .int .i64 0]) ?_ 3 _ rfl; (with_reducible repeat (first | refine blk_drewN ?_ _ | refine blk_drew ?_ | refine blk_alloc ?_ _)); refine blk_put (cs := #[.int .i64 t376, .int .i64 t377, .int .i64 0, .int .i64 0]) ?_ 2 _ rfl; (with_reducible repeat (first | refine blk_drewN ?_ _ | refine blk_drew ?_ | refine blk_alloc ?_ _)); refine blk_put (cs := #[.int .i64 t376, .int .i64 0, .int .i64 0, .int .i64 0]) ?_ 1 _ rfl; (with_reducible repeat (first | refine blk_drewN ?_ _ | refine blk_drew ?_ | refine blk_alloc ?_ _)); refine blk_put (cs := #[.int .i64 0, .int .i64 0, .int .i64 0, .int .i64 0]) ?_ 0 _ rfl; (with_reducible repeat (first | refine blk_drewN ?_ _ | refine blk_drew ?_ | refine blk_alloc ?_ _)); exact Zjt.out) hb); have n9_ := mA (below_step (by repeat (first | (with_reducible first | exact HB.out | apply below_alloc | apply pw_below_drewN | apply below_drew1 | refine below_set ?_ Zd.out | refine below_set ?_ Zh.out | refine below_set ?_ Zp.out | refine below_set ?_ Zcd.out | refine below_set ?_ Zdd.out | refine below_set ?_ Zer.out | refine below_set ?_ Zfz.out | refine below_set ?_ Zid.out | refine below_set ?_ Zjv.out) | exact HB.out)) hb); clear Zb; clear Zf; clear Zm; clear Zcb; clear Zdb; clear Zep; clear Zfx; clear Zib; clear Zjt; clear HB; have Zb := n0_; have Zf := n1_; have Zm := n2_; have Zcb := n3_; have Zdb := n4_; have Zep := n5_; have Zfx := n6_; have Zib := n7_; have Zjt := n8_; have HB := n9_; clear n0_ n1_ n2_ n3_ n4_ n5_ n6_ n7_ n8_ n9_; (try clear hb); (try clear hb2); (try clear hk); (try clear hi)) | ((with_reducible refine gate_dst (N := 18) rfl ?_); refine box_event ?hg (N := 18) ?hd (cs := #[.int .i64 0, .int .i64 0, .int .i64 0, .int .i64 0]) (t := 25) ?hr ?_; (case hd => rfl); (case hg => rfl); (case hr => first | (go_simp; done) | (go_simp; rfl)); intro Zqn hg w108 hbox hb; have n0_ := mA (blk_below (g := Za) (o := cQ25 t326 t327 t328 t329) Zb.out hb); have n1_ := mA (blk_below (g := Ze) (o := cQ25 t330 t331 t332 t333) Zf.out hb); have n2_ := mA (blk_below (g := Zk) (o := cQ25 t334 t335 t336 t337) Zm.out hb); have n3_ := mA (blk_below (g := Zca) (o := cQ25 t341 t342 t343 t344) Zcb.out hb); have n4_ := mA (blk_below (g := Zda) (o := cQ25 t347 t348 t349 t350) Zdb.out hb); have n5_ := mA (blk_below (g := Zen) (o := cQ25 t353 t354 t355 t356) Zep.out hb); have n6_ := mA (blk_below (g := Zfw) (o := cQ25 t359 t360 t361 t362) Zfx.out hb); have n7_ := mA (blk_below (g := Zia) (o := cQ25 t365 t366 t367 t368) Zib.out hb); have n8_ := mA (blk_below (g := Zjs) (o := cQ25 t376 t377 t378 t379) Zjt.out hb); have n9_ := mA (below_step (by repeat (first | (with_reducible first | exact HB.out | apply below_alloc | apply pw_below_drewN | apply below_drew1 | refine below_set ?_ Zd.out | refine below_set ?_ Zh.out | refine below_set ?_ Zp.out | refine below_set ?_ Zcd.out | refine below_set ?_ Zdd.out | refine below_set ?_ Zer.out | refine below_set ?_ Zfz.out | refine below_set ?_ Zid.out | refine below_set ?_ Zjv.out) | exact HB.out)) hb); have n10_ := mA (hbox); have n11_ := mA ((by rw [hg]; exact (below_size (by repeat (first | (with_reducible first | exact HB.out | apply below_alloc | apply pw_below_drewN | apply below_drew1 | refine below_set ?_ Zd.out | refine below_set ?_ Zh.out | refine below_set ?_ Zp.out | refine below_set ?_ Zcd.out | refine below_set ?_ Zdd.out | refine below_set ?_ Zer.out | refine below_set ?_ Zfz.out | refine below_set ?_ Zid.out | refine below_set ?_ Zjv.out) | exact HB.out))) : w.heap.size ≤ Zqn)); have n12_ := mA ((by rw [hg]; exact (below_size (by repeat (first | (with_reducible first | exact HB.out | apply below_alloc | apply pw_below_drewN | apply below_drew1 | refine below_set ?_ Zd.out | refine below_set ?_ Zh.out | refine below_set ?_ Zp.out | refine below_set ?_ Zcd.out | refine below_set ?_ Zdd.out | refine below_set ?_ Zer.out | refine below_set ?_ Zfz.out | refine below_set ?_ Zid.out | refine below_set ?_ Zjv.out) | exact HB.out))) : w.heap.size ≤ Zqn)); have n13_ := mA ((by rw [hg]; exact Nat.ne_of_lt (blk_lt (g := Za) (o := cQ25 t326 t327 t328 t329) Zb.out) : Za ≠ Zqn)); have n14_ := mA ((by rw [hg]; exact Nat.ne_of_gt (blk_lt (g := Za) (o := cQ25 t326 t327 t328 t329) Zb.out) : Zqn ≠ Za)); have n15_ := mA ((by rw [hg]; exact Nat.ne_of_lt (blk_lt (g := Ze) (o := cQ25 t330 t331 t332 t333) Zf.out) : Ze ≠ Zqn)); have n16_ := mA ((by rw [hg]; exact Nat.ne_of_gt (blk_lt (g := Ze) (o := cQ25 t330 t331 t332 t333) Zf.out) : Zqn ≠ Ze)); have n17_ := mA ((by rw [hg]; exact Nat.ne_of_lt (blk_lt (g := Zk) (o := cQ25 t334 t335 t336 t337) Zm.out) : Zk ≠ Zqn)); have n18_ := mA ((by rw [hg]; exact Nat.ne_of_gt (blk_lt (g := Zk) (o := cQ25 t334 t335 t336 t337) Zm.out) : Zqn ≠ Zk)); have n19_ := mA ((by rw [hg]; exact Nat.ne_of_lt (blk_lt (g := Zca) (o := cQ25 t341 t342 t343 t344) Zcb.out) : Zca ≠ Zqn)); have n20_ := mA ((by rw [hg]; exact Nat.ne_of_gt (blk_lt (g := Zca) (o := cQ25 t341 t342 t343 t344) Zcb.out) : Zqn ≠ Zca)); have n21_ := mA ((by rw [hg]; exact Nat.ne_of_lt (blk_lt (g := Zda) (o := cQ25 t347 t348 t349 t350) Zdb.out) : Zda ≠ Zqn)); have n22_ := mA ((by rw [hg]; exact Nat.ne_of_gt (blk_lt (g := Zda) (o := cQ25 t347 t348 t349 t350) Zdb.out) : Zqn ≠ Zda)); have n23_ := mA ((by rw [hg]; exact Nat.ne_of_lt (blk_lt (g := Zen) (o := cQ25 t353 t354 t355 t356) Zep.out) : Zen ≠ Zqn)); have n24_ := mA ((by rw [hg]; exact Nat.ne_of_gt (blk_lt (g := Zen) (o := cQ25 t353 t354 t355 t356) Zep.out) : Zqn ≠ Zen)); have n25_ := mA ((by rw [hg]; exact Nat.ne_of_lt (blk_lt (g := Zfw) (o := cQ25 t359 t360 t361 t362) Zfx.out) : Zfw ≠ Zqn)); have n26_ := mA ((by rw [hg]; exact Nat.ne_of_gt (blk_lt (g := Zfw) (o := cQ25 t359 t360 t361 t362) Zfx.out) : Zqn ≠ Zfw)); have n27_ := mA ((by rw [hg]; exact Nat.ne_of_lt (blk_lt (g := Zia) (o := cQ25 t365 t366 t367 t368) Zib.out) : Zia ≠ Zqn)); have n28_ := mA ((by rw [hg]; exact Nat.ne_of_gt (blk_lt (g := Zia) (o := cQ25 t365 t366 t367 t368) Zib.out) : Zqn ≠ Zia)); have n29_ := mA ((by rw [hg]; exact Nat.ne_of_lt (blk_lt (g := Zjs) (o := cQ25 t376 t377 t378 t379) Zjt.out) : Zjs ≠ Zqn)); have n30_ := mA ((by rw [hg]; exact Nat.ne_of_gt (blk_lt (g := Zjs) (o := cQ25 t376 t377 t378 t379) Zjt.out) : Zqn ≠ Zjs)); clear Zb; clear Zf; clear Zm; clear Zcb; clear Zdb; clear Zep; clear Zfx; clear Zib; clear Zjt; clear HB; have Zb := n0_; have Zf := n1_; have Zm := n2_; have Zcb := n3_; have Zdb := n4_; have Zep := n5_; have Zfx := n6_; have Zib := n7_; have Zjt := n8_; have HB := n9_; have Zqp := n10_; have Zqq := n11_; have Zqr := n12_; have Zqs := n13_; have Zqt := n14_; have Zqu := n15_; have Zqv := n16_; have Zqw := n17_; have Zqx := n18_; have Zqy := n19_; have Zqz := n20_; have Zra := n21_; have Zrb := n22_; have Zrc := n23_; have Zrd := n24_; have Zre := n25_; have Zrf := n26_; have Zrg := n27_; have Zrh := n28_; have Zri := n29_; have Zrj := n30_; clear n0_ n1_ n2_ n3_ n4_ n5_ n6_ n7_ n8_ n9_ n10_ n11_ n12_ n13_ n14_ n15_ n16_ n17_ n18_ n19_ n20_ n21_ n22_ n23_ n24_ n25_ n26_ n27_ n28_ n29_ n30_; clear hb hbox hg; have Zrk := Zqt.out; have Zrm := Zqs.out; have Zrn := Zqv.out; have Zrp := Zqu.out; have Zrq := Zqx.out; have Zrr := Zqw.out; have Zrs := Zqz.out; have Zrt := Zqy.out; have Zru := Zrb.out; have Zrv := Zra.out; have Zrw := Zrd.out; have Zrx := Zrc.out; have Zry := Zrf.out; have Zrz := Zre.out; have Zsa := Zrh.out; have Zsb := Zrg.out; have Zsc := Zrj.out; have Zsd := Zri.out; have Zse : w108.cell? ⟨Zqn, 0, none⟩ = some (.int .i64 0) := (blk_cell Zqp.out 0).trans rfl; have Zsf : w108.cell? ⟨Zqn, 1, none⟩ = some (.int .i64 0) := (blk_cell Zqp.out 1).trans rfl; have Zsg : w108.cell? ⟨Zqn, 2, none⟩ = some (.int .i64 0) := (blk_cell Zqp.out 2).trans rfl; have Zsh : w108.cell? ⟨Zqn, 3, none⟩ = some (.int .i64 0) := (blk_cell Zqp.out 3).trans rfl; have Zsi := blk_frozen Zqp.out 0; have Zsj := blk_frozen Zqp.out 1; have Zsk := blk_frozen Zqp.out 2; have Zsm := blk_frozen Zqp.out 3))
  have n0_ : Aside0 (((((w108.setCell ⟨Zqn, 0, none⟩ (.int .i64 t382)).setCell ⟨Zqn, 1, none⟩ (.int .i64 t383)).setCell ⟨Zqn, 2, none⟩ (.int .i64 t384)).setCell ⟨Zqn, 3, none⟩ (.int .i64 t385)).heap[Za]? = some (.cells #[.int .i64 t326, .int .i64 t327, .int .i64 t328, .int .i64 t329] 25 (0, 0))) := ⟨by (with_reducible repeat (first | refine blk_drewN ?_ _ | refine blk_drew ?_ | refine blk_alloc ?_ _)); refine blk_far ?_ Zqs.out _; (with_reducible repeat (first | refine blk_drewN ?_ _ | refine blk_drew ?_ | refine blk_alloc ?_ _)); refine blk_far ?_ Zqs.out _; (with_reducible repeat (first | refine blk_drewN ?_ _ | refine blk_drew ?_ | refine blk_alloc ?_ _)); refine blk_far ?_ Zqs.out _; (with_reducible repeat (first | refine blk_drewN ?_ _ | refine blk_drew ?_ | refine blk_alloc ?_ _)); refine blk_far ?_ Zqs.out _; (with_reducible repeat (first | refine blk_drewN ?_ _ | refine blk_drew ?_ | refine blk_alloc ?_ _)); exact Zb.out⟩
  have n1_ : Aside0 (((((w108.setCell ⟨Zqn, 0, none⟩ (.int .i64 t382)).setCell ⟨Zqn, 1, none⟩ (.int .i64 t383)).setCell ⟨Zqn, 2, none⟩ (.int .i64 t384)).setCell ⟨Zqn, 3, none⟩ (.int .i64 t385)).heap[Ze]? = some (.cells #[.int .i64 t330, .int .i64 t331, .int .i64 t332, .int .i64 t333] 25 (0, 0))) := ⟨by (with_reducible repeat (first | refine blk_drewN ?_ _ | refine blk_drew ?_ | refine blk_alloc ?_ _)); refine blk_far ?_ Zqu.out _; (with_reducible repeat (first | refine blk_drewN ?_ _ | refine blk_drew ?_ | refine blk_alloc ?_ _)); refine blk_far ?_ Zqu.out _; (with_reducible repeat (first | refine blk_drewN ?_ _ | refine blk_drew ?_ | refine blk_alloc ?_ _)); refine blk_far ?_ Zqu.out _; (with_reducible repeat (first | refine blk_drewN ?_ _ | refine blk_drew ?_ | refine blk_alloc ?_ _)); refine blk_far ?_ Zqu.out _; (with_reducible repeat (first | refine blk_drewN ?_ _ | refine blk_drew ?_ | refine blk_alloc ?_ _)); exact Zf.out⟩
  have n2_ : Aside0 (((((w108.setCell ⟨Zqn, 0, none⟩ (.int .i64 t382)).setCell ⟨Zqn, 1, none⟩ (.int .i64 t383)).setCell ⟨Zqn, 2, none⟩ (.int .i64 t384)).setCell ⟨Zqn, 3, none⟩ (.int .i64 t385)).heap[Zk]? = some (.cells #[.int .i64 t334, .int .i64 t335, .int .i64 t336, .int .i64 t337] 25 (0, 0))) := ⟨by (with_reducible repeat (first | refine blk_drewN ?_ _ | refine blk_drew ?_ | refine blk_alloc ?_ _)); refine blk_far ?_ Zqw.out _; (with_reducible repeat (first | refine blk_drewN ?_ _ | refine blk_drew ?_ | refine blk_alloc ?_ _)); refine blk_far ?_ Zqw.out _; (with_reducible repeat (first | refine blk_drewN ?_ _ | refine blk_drew ?_ | refine blk_alloc ?_ _)); refine blk_far ?_ Zqw.out _; (with_reducible repeat (first | refine blk_drewN ?_ _ | refine blk_drew ?_ | refine blk_alloc ?_ _)); refine blk_far ?_ Zqw.out _; (with_reducible repeat (first | refine blk_drewN ?_ _ | refine blk_drew ?_ | refine blk_alloc ?_ _)); exact Zm.out⟩
  have n3_ : Aside0 (((((w108.setCell ⟨Zqn, 0, none⟩ (.int .i64 t382)).setCell ⟨Zqn, 1, none⟩ (.int .i64 t383)).setCell ⟨Zqn, 2, none⟩ (.int .i64 t384)).setCell ⟨Zqn, 3, none⟩ (.int .i64 t385)).heap[Zca]? = some (.cells #[.int .i64 t341, .int .i64 t342, .int .i64 t343, .int .i64 t344] 25 (0, 0))) := ⟨by (with_reducible repeat (first | refine blk_drewN ?_ _ | refine blk_drew ?_ | refine blk_alloc ?_ _)); refine blk_far ?_ Zqy.out _; (with_reducible repeat (first | refine blk_drewN ?_ _ | refine blk_drew ?_ | refine blk_alloc ?_ _)); refine blk_far ?_ Zqy.out _; (with_reducible repeat (first | refine blk_drewN ?_ _ | refine blk_drew ?_ | refine blk_alloc ?_ _)); refine blk_far ?_ Zqy.out _; (with_reducible repeat (first | refine blk_drewN ?_ _ | refine blk_drew ?_ | refine blk_alloc ?_ _)); refine blk_far ?_ Zqy.out _; (with_reducible repeat (first | refine blk_drewN ?_ _ | refine blk_drew ?_ | refine blk_alloc ?_ _)); exact Zcb.out⟩
  have n4_ : Aside0 (((((w108.setCell ⟨Zqn, 0, none⟩ (.int .i64 t382)).setCell ⟨Zqn, 1, none⟩ (.int .i64 t383)).setCell ⟨Zqn, 2, none⟩ (.int .i64 t384)).setCell ⟨Zqn, 3, none⟩ (.int .i64 t385)).heap[Zda]? = some (.cells #[.int .i64 t347, .int .i64 t348, .int .i64 t349, .int .i64 t350] 25 (0, 0))) := ⟨by (with_reducible repeat (first | refine blk_drewN ?_ _ | refine blk_drew ?_ | refine blk_alloc ?_ _)); refine blk_far ?_ Zra.out _; (with_reducible repeat (first | refine blk_drewN ?_ _ | refine blk_drew ?_ | refine blk_alloc ?_ _)); refine blk_far ?_ Zra.out _; (with_reducible repeat (first | refine blk_drewN ?_ _ | refine blk_drew ?_ | refine blk_alloc ?_ _)); refine blk_far ?_ Zra.out _; (with_reducible repeat (first | refine blk_drewN ?_ _ | refine blk_drew ?_ | refine blk_alloc ?_ _)); refine blk_far ?_ Zra.out _; (with_reducible repeat (first | refine blk_drewN ?_ _ | refine blk_drew ?_ | refine blk_alloc ?_ _)); exact Zdb.out⟩
  have n5_ : Aside0 (((((w108.setCell ⟨Zqn, 0, none⟩ (.int .i64 t382)).setCell ⟨Zqn, 1, none⟩ (.int .i64 t383)).setCell ⟨Zqn, 2, none⟩ (.int .i64 t384)).setCell ⟨Zqn, 3, none⟩ (.int .i64 t385)).heap[Zen]? = some (.cells #[.int .i64 t353, .int .i64 t354, .int .i64 t355, .int .i64 t356] 25 (0, 0))) := ⟨by (with_reducible repeat (first | refine blk_drewN ?_ _ | refine blk_drew ?_ | refine blk_alloc ?_ _)); refine blk_far ?_ Zrc.out _; (with_reducible repeat (first | refine blk_drewN ?_ _ | refine blk_drew ?_ | refine blk_alloc ?_ _)); refine blk_far ?_ Zrc.out _; (with_reducible repeat (first | refine blk_drewN ?_ _ | refine blk_drew ?_ | refine blk_alloc ?_ _)); refine blk_far ?_ Zrc.out _; (with_reducible repeat (first | refine blk_drewN ?_ _ | refine blk_drew ?_ | refine blk_alloc ?_ _)); refine blk_far ?_ Zrc.out _; (with_reducible repeat (first | refine blk_drewN ?_ _ | refine blk_drew ?_ | refine blk_alloc ?_ _)); exact Zep.out⟩
  have n6_ : Aside0 (((((w108.setCell ⟨Zqn, 0, none⟩ (.int .i64 t382)).setCell ⟨Zqn, 1, none⟩ (.int .i64 t383)).setCell ⟨Zqn, 2, none⟩ (.int .i64 t384)).setCell ⟨Zqn, 3, none⟩ (.int .i64 t385)).heap[Zfw]? = some (.cells #[.int .i64 t359, .int .i64 t360, .int .i64 t361, .int .i64 t362] 25 (0, 0))) := ⟨by (with_reducible repeat (first | refine blk_drewN ?_ _ | refine blk_drew ?_ | refine blk_alloc ?_ _)); refine blk_far ?_ Zre.out _; (with_reducible repeat (first | refine blk_drewN ?_ _ | refine blk_drew ?_ | refine blk_alloc ?_ _)); refine blk_far ?_ Zre.out _; (with_reducible repeat (first | refine blk_drewN ?_ _ | refine blk_drew ?_ | refine blk_alloc ?_ _)); refine blk_far ?_ Zre.out _; (with_reducible repeat (first | refine blk_drewN ?_ _ | refine blk_drew ?_ | refine blk_alloc ?_ _)); refine blk_far ?_ Zre.out _; (with_reducible repeat (first | refine blk_drewN ?_ _ | refine blk_drew ?_ | refine blk_alloc ?_ _)); exact Zfx.out⟩
  have n7_ : Aside0 (((((w108.setCell ⟨Zqn, 0, none⟩ (.int .i64 t382)).setCell ⟨Zqn, 1, none⟩ (.int .i64 t383)).setCell ⟨Zqn, 2, none⟩ (.int .i64 t384)).setCell ⟨Zqn, 3, none⟩ (.int .i64 t385)).heap[Zia]? = some (.cells #[.int .i64 t365, .int .i64 t366, .int .i64 t367, .int .i64 t368] 25 (0, 0))) := ⟨by (with_reducible repeat (first | refine blk_drewN ?_ _ | refine blk_drew ?_ | refine blk_alloc ?_ _)); refine blk_far ?_ Zrg.out _; (with_reducible repeat (first | refine blk_drewN ?_ _ | refine blk_drew ?_ | refine blk_alloc ?_ _)); refine blk_far ?_ Zrg.out _; (with_reducible repeat (first | refine blk_drewN ?_ _ | refine blk_drew ?_ | refine blk_alloc ?_ _)); refine blk_far ?_ Zrg.out _; (with_reducible repeat (first | refine blk_drewN ?_ _ | refine blk_drew ?_ | refine blk_alloc ?_ _)); refine blk_far ?_ Zrg.out _; (with_reducible repeat (first | refine blk_drewN ?_ _ | refine blk_drew ?_ | refine blk_alloc ?_ _)); exact Zib.out⟩
  have n8_ : Aside0 (((((w108.setCell ⟨Zqn, 0, none⟩ (.int .i64 t382)).setCell ⟨Zqn, 1, none⟩ (.int .i64 t383)).setCell ⟨Zqn, 2, none⟩ (.int .i64 t384)).setCell ⟨Zqn, 3, none⟩ (.int .i64 t385)).heap[Zjs]? = some (.cells #[.int .i64 t376, .int .i64 t377, .int .i64 t378, .int .i64 t379] 25 (0, 0))) := ⟨by (with_reducible repeat (first | refine blk_drewN ?_ _ | refine blk_drew ?_ | refine blk_alloc ?_ _)); refine blk_far ?_ Zri.out _; (with_reducible repeat (first | refine blk_drewN ?_ _ | refine blk_drew ?_ | refine blk_alloc ?_ _)); refine blk_far ?_ Zri.out _; (with_reducible repeat (first | refine blk_drewN ?_ _ | refine blk_drew ?_ | refine blk_alloc ?_ _)); refine blk_far ?_ Zri.out _; (with_reducible repeat (first | refine blk_drewN ?_ _ | refine blk_drew ?_ | refine blk_alloc ?_ _)); refine blk_far ?_ Zri.out _; (with_reducible repeat (first | refine blk_drewN ?_ _ | refine blk_drew ?_ | refine blk_alloc ?_ _)); exact Zjt.out⟩
  have n9_ : Aside0 (((((w108.setCell ⟨Zqn, 0, none⟩ (.int .i64 t382)).setCell ⟨Zqn, 1, none⟩ (.int .i64 t383)).setCell ⟨Zqn, 2, none⟩ (.int .i64 t384)).setCell ⟨Zqn, 3, none⟩ (.int .i64 t385)).heap[Zqn]? = some (.cells #[.int .i64 t382, .int .i64 t383, .int .i64 t384, .int .i64 t385] 25 (0, 0))) := ⟨by (with_reducible repeat (first | refine blk_drewN ?_ _ | refine blk_drew ?_ | refine blk_alloc ?_ _)); refine blk_put (cs := #[.int .i64 t382, .int .i64 t383, .int .i64 t384, .int .i64 0]) ?_ 3 _ rfl; (with_reducible repeat (first | refine blk_drewN ?_ _ | refine blk_drew ?_ | refine blk_alloc ?_ _)); refine blk_put (cs := #[.int .i64 t382, .int .i64 t383, .int .i64 0, .int .i64 0]) ?_ 2 _ rfl; (with_reducible repeat (first | refine blk_drewN ?_ _ | refine blk_drew ?_ | refine blk_alloc ?_ _)); refine blk_put (cs := #[.int .i64 t382, .int .i64 0, .int .i64 0, .int .i64 0]) ?_ 1 _ rfl; (with_reducible repeat (first | refine blk_drewN ?_ _ | refine blk_drew ?_ | refine blk_alloc ?_ _)); refine blk_put (cs := #[.int .i64 0, .int .i64 0, .int .i64 0, .int .i64 0]) ?_ 0 _ rfl; (with_reducible repeat (first | refine blk_drewN ?_ _ | refine blk_drew ?_ | refine blk_alloc ?_ _)); exact Zqp.out⟩
  have n10_ : Aside0 (Below w.heap.size w ((((w108.setCell ⟨Zqn, 0, none⟩ (.int .i64 t382)).setCell ⟨Zqn, 1, none⟩ (.int .i64 t383)).setCell ⟨Zqn, 2, none⟩ (.int .i64 t384)).setCell ⟨Zqn, 3, none⟩ (.int .i64 t385))) := ⟨by repeat (first | (with_reducible first | exact HB.out | apply below_alloc | apply pw_below_drewN | apply below_drew1 | refine below_set ?_ Zd.out | refine below_set ?_ Zh.out | refine below_set ?_ Zp.out | refine below_set ?_ Zcd.out | refine below_set ?_ Zdd.out | refine below_set ?_ Zer.out | refine below_set ?_ Zfz.out | refine below_set ?_ Zid.out | refine below_set ?_ Zjv.out | refine below_set ?_ Zqr.out) | exact HB.out)⟩
  (try clear Zb)
  (try clear Zf)
  (try clear Zm)
  (try clear Zcb)
  (try clear Zdb)
  (try clear Zep)
  (try clear Zfx)
  (try clear Zib)
  (try clear Zjt)
  (try clear Zqp)
  (try clear HB)
  generalize ((((w108.setCell ⟨Zqn, 0, none⟩ (.int .i64 t382)).setCell ⟨Zqn, 1, none⟩ (.int .i64 t383)).setCell ⟨Zqn, 2, none⟩ (.int .i64 t384)).setCell ⟨Zqn, 3, none⟩ (.int .i64 t385)) = w119 at n0_ n1_ n2_ n3_ n4_ n5_ n6_ n7_ n8_ n9_ n10_ ⊢
  have Zb := n0_
  have Zf := n1_
  have Zm := n2_
  have Zcb := n3_
  have Zdb := n4_
  have Zep := n5_
  have Zfx := n6_
  have Zib := n7_
  have Zjt := n8_
  have Zqp := n9_
  have HB := n10_
  clear n0_ n1_ n2_ n3_ n4_ n5_ n6_ n7_ n8_ n9_ n10_
  have n0_ := mA (blk_drew Zb.out)
  have n1_ := mA (blk_drew Zf.out)
  have n2_ := mA (blk_drew Zm.out)
  have n3_ := mA (blk_drew Zcb.out)
  have n4_ := mA (blk_drew Zdb.out)
  have n5_ := mA (blk_drew Zep.out)
  have n6_ := mA (blk_drew Zfx.out)
  have n7_ := mA (blk_drew Zib.out)
  have n8_ := mA (blk_drew Zjt.out)
  have n9_ := mA (blk_drew Zqp.out)
  have n10_ := mA (below_drew1 HB.out)
  clear Zb
  clear Zf
  clear Zm
  clear Zcb
  clear Zdb
  clear Zep
  clear Zfx
  clear Zib
  clear Zjt
  clear Zqp
  clear HB
  have Zb := n0_
  have Zf := n1_
  have Zm := n2_
  have Zcb := n3_
  have Zdb := n4_
  have Zep := n5_
  have Zfx := n6_
  have Zib := n7_
  have Zjt := n8_
  have Zqp := n9_
  have HB := n10_
  clear n0_ n1_ n2_ n3_ n4_ n5_ n6_ n7_ n8_ n9_ n10_
  refine start_ (n := 57) (S := fun w' => w'.cell? ⟨Zca, 0, none⟩ = some (.int .i64 t341) ∧ w'.cell? ⟨Zca, 1, none⟩ = some (.int .i64 t342) ∧ w'.cell? ⟨Zca, 2, none⟩ = some (.int .i64 t343) ∧ w'.cell? ⟨Zca, 3, none⟩ = some (.int .i64 t344) ∧ w'.cell? ⟨Zda, 0, none⟩ = some (.int .i64 t347) ∧ w'.cell? ⟨Zda, 1, none⟩ = some (.int .i64 t348) ∧ w'.cell? ⟨Zda, 2, none⟩ = some (.int .i64 t349) ∧ w'.cell? ⟨Zda, 3, none⟩ = some (.int .i64 t350) ∧ w'.cell? ⟨Zfw, 0, none⟩ = some (.int .i64 t359) ∧ w'.cell? ⟨Zfw, 1, none⟩ = some (.int .i64 t360) ∧ w'.cell? ⟨Zfw, 2, none⟩ = some (.int .i64 t361) ∧ w'.cell? ⟨Zfw, 3, none⟩ = some (.int .i64 t362) ∧ w'.cell? ⟨Zia, 0, none⟩ = some (.int .i64 t365) ∧ w'.cell? ⟨Zia, 1, none⟩ = some (.int .i64 t366) ∧ w'.cell? ⟨Zia, 2, none⟩ = some (.int .i64 t367) ∧ w'.cell? ⟨Zia, 3, none⟩ = some (.int .i64 t368) ∧ w'.cell? ⟨Zqn, 0, none⟩ = some (.int .i64 t382) ∧ w'.cell? ⟨Zqn, 1, none⟩ = some (.int .i64 t383) ∧ w'.cell? ⟨Zqn, 2, none⟩ = some (.int .i64 t384) ∧ w'.cell? ⟨Zqn, 3, none⟩ = some (.int .i64 t385) ∧ w'.cell? ⟨Za, 0, none⟩ = some (.int .i64 t326) ∧ w'.cell? ⟨Za, 1, none⟩ = some (.int .i64 t327) ∧ w'.cell? ⟨Za, 2, none⟩ = some (.int .i64 t328) ∧ w'.cell? ⟨Za, 3, none⟩ = some (.int .i64 t329)) (ds := []) #[false, false, false, false, false, false, false, false, false, false, false, false, false, false, false, false, false, false, false, false, false, false, false, false, false, false, false, false, false, false, false, false, false, false, false, false, false, false, false, false, false, false, false, false, false, false, false, false, false, false, false, false, false, false, false, false, false] (by kernel_rfl) rfl rfl ⟨(blk_cell Zcb.out 0).trans rfl, (blk_cell Zcb.out 1).trans rfl, (blk_cell Zcb.out 2).trans rfl, (blk_cell Zcb.out 3).trans rfl, (blk_cell Zdb.out 0).trans rfl, (blk_cell Zdb.out 1).trans rfl, (blk_cell Zdb.out 2).trans rfl, (blk_cell Zdb.out 3).trans rfl, (blk_cell Zfx.out 0).trans rfl, (blk_cell Zfx.out 1).trans rfl, (blk_cell Zfx.out 2).trans rfl, (blk_cell Zfx.out 3).trans rfl, (blk_cell Zib.out 0).trans rfl, (blk_cell Zib.out 1).trans rfl, (blk_cell Zib.out 2).trans rfl, (blk_cell Zib.out 3).trans rfl, (blk_cell Zqp.out 0).trans rfl, (blk_cell Zqp.out 1).trans rfl, (blk_cell Zqp.out 2).trans rfl, (blk_cell Zqp.out 3).trans rfl, (blk_cell Zb.out 0).trans rfl, (blk_cell Zb.out 1).trans rfl, (blk_cell Zb.out 2).trans rfl, (blk_cell Zb.out 3).trans rfl⟩ (fun hHeld => ?_); refine with_tabW laws_FnOctaves.tab11 laws_FnOctaves.bits11 (fun HT_ HW_ => ?_)
  generalize w119.drew = w120 at Zb Zf Zm Zcb Zdb Zep Zfx Zib Zjt Zqp HB hHeld ⊢
  refine pure_ (i := 0) (N := some 67) (v := ?_) (a' := ?_) #[true, false, false, false, false, false, false, false, false, false, false, false, false, false, false, false, false, false, false, false, false, false, false, false, false, false, false, false, false, false, false, false, false, false, false, false, false, false, false, false, false, false, false, false, false, false, false, false, false, false, false, false, false, false, false, false, false] rfl rfl (any_of HT_.out (by kernel_rfl)) (fun _ _ _ h => h) (Or.inl ⟨by rfl, ?_⟩) ?_ ?_
  rotate_left
  · intro w'
    go_simp
    with_reducible rfl
  rotate_left
  · simp only [Act.put, List.setIfInBounds_toArray, List.set_cons_zero, List.set_cons_succ, i64_w, i32_w]
    rfl
  refine pure_ (i := 1) (N := some 68) (v := ?_) (a' := ?_) #[true, true, false, false, false, false, false, false, false, false, false, false, false, false, false, false, false, false, false, false, false, false, false, false, false, false, false, false, false, false, false, false, false, false, false, false, false, false, false, false, false, false, false, false, false, false, false, false, false, false, false, false, false, false, false, false, false] rfl rfl (any_of HT_.out (by kernel_rfl)) (fun _ _ _ h => h) (Or.inl ⟨by rfl, ?_⟩) ?_ ?_
  rotate_left
  · intro w'
    go_simp
    with_reducible rfl
  rotate_left
  · simp only [Act.put, List.setIfInBounds_toArray, List.set_cons_zero, List.set_cons_succ, i64_w, i32_w]
    rfl
  refine pure_ (i := 2) (N := some 69) (v := ?_) (a' := ?_) #[true, true, true, false, false, false, false, false, false, false, false, false, false, false, false, false, false, false, false, false, false, false, false, false, false, false, false, false, false, false, false, false, false, false, false, false, false, false, false, false, false, false, false, false, false, false, false, false, false, false, false, false, false, false, false, false, false] rfl rfl (any_of HT_.out (by kernel_rfl)) (fun _ _ _ h => h) (Or.inl ⟨by rfl, ?_⟩) ?_ ?_
  rotate_left
  · intro w'
    go_simp
    with_reducible rfl
  rotate_left
  · simp only [Act.put, List.setIfInBounds_toArray, List.set_cons_zero, List.set_cons_succ, i64_w, i32_w]
    rfl
  refine pure_ (i := 3) (N := some 70) (v := ?_) (a' := ?_) #[true, true, true, true, false, false, false, false, false, false, false, false, false, false, false, false, false, false, false, false, false, false, false, false, false, false, false, false, false, false, false, false, false, false, false, false, false, false, false, false, false, false, false, false, false, false, false, false, false, false, false, false, false, false, false, false, false] rfl rfl (any_of HT_.out (by kernel_rfl)) (fun _ _ _ h => h) (Or.inl ⟨by rfl, ?_⟩) ?_ ?_
  rotate_left
  · intro w'
    go_simp
    with_reducible rfl
  rotate_left
  · simp only [Act.put, List.setIfInBounds_toArray, List.set_cons_zero, List.set_cons_succ, i64_w, i32_w]
    rfl
  refine pure_ (i := 4) (N := some 71) (v := ?_) (a' := ?_) #[true, true, true, true, true, false, false, false, false, false, false, false, false, false, false, false, false, false, false, false, false, false, false, false, false, false, false, false, false, false, false, false, false, false, false, false, false, false, false, false, false, false, false, false, false, false, false, false, false, false, false, false, false, false, false, false, false] rfl rfl (any_of HT_.out (by kernel_rfl)) (fun _ _ _ h => h) (Or.inl ⟨by rfl, ?_⟩) ?_ ?_
  rotate_left
  · intro w'
    go_simp
    with_reducible rfl
  rotate_left
  · simp only [Act.put, List.setIfInBounds_toArray, List.set_cons_zero, List.set_cons_succ, i64_w, i32_w]
    rfl
  refine pure_ (i := 5) (N := some 72) (v := ?_) (a' := ?_) #[true, true, true, true, true, true, false, false, false, false, false, false, false, false, false, false, false, false, false, false, false, false, false, false, false, false, false, false, false, false, false, false, false, false, false, false, false, false, false, false, false, false, false, false, false, false, false, false, false, false, false, false, false, false, false, false, false] rfl rfl (any_of HT_.out (by kernel_rfl)) (fun _ _ _ h => h) (Or.inl ⟨by rfl, ?_⟩) ?_ ?_
  rotate_left
  · intro w'
    go_simp
    with_reducible rfl
  rotate_left
  · simp only [Act.put, List.setIfInBounds_toArray, List.set_cons_zero, List.set_cons_succ, i64_w, i32_w]
    rfl
  refine pure_ (i := 6) (N := some 73) (v := ?_) (a' := ?_) #[true, true, true, true, true, true, true, false, false, false, false, false, false, false, false, false, false, false, false, false, false, false, false, false, false, false, false, false, false, false, false, false, false, false, false, false, false, false, false, false, false, false, false, false, false, false, false, false, false, false, false, false, false, false, false, false, false] rfl rfl (any_of HT_.out (by kernel_rfl)) (fun _ _ _ h => h) (Or.inl ⟨by rfl, ?_⟩) ?_ ?_
  rotate_left
  · intro w'
    go_simp
    with_reducible rfl
  rotate_left
  · simp only [Act.put, List.setIfInBounds_toArray, List.set_cons_zero, List.set_cons_succ, i64_w, i32_w]
    rfl
  refine pure_ (i := 7) (N := some 74) (v := ?_) (a' := ?_) #[true, true, true, true, true, true, true, true, false, false, false, false, false, false, false, false, false, false, false, false, false, false, false, false, false, false, false, false, false, false, false, false, false, false, false, false, false, false, false, false, false, false, false, false, false, false, false, false, false, false, false, false, false, false, false, false, false] rfl rfl (any_of HT_.out (by kernel_rfl)) (fun _ _ _ h => h) (Or.inl ⟨by rfl, ?_⟩) ?_ ?_
  rotate_left
  · intro w'
    go_simp
    with_reducible rfl
  rotate_left
  · simp only [Act.put, List.setIfInBounds_toArray, List.set_cons_zero, List.set_cons_succ, i64_w, i32_w]
    rfl
  refine pure_ (i := 8) (N := some 75) (v := ?_) (a' := ?_) #[true, true, true, true, true, true, true, true, true, false, false, false, false, false, false, false, false, false, false, false, false, false, false, false, false, false, false, false, false, false, false, false, false, false, false, false, false, false, false, false, false, false, false, false, false, false, false, false, false, false, false, false, false, false, false, false, false] rfl rfl (any_of HT_.out (by kernel_rfl)) (fun _ _ _ h => h) (Or.inl ⟨by rfl, ?_⟩) ?_ ?_
  rotate_left
  · intro w'
    go_simp
    with_reducible rfl
  rotate_left
  · simp only [Act.put, List.setIfInBounds_toArray, List.set_cons_zero, List.set_cons_succ, i64_w, i32_w]
    rfl
  refine pure_ (i := 9) (N := some 76) (v := ?_) (a' := ?_) #[true, true, true, true, true, true, true, true, true, true, false, false, false, false, false, false, false, false, false, false, false, false, false, false, false, false, false, false, false, false, false, false, false, false, false, false, false, false, false, false, false, false, false, false, false, false, false, false, false, false, false, false, false, false, false, false, false] rfl rfl (any_of HT_.out (by kernel_rfl)) (fun _ _ _ h => h) (Or.inl ⟨by rfl, ?_⟩) ?_ ?_
  rotate_left
  · intro w'
    go_simp
    with_reducible rfl
  rotate_left
  · simp only [Act.put, List.setIfInBounds_toArray, List.set_cons_zero, List.set_cons_succ, i64_w, i32_w]
    rfl
  refine pure_ (i := 10) (N := some 77) (v := ?_) (a' := ?_) #[true, true, true, true, true, true, true, true, true, true, true, false, false, false, false, false, false, false, false, false, false, false, false, false, false, false, false, false, false, false, false, false, false, false, false, false, false, false, false, false, false, false, false, false, false, false, false, false, false, false, false, false, false, false, false, false, false] rfl rfl (any_of HT_.out (by kernel_rfl)) (fun _ _ _ h => h) (Or.inl ⟨by rfl, ?_⟩) ?_ ?_
  rotate_left
  · intro w'
    go_simp
    with_reducible rfl
  rotate_left
  · simp only [Act.put, List.setIfInBounds_toArray, List.set_cons_zero, List.set_cons_succ, i64_w, i32_w]
    rfl
  refine pure_ (i := 11) (N := some 78) (v := ?_) (a' := ?_) #[true, true, true, true, true, true, true, true, true, true, true, true, false, false, false, false, false, false, false, false, false, false, false, false, false, false, false, false, false, false, false, false, false, false, false, false, false, false, false, false, false, false, false, false, false, false, false, false, false, false, false, false, false, false, false, false, false] rfl rfl (any_of HT_.out (by kernel_rfl)) (fun _ _ _ h => h) (Or.inl ⟨by rfl, ?_⟩) ?_ ?_
  rotate_left
  · intro w'
    go_simp
    with_reducible rfl
  rotate_left
  · simp only [Act.put, List.setIfInBounds_toArray, List.set_cons_zero, List.set_cons_succ, i64_w, i32_w]
    rfl
  refine pure_ (i := 12) (N := some 79) (v := ?_) (a' := ?_) #[true, true, true, true, true, true, true, true, true, true, true, true, true, false, false, false, false, false, false, false, false, false, false, false, false, false, false, false, false, false, false, false, false, false, false, false, false, false, false, false, false, false, false, false, false, false, false, false, false, false, false, false, false, false, false, false, false] rfl rfl (any_of HT_.out (by kernel_rfl)) (fun _ _ _ h => h) (Or.inl ⟨by rfl, ?_⟩) ?_ ?_
  rotate_left
  · intro w'
    go_simp
    with_reducible rfl
  rotate_left
  · simp only [Act.put, List.setIfInBounds_toArray, List.set_cons_zero, List.set_cons_succ, i64_w, i32_w]
    rfl
  refine pure_ (i := 13) (N := some 80) (v := ?_) (a' := ?_) #[true, true, true, true, true, true, true, true, true, true, true, true, true, true, false, false, false, false, false, false, false, false, false, false, false, false, false, false, false, false, false, false, false, false, false, false, false, false, false, false, false, false, false, false, false, false, false, false, false, false, false, false, false, false, false, false, false] rfl rfl (any_of HT_.out (by kernel_rfl)) (fun _ _ _ h => h) (Or.inl ⟨by rfl, ?_⟩) ?_ ?_
  rotate_left
  · intro w'
    go_simp
    with_reducible rfl
  rotate_left
  · simp only [Act.put, List.setIfInBounds_toArray, List.set_cons_zero, List.set_cons_succ, i64_w, i32_w]
    rfl
  refine pure_ (i := 14) (N := some 81) (v := ?_) (a' := ?_) #[true, true, true, true, true, true, true, true, true, true, true, true, true, true, true, false, false, false, false, false, false, false, false, false, false, false, false, false, false, false, false, false, false, false, false, false, false, false, false, false, false, false, false, false, false, false, false, false, false, false, false, false, false, false, false, false, false] rfl rfl (any_of HT_.out (by kernel_rfl)) (fun _ _ _ h => h) (Or.inl ⟨by rfl, ?_⟩) ?_ ?_
  rotate_left
  · intro w'
    go_simp
    with_reducible rfl
  rotate_left
  · simp only [Act.put, List.setIfInBounds_toArray, List.set_cons_zero, List.set_cons_succ, i64_w, i32_w]
    rfl
  refine pure_ (i := 15) (N := some 82) (v := ?_) (a' := ?_) #[true, true, true, true, true, true, true, true, true, true, true, true, true, true, true, true, false, false, false, false, false, false, false, false, false, false, false, false, false, false, false, false, false, false, false, false, false, false, false, false, false, false, false, false, false, false, false, false, false, false, false, false, false, false, false, false, false] rfl rfl (any_of HT_.out (by kernel_rfl)) (fun _ _ _ h => h) (Or.inl ⟨by rfl, ?_⟩) ?_ ?_
  rotate_left
  · intro w'
    go_simp
    with_reducible rfl
  rotate_left
  · simp only [Act.put, List.setIfInBounds_toArray, List.set_cons_zero, List.set_cons_succ, i64_w, i32_w]
    rfl
  refine pure_ (i := 16) (N := some 83) (v := ?_) (a' := ?_) #[true, true, true, true, true, true, true, true, true, true, true, true, true, true, true, true, true, false, false, false, false, false, false, false, false, false, false, false, false, false, false, false, false, false, false, false, false, false, false, false, false, false, false, false, false, false, false, false, false, false, false, false, false, false, false, false, false] rfl rfl (any_of HT_.out (by kernel_rfl)) (fun _ _ _ h => h) (Or.inl ⟨by rfl, ?_⟩) ?_ ?_
  rotate_left
  · intro w'
    go_simp
    with_reducible rfl
  rotate_left
  · simp only [Act.put, List.setIfInBounds_toArray, List.set_cons_zero, List.set_cons_succ, i64_w, i32_w]
    rfl
  refine pure_ (i := 17) (N := some 84) (v := ?_) (a' := ?_) #[true, true, true, true, true, true, true, true, true, true, true, true, true, true, true, true, true, true, false, false, false, false, false, false, false, false, false, false, false, false, false, false, false, false, false, false, false, false, false, false, false, false, false, false, false, false, false, false, false, false, false, false, false, false, false, false, false] rfl rfl (any_of HT_.out (by kernel_rfl)) (fun _ _ _ h => h) (Or.inl ⟨by rfl, ?_⟩) ?_ ?_
  rotate_left
  · intro w'
    go_simp
    with_reducible rfl
  rotate_left
  · simp only [Act.put, List.setIfInBounds_toArray, List.set_cons_zero, List.set_cons_succ, i64_w, i32_w]
    rfl
  refine pure_ (i := 18) (N := some 85) (v := ?_) (a' := ?_) #[true, true, true, true, true, true, true, true, true, true, true, true, true, true, true, true, true, true, true, false, false, false, false, false, false, false, false, false, false, false, false, false, false, false, false, false, false, false, false, false, false, false, false, false, false, false, false, false, false, false, false, false, false, false, false, false, false] rfl rfl (any_of HT_.out (by kernel_rfl)) (fun _ _ _ h => h) (Or.inl ⟨by rfl, ?_⟩) ?_ ?_
  rotate_left
  · intro w'
    go_simp
    with_reducible rfl
  rotate_left
  · simp only [Act.put, List.setIfInBounds_toArray, List.set_cons_zero, List.set_cons_succ, i64_w, i32_w]
    rfl
  refine pure_ (i := 19) (N := some 86) (v := ?_) (a' := ?_) #[true, true, true, true, true, true, true, true, true, true, true, true, true, true, true, true, true, true, true, true, false, false, false, false, false, false, false, false, false, false, false, false, false, false, false, false, false, false, false, false, false, false, false, false, false, false, false, false, false, false, false, false, false, false, false, false, false] rfl rfl (any_of HT_.out (by kernel_rfl)) (fun _ _ _ h => h) (Or.inl ⟨by rfl, ?_⟩) ?_ ?_
  rotate_left
  · intro w'
    go_simp
    with_reducible rfl
  rotate_left
  · simp only [Act.put, List.setIfInBounds_toArray, List.set_cons_zero, List.set_cons_succ, i64_w, i32_w]
    rfl
  refine take_ (i := 20) (N := some 87) (v := ?_) (a' := ?_) #[true, true, true, true, true, true, true, true, true, true, true, true, true, true, true, true, true, true, true, true, true, false, false, false, false, false, false, false, false, false, false, false, false, false, false, false, false, false, false, false, false, false, false, false, false, false, false, false, false, false, false, false, false, false, false, false, false] rfl rfl (take_ofW HT_.out HW_.out (by kernel_rfl)) (fun _ _ _ h => h) (Or.inl ⟨by rfl, ?_⟩) hHeld ?_ ?_
  rotate_left
  · rintro w' ⟨s0, s1, s2, s3, s4, s5, s6, s7, s8, s9, s10, s11, s12, s13, s14, s15, s16, s17, s18, s19, s20, s21, s22, s23⟩
    go_simp
    with_reducible rfl
  rotate_left
  · simp only [Act.put, List.setIfInBounds_toArray, List.set_cons_zero, List.set_cons_succ, i64_w, i32_w]
    rfl
  refine take_ (i := 21) (N := some 88) (v := ?_) (a' := ?_) #[true, true, true, true, true, true, true, true, true, true, true, true, true, true, true, true, true, true, true, true, true, true, false, false, false, false, false, false, false, false, false, false, false, false, false, false, false, false, false, false, false, false, false, false, false, false, false, false, false, false, false, false, false, false, false, false, false] rfl rfl (take_ofW HT_.out HW_.out (by kernel_rfl)) (fun _ _ _ h => h) (Or.inl ⟨by rfl, ?_⟩) hHeld ?_ ?_
  rotate_left
  · rintro w' ⟨s0, s1, s2, s3, s4, s5, s6, s7, s8, s9, s10, s11, s12, s13, s14, s15, s16, s17, s18, s19, s20, s21, s22, s23⟩
    go_simp
    with_reducible rfl
  rotate_left
  · simp only [Act.put, List.setIfInBounds_toArray, List.set_cons_zero, List.set_cons_succ, i64_w, i32_w]
    rfl
  refine pure_ (i := 22) (N := some 89) (v := ?_) (a' := ?_) #[true, true, true, true, true, true, true, true, true, true, true, true, true, true, true, true, true, true, true, true, true, true, true, false, false, false, false, false, false, false, false, false, false, false, false, false, false, false, false, false, false, false, false, false, false, false, false, false, false, false, false, false, false, false, false, false, false] rfl rfl (any_of HT_.out (by kernel_rfl)) (fun _ _ _ h => h) (Or.inl ⟨by rfl, ?_⟩) ?_ ?_
  rotate_left
  · intro w'
    go_simp
    with_reducible rfl
  rotate_left
  · simp only [Act.put, List.setIfInBounds_toArray, List.set_cons_zero, List.set_cons_succ, i64_w, i32_w]
    rfl
  refine pure_ (i := 23) (N := some 90) (v := ?_) (a' := ?_) #[true, true, true, true, true, true, true, true, true, true, true, true, true, true, true, true, true, true, true, true, true, true, true, true, false, false, false, false, false, false, false, false, false, false, false, false, false, false, false, false, false, false, false, false, false, false, false, false, false, false, false, false, false, false, false, false, false] rfl rfl (any_of HT_.out (by kernel_rfl)) (fun _ _ _ h => h) (Or.inl ⟨by rfl, ?_⟩) ?_ ?_
  rotate_left
  · intro w'
    go_simp
    with_reducible rfl
  rotate_left
  · simp only [Act.put, List.setIfInBounds_toArray, List.set_cons_zero, List.set_cons_succ, i64_w, i32_w]
    rfl
  refine pure_ (i := 24) (N := some 91) (v := ?_) (a' := ?_) #[true, true, true, true, true, true, true, true, true, true, true, true, true, true, true, true, true, true, true, true, true, true, true, true, true, false, false, false, false, false, false, false, false, false, false, false, false, false, false, false, false, false, false, false, false, false, false, false, false, false, false, false, false, false, false, false, false] rfl rfl (any_of HT_.out (by kernel_rfl)) (fun _ _ _ h => h) (Or.inl ⟨by rfl, ?_⟩) ?_ ?_
  rotate_left
  · intro w'
    go_simp
    with_reducible rfl
  rotate_left
  · simp only [Act.put, List.setIfInBounds_toArray, List.set_cons_zero, List.set_cons_succ, i64_w, i32_w]
    rfl
  refine take_ (i := 25) (N := some 92) (v := ?_) (a' := ?_) #[true, true, true, true, true, true, true, true, true, true, true, true, true, true, true, true, true, true, true, true, true, true, true, true, true, true, false, false, false, false, false, false, false, false, false, false, false, false, false, false, false, false, false, false, false, false, false, false, false, false, false, false, false, false, false, false, false] rfl rfl (take_ofW HT_.out HW_.out (by kernel_rfl)) (fun _ _ _ h => h) (Or.inl ⟨by rfl, ?_⟩) hHeld ?_ ?_
  rotate_left
  · rintro w' ⟨s0, s1, s2, s3, s4, s5, s6, s7, s8, s9, s10, s11, s12, s13, s14, s15, s16, s17, s18, s19, s20, s21, s22, s23⟩
    go_simp
    with_reducible rfl
  rotate_left
  · simp only [Act.put, List.setIfInBounds_toArray, List.set_cons_zero, List.set_cons_succ, i64_w, i32_w]
    rfl
  refine take_ (i := 26) (N := some 93) (v := ?_) (a' := ?_) #[true, true, true, true, true, true, true, true, true, true, true, true, true, true, true, true, true, true, true, true, true, true, true, true, true, true, true, false, false, false, false, false, false, false, false, false, false, false, false, false, false, false, false, false, false, false, false, false, false, false, false, false, false, false, false, false, false] rfl rfl (take_ofW HT_.out HW_.out (by kernel_rfl)) (fun _ _ _ h => h) (Or.inl ⟨by rfl, ?_⟩) hHeld ?_ ?_
  rotate_left
  · rintro w' ⟨s0, s1, s2, s3, s4, s5, s6, s7, s8, s9, s10, s11, s12, s13, s14, s15, s16, s17, s18, s19, s20, s21, s22, s23⟩
    go_simp
    with_reducible rfl
  rotate_left
  · simp only [Act.put, List.setIfInBounds_toArray, List.set_cons_zero, List.set_cons_succ, i64_w, i32_w]
    rfl
  refine pure_ (i := 27) (N := some 94) (v := ?_) (a' := ?_) #[true, true, true, true, true, true, true, true, true, true, true, true, true, true, true, true, true, true, true, true, true, true, true, true, true, true, true, true, false, false, false, false, false, false, false, false, false, false, false, false, false, false, false, false, false, false, false, false, false, false, false, false, false, false, false, false, false] rfl rfl (any_of HT_.out (by kernel_rfl)) (fun _ _ _ h => h) (Or.inl ⟨by rfl, ?_⟩) ?_ ?_
  rotate_left
  · intro w'
    go_simp
    with_reducible rfl
  rotate_left
  · simp only [Act.put, List.setIfInBounds_toArray, List.set_cons_zero, List.set_cons_succ, i64_w, i32_w]
    rfl
  refine pure_ (i := 28) (N := some 95) (v := ?_) (a' := ?_) #[true, true, true, true, true, true, true, true, true, true, true, true, true, true, true, true, true, true, true, true, true, true, true, true, true, true, true, true, true, false, false, false, false, false, false, false, false, false, false, false, false, false, false, false, false, false, false, false, false, false, false, false, false, false, false, false, false] rfl rfl (any_of HT_.out (by kernel_rfl)) (fun _ _ _ h => h) (Or.inl ⟨by rfl, ?_⟩) ?_ ?_
  rotate_left
  · intro w'
    go_simp
    with_reducible rfl
  rotate_left
  · simp only [Act.put, List.setIfInBounds_toArray, List.set_cons_zero, List.set_cons_succ, i64_w, i32_w]
    rfl
  refine pure_ (i := 29) (N := some 96) (v := ?_) (a' := ?_) #[true, true, true, true, true, true, true, true, true, true, true, true, true, true, true, true, true, true, true, true, true, true, true, true, true, true, true, true, true, true, false, false, false, false, false, false, false, false, false, false, false, false, false, false, false, false, false, false, false, false, false, false, false, false, false, false, false] rfl rfl (any_of HT_.out (by kernel_rfl)) (fun _ _ _ h => h) (Or.inl ⟨by rfl, ?_⟩) ?_ ?_
  rotate_left
  · intro w'
    go_simp
    with_reducible rfl
  rotate_left
  · simp only [Act.put, List.setIfInBounds_toArray, List.set_cons_zero, List.set_cons_succ, i64_w, i32_w]
    rfl
  refine take_ (i := 30) (N := some 97) (v := ?_) (a' := ?_) #[true, true, true, true, true, true, true, true, true, true, true, true, true, true, true, true, true, true, true, true, true, true, true, true, true, true, true, true, true, true, true, false, false, false, false, false, false, false, false, false, false, false, false, false, false, false, false, false, false, false, false, false, false, false, false, false, false] rfl rfl (take_ofW HT_.out HW_.out (by kernel_rfl)) (fun _ _ _ h => h) (Or.inl ⟨by rfl, ?_⟩) hHeld ?_ ?_
  rotate_left
  · rintro w' ⟨s0, s1, s2, s3, s4, s5, s6, s7, s8, s9, s10, s11, s12, s13, s14, s15, s16, s17, s18, s19, s20, s21, s22, s23⟩
    go_simp
    with_reducible rfl
  rotate_left
  · simp only [Act.put, List.setIfInBounds_toArray, List.set_cons_zero, List.set_cons_succ, i64_w, i32_w]
    rfl
  refine one_ (i := 31) (N := some 98) #[true, true, true, true, true, true, true, true, true, true, true, true, true, true, true, true, true, true, true, true, true, true, true, true, true, true, true, true, true, true, true, true, false, false, false, false, false, false, false, false, false, false, false, false, false, false, false, false, false, false, false, false, false, false, false, false, false] rfl rfl (one_of HT_.out (by kernel_rfl)) (by decide) (fun K hK => ?_)
  refine goes_ Try.func25 (by kernel_rfl) rfl #[.int .i64 1, .int .i64 0, .int .i64 0] (by rfl) rfl rfl (by (try simp only [List.map_toArray, List.map_cons, List.map_nil]); first | done | rfl | (simp only [List.length_drop, List.length_take]; rfl)) ?_
  with_reducible refine (impl_PureOf.calls 1 0 0 t388 t389 t390 t391 _ A23.out).mono ?_
  rintro e w121 ⟨rfl, hb⟩
  refine ⟨_, rfl, ?_⟩
  have n0_ := mA (blk_below (g := Za) (o := cQ25 t326 t327 t328 t329) Zb.out hb)
  have n1_ := mA (blk_below (g := Ze) (o := cQ25 t330 t331 t332 t333) Zf.out hb)
  have n2_ := mA (blk_below (g := Zk) (o := cQ25 t334 t335 t336 t337) Zm.out hb)
  have n3_ := mA (blk_below (g := Zca) (o := cQ25 t341 t342 t343 t344) Zcb.out hb)
  have n4_ := mA (blk_below (g := Zda) (o := cQ25 t347 t348 t349 t350) Zdb.out hb)
  have n5_ := mA (blk_below (g := Zen) (o := cQ25 t353 t354 t355 t356) Zep.out hb)
  have n6_ := mA (blk_below (g := Zfw) (o := cQ25 t359 t360 t361 t362) Zfx.out hb)
  have n7_ := mA (blk_below (g := Zia) (o := cQ25 t365 t366 t367 t368) Zib.out hb)
  have n8_ := mA (blk_below (g := Zjs) (o := cQ25 t376 t377 t378 t379) Zjt.out hb)
  have n9_ := mA (blk_below (g := Zqn) (o := cQ25 t382 t383 t384 t385) Zqp.out hb)
  have n10_ := mA (below_step (by repeat (first | (with_reducible first | exact HB.out | apply below_alloc | apply pw_below_drewN | apply below_drew1 | refine below_set ?_ Zd.out | refine below_set ?_ Zh.out | refine below_set ?_ Zp.out | refine below_set ?_ Zcd.out | refine below_set ?_ Zdd.out | refine below_set ?_ Zer.out | refine below_set ?_ Zfz.out | refine below_set ?_ Zid.out | refine below_set ?_ Zjv.out | refine below_set ?_ Zqr.out) | exact HB.out)) hb)
  clear Zb
  clear Zf
  clear Zm
  clear Zcb
  clear Zdb
  clear Zep
  clear Zfx
  clear Zib
  clear Zjt
  clear Zqp
  clear HB
  have Zb := n0_
  have Zf := n1_
  have Zm := n2_
  have Zcb := n3_
  have Zdb := n4_
  have Zep := n5_
  have Zfx := n6_
  have Zib := n7_
  have Zjt := n8_
  have Zqp := n9_
  have HB := n10_
  clear n0_ n1_ n2_ n3_ n4_ n5_ n6_ n7_ n8_ n9_ n10_
  (try clear hb)
  (try clear hb2)
  (try clear hk)
  (try clear hi)
  refine hK.out _ _ ⟨(blk_cell Zcb.out 0).trans rfl, (blk_cell Zcb.out 1).trans rfl, (blk_cell Zcb.out 2).trans rfl, (blk_cell Zcb.out 3).trans rfl, (blk_cell Zdb.out 0).trans rfl, (blk_cell Zdb.out 1).trans rfl, (blk_cell Zdb.out 2).trans rfl, (blk_cell Zdb.out 3).trans rfl, (blk_cell Zfx.out 0).trans rfl, (blk_cell Zfx.out 1).trans rfl, (blk_cell Zfx.out 2).trans rfl, (blk_cell Zfx.out 3).trans rfl, (blk_cell Zib.out 0).trans rfl, (blk_cell Zib.out 1).trans rfl, (blk_cell Zib.out 2).trans rfl, (blk_cell Zib.out 3).trans rfl, (blk_cell Zqp.out 0).trans rfl, (blk_cell Zqp.out 1).trans rfl, (blk_cell Zqp.out 2).trans rfl, (blk_cell Zqp.out 3).trans rfl, (blk_cell Zb.out 0).trans rfl, (blk_cell Zb.out 1).trans rfl, (blk_cell Zb.out 2).trans rfl, (blk_cell Zb.out 3).trans rfl⟩ (fun hHeld => ?_)
  clear hK K
  refine norm_ (a' := ?_) ?_ ?_
  rotate_left
  · show Act.put _ (some 98) _ = _
    simp only [Act.put, List.setIfInBounds_toArray, List.set_cons_zero, List.set_cons_succ, i64_w, i32_w]
    rfl
  refine pure_ (i := 32) (N := some 99) (v := ?_) (a' := ?_) #[true, true, true, true, true, true, true, true, true, true, true, true, true, true, true, true, true, true, true, true, true, true, true, true, true, true, true, true, true, true, true, true, true, false, false, false, false, false, false, false, false, false, false, false, false, false, false, false, false, false, false, false, false, false, false, false, false] rfl rfl (any_of HT_.out (by kernel_rfl)) (fun _ _ _ h => h) (Or.inl ⟨by rfl, ?_⟩) ?_ ?_
  rotate_left
  · intro w'
    go_simp
    with_reducible rfl
  rotate_left
  · simp only [Act.put, List.setIfInBounds_toArray, List.set_cons_zero, List.set_cons_succ, i64_w, i32_w]
    rfl
  refine pure_ (i := 33) (N := some 100) (v := ?_) (a' := ?_) #[true, true, true, true, true, true, true, true, true, true, true, true, true, true, true, true, true, true, true, true, true, true, true, true, true, true, true, true, true, true, true, true, true, true, false, false, false, false, false, false, false, false, false, false, false, false, false, false, false, false, false, false, false, false, false, false, false] rfl rfl (any_of HT_.out (by kernel_rfl)) (fun _ _ _ h => h) (Or.inl ⟨by rfl, ?_⟩) ?_ ?_
  rotate_left
  · intro w'
    go_simp
    with_reducible rfl
  rotate_left
  · simp only [Act.put, List.setIfInBounds_toArray, List.set_cons_zero, List.set_cons_succ, i64_w, i32_w]
    rfl
  refine pure_ (i := 34) (N := some 101) (v := ?_) (a' := ?_) #[true, true, true, true, true, true, true, true, true, true, true, true, true, true, true, true, true, true, true, true, true, true, true, true, true, true, true, true, true, true, true, true, true, true, true, false, false, false, false, false, false, false, false, false, false, false, false, false, false, false, false, false, false, false, false, false, false] rfl rfl (any_of HT_.out (by kernel_rfl)) (fun _ _ _ h => h) (Or.inl ⟨by rfl, ?_⟩) ?_ ?_
  rotate_left
  · intro w'
    go_simp
    with_reducible rfl
  rotate_left
  · simp only [Act.put, List.setIfInBounds_toArray, List.set_cons_zero, List.set_cons_succ, i64_w, i32_w]
    rfl
  refine take_ (i := 35) (N := some 102) (v := ?_) (a' := ?_) #[true, true, true, true, true, true, true, true, true, true, true, true, true, true, true, true, true, true, true, true, true, true, true, true, true, true, true, true, true, true, true, true, true, true, true, true, false, false, false, false, false, false, false, false, false, false, false, false, false, false, false, false, false, false, false, false, false] rfl rfl (take_ofW HT_.out HW_.out (by kernel_rfl)) (fun _ _ _ h => h) (Or.inl ⟨by rfl, ?_⟩) hHeld ?_ ?_
  rotate_left
  · rintro w' ⟨s0, s1, s2, s3, s4, s5, s6, s7, s8, s9, s10, s11, s12, s13, s14, s15, s16, s17, s18, s19, s20, s21, s22, s23⟩
    go_simp
    with_reducible rfl
  rotate_left
  · simp only [Act.put, List.setIfInBounds_toArray, List.set_cons_zero, List.set_cons_succ, i64_w, i32_w]
    rfl
  refine one_ (i := 36) (N := some 103) #[true, true, true, true, true, true, true, true, true, true, true, true, true, true, true, true, true, true, true, true, true, true, true, true, true, true, true, true, true, true, true, true, true, true, true, true, true, false, false, false, false, false, false, false, false, false, false, false, false, false, false, false, false, false, false, false, false] rfl rfl (one_of HT_.out (by kernel_rfl)) (by decide) (fun K hK => ?_)
  refine goes_ Try.func26 (by kernel_rfl) rfl #[.agg #[.int .i64 t341, .int .i64 t342, .int .i64 t343, .int .i64 t344]] (by rfl) rfl rfl (by (try simp only [List.map_toArray, List.map_cons, List.map_nil]); first | done | rfl | (simp only [List.length_drop, List.length_take]; rfl)) ?_
  with_reducible refine (impl_SignOf.calls k t341 t342 t343 t344 t392 _ A25.out).mono ?_
  rintro e w122 ⟨rfl, hb⟩
  refine ⟨_, rfl, ?_⟩
  have n0_ := mA (blk_below (g := Za) (o := cQ25 t326 t327 t328 t329) Zb.out hb)
  have n1_ := mA (blk_below (g := Ze) (o := cQ25 t330 t331 t332 t333) Zf.out hb)
  have n2_ := mA (blk_below (g := Zk) (o := cQ25 t334 t335 t336 t337) Zm.out hb)
  have n3_ := mA (blk_below (g := Zca) (o := cQ25 t341 t342 t343 t344) Zcb.out hb)
  have n4_ := mA (blk_below (g := Zda) (o := cQ25 t347 t348 t349 t350) Zdb.out hb)
  have n5_ := mA (blk_below (g := Zen) (o := cQ25 t353 t354 t355 t356) Zep.out hb)
  have n6_ := mA (blk_below (g := Zfw) (o := cQ25 t359 t360 t361 t362) Zfx.out hb)
  have n7_ := mA (blk_below (g := Zia) (o := cQ25 t365 t366 t367 t368) Zib.out hb)
  have n8_ := mA (blk_below (g := Zjs) (o := cQ25 t376 t377 t378 t379) Zjt.out hb)
  have n9_ := mA (blk_below (g := Zqn) (o := cQ25 t382 t383 t384 t385) Zqp.out hb)
  have n10_ := mA (below_step (by repeat (first | (with_reducible first | exact HB.out | apply below_alloc | apply pw_below_drewN | apply below_drew1 | refine below_set ?_ Zd.out | refine below_set ?_ Zh.out | refine below_set ?_ Zp.out | refine below_set ?_ Zcd.out | refine below_set ?_ Zdd.out | refine below_set ?_ Zer.out | refine below_set ?_ Zfz.out | refine below_set ?_ Zid.out | refine below_set ?_ Zjv.out | refine below_set ?_ Zqr.out) | exact HB.out)) hb)
  clear Zb
  clear Zf
  clear Zm
  clear Zcb
  clear Zdb
  clear Zep
  clear Zfx
  clear Zib
  clear Zjt
  clear Zqp
  clear HB
  have Zb := n0_
  have Zf := n1_
  have Zm := n2_
  have Zcb := n3_
  have Zdb := n4_
  have Zep := n5_
  have Zfx := n6_
  have Zib := n7_
  have Zjt := n8_
  have Zqp := n9_
  have HB := n10_
  clear n0_ n1_ n2_ n3_ n4_ n5_ n6_ n7_ n8_ n9_ n10_
  (try clear hb)
  (try clear hb2)
  (try clear hk)
  (try clear hi)
  refine hK.out _ _ ⟨(blk_cell Zcb.out 0).trans rfl, (blk_cell Zcb.out 1).trans rfl, (blk_cell Zcb.out 2).trans rfl, (blk_cell Zcb.out 3).trans rfl, (blk_cell Zdb.out 0).trans rfl, (blk_cell Zdb.out 1).trans rfl, (blk_cell Zdb.out 2).trans rfl, (blk_cell Zdb.out 3).trans rfl, (blk_cell Zfx.out 0).trans rfl, (blk_cell Zfx.out 1).trans rfl, (blk_cell Zfx.out 2).trans rfl, (blk_cell Zfx.out 3).trans rfl, (blk_cell Zib.out 0).trans rfl, (blk_cell Zib.out 1).trans rfl, (blk_cell Zib.out 2).trans rfl, (blk_cell Zib.out 3).trans rfl, (blk_cell Zqp.out 0).trans rfl, (blk_cell Zqp.out 1).trans rfl, (blk_cell Zqp.out 2).trans rfl, (blk_cell Zqp.out 3).trans rfl, (blk_cell Zb.out 0).trans rfl, (blk_cell Zb.out 1).trans rfl, (blk_cell Zb.out 2).trans rfl, (blk_cell Zb.out 3).trans rfl⟩ (fun hHeld => ?_)
  clear hK K
  refine norm_ (a' := ?_) ?_ ?_
  rotate_left
  · show Act.put _ (some 103) _ = _
    simp only [Act.put, List.setIfInBounds_toArray, List.set_cons_zero, List.set_cons_succ, i64_w, i32_w]
    rfl
  refine pure_ (i := 37) (N := some 104) (v := ?_) (a' := ?_) #[true, true, true, true, true, true, true, true, true, true, true, true, true, true, true, true, true, true, true, true, true, true, true, true, true, true, true, true, true, true, true, true, true, true, true, true, true, true, false, false, false, false, false, false, false, false, false, false, false, false, false, false, false, false, false, false, false] rfl rfl (any_of HT_.out (by kernel_rfl)) (fun _ _ _ h => h) (Or.inl ⟨by rfl, ?_⟩) ?_ ?_
  rotate_left
  · intro w'
    go_simp
    with_reducible rfl
  rotate_left
  · simp only [Act.put, List.setIfInBounds_toArray, List.set_cons_zero, List.set_cons_succ, i64_w, i32_w]
    rfl
  refine pure_ (i := 38) (N := some 105) (v := ?_) (a' := ?_) #[true, true, true, true, true, true, true, true, true, true, true, true, true, true, true, true, true, true, true, true, true, true, true, true, true, true, true, true, true, true, true, true, true, true, true, true, true, true, true, false, false, false, false, false, false, false, false, false, false, false, false, false, false, false, false, false, false] rfl rfl (any_of HT_.out (by kernel_rfl)) (fun _ _ _ h => h) (Or.inl ⟨by rfl, ?_⟩) ?_ ?_
  rotate_left
  · intro w'
    go_simp
    with_reducible rfl
  rotate_left
  · simp only [Act.put, List.setIfInBounds_toArray, List.set_cons_zero, List.set_cons_succ, i64_w, i32_w]
    rfl
  refine pure_ (i := 39) (N := some 106) (v := ?_) (a' := ?_) #[true, true, true, true, true, true, true, true, true, true, true, true, true, true, true, true, true, true, true, true, true, true, true, true, true, true, true, true, true, true, true, true, true, true, true, true, true, true, true, true, false, false, false, false, false, false, false, false, false, false, false, false, false, false, false, false, false] rfl rfl (any_of HT_.out (by kernel_rfl)) (fun _ _ _ h => h) (Or.inl ⟨by rfl, ?_⟩) ?_ ?_
  rotate_left
  · intro w'
    go_simp
    with_reducible rfl
  rotate_left
  · simp only [Act.put, List.setIfInBounds_toArray, List.set_cons_zero, List.set_cons_succ, i64_w, i32_w]
    rfl
  refine take_ (i := 40) (N := some 107) (v := ?_) (a' := ?_) #[true, true, true, true, true, true, true, true, true, true, true, true, true, true, true, true, true, true, true, true, true, true, true, true, true, true, true, true, true, true, true, true, true, true, true, true, true, true, true, true, true, false, false, false, false, false, false, false, false, false, false, false, false, false, false, false, false] rfl rfl (take_ofW HT_.out HW_.out (by kernel_rfl)) (fun _ _ _ h => h) (Or.inl ⟨by rfl, ?_⟩) hHeld ?_ ?_
  rotate_left
  · rintro w' ⟨s0, s1, s2, s3, s4, s5, s6, s7, s8, s9, s10, s11, s12, s13, s14, s15, s16, s17, s18, s19, s20, s21, s22, s23⟩
    go_simp
    with_reducible rfl
  rotate_left
  · simp only [Act.put, List.setIfInBounds_toArray, List.set_cons_zero, List.set_cons_succ, i64_w, i32_w]
    rfl
  refine one_ (i := 41) (N := some 108) #[true, true, true, true, true, true, true, true, true, true, true, true, true, true, true, true, true, true, true, true, true, true, true, true, true, true, true, true, true, true, true, true, true, true, true, true, true, true, true, true, true, true, false, false, false, false, false, false, false, false, false, false, false, false, false, false, false] rfl rfl (one_of HT_.out (by kernel_rfl)) (by decide) (fun K hK => ?_)
  refine goes_ Try.func25 (by kernel_rfl) rfl #[.int .i64 1, .int .i64 0, .int .i64 0] (by rfl) rfl rfl (by (try simp only [List.map_toArray, List.map_cons, List.map_nil]); first | done | rfl | (simp only [List.length_drop, List.length_take]; rfl)) ?_
  with_reducible refine (impl_PureOf.calls 1 0 0 t393 t394 t395 t396 _ A27.out).mono ?_
  rintro e w123 ⟨rfl, hb⟩
  refine ⟨_, rfl, ?_⟩
  have n0_ := mA (blk_below (g := Za) (o := cQ25 t326 t327 t328 t329) Zb.out hb)
  have n1_ := mA (blk_below (g := Ze) (o := cQ25 t330 t331 t332 t333) Zf.out hb)
  have n2_ := mA (blk_below (g := Zk) (o := cQ25 t334 t335 t336 t337) Zm.out hb)
  have n3_ := mA (blk_below (g := Zca) (o := cQ25 t341 t342 t343 t344) Zcb.out hb)
  have n4_ := mA (blk_below (g := Zda) (o := cQ25 t347 t348 t349 t350) Zdb.out hb)
  have n5_ := mA (blk_below (g := Zen) (o := cQ25 t353 t354 t355 t356) Zep.out hb)
  have n6_ := mA (blk_below (g := Zfw) (o := cQ25 t359 t360 t361 t362) Zfx.out hb)
  have n7_ := mA (blk_below (g := Zia) (o := cQ25 t365 t366 t367 t368) Zib.out hb)
  have n8_ := mA (blk_below (g := Zjs) (o := cQ25 t376 t377 t378 t379) Zjt.out hb)
  have n9_ := mA (blk_below (g := Zqn) (o := cQ25 t382 t383 t384 t385) Zqp.out hb)
  have n10_ := mA (below_step (by repeat (first | (with_reducible first | exact HB.out | apply below_alloc | apply pw_below_drewN | apply below_drew1 | refine below_set ?_ Zd.out | refine below_set ?_ Zh.out | refine below_set ?_ Zp.out | refine below_set ?_ Zcd.out | refine below_set ?_ Zdd.out | refine below_set ?_ Zer.out | refine below_set ?_ Zfz.out | refine below_set ?_ Zid.out | refine below_set ?_ Zjv.out | refine below_set ?_ Zqr.out) | exact HB.out)) hb)
  clear Zb
  clear Zf
  clear Zm
  clear Zcb
  clear Zdb
  clear Zep
  clear Zfx
  clear Zib
  clear Zjt
  clear Zqp
  clear HB
  have Zb := n0_
  have Zf := n1_
  have Zm := n2_
  have Zcb := n3_
  have Zdb := n4_
  have Zep := n5_
  have Zfx := n6_
  have Zib := n7_
  have Zjt := n8_
  have Zqp := n9_
  have HB := n10_
  clear n0_ n1_ n2_ n3_ n4_ n5_ n6_ n7_ n8_ n9_ n10_
  (try clear hb)
  (try clear hb2)
  (try clear hk)
  (try clear hi)
  refine hK.out _ _ ⟨(blk_cell Zcb.out 0).trans rfl, (blk_cell Zcb.out 1).trans rfl, (blk_cell Zcb.out 2).trans rfl, (blk_cell Zcb.out 3).trans rfl, (blk_cell Zdb.out 0).trans rfl, (blk_cell Zdb.out 1).trans rfl, (blk_cell Zdb.out 2).trans rfl, (blk_cell Zdb.out 3).trans rfl, (blk_cell Zfx.out 0).trans rfl, (blk_cell Zfx.out 1).trans rfl, (blk_cell Zfx.out 2).trans rfl, (blk_cell Zfx.out 3).trans rfl, (blk_cell Zib.out 0).trans rfl, (blk_cell Zib.out 1).trans rfl, (blk_cell Zib.out 2).trans rfl, (blk_cell Zib.out 3).trans rfl, (blk_cell Zqp.out 0).trans rfl, (blk_cell Zqp.out 1).trans rfl, (blk_cell Zqp.out 2).trans rfl, (blk_cell Zqp.out 3).trans rfl, (blk_cell Zb.out 0).trans rfl, (blk_cell Zb.out 1).trans rfl, (blk_cell Zb.out 2).trans rfl, (blk_cell Zb.out 3).trans rfl⟩ (fun hHeld => ?_)
  clear hK K
  refine norm_ (a' := ?_) ?_ ?_
  rotate_left
  · show Act.put _ (some 108) _ = _
    simp only [Act.put, List.setIfInBounds_toArray, List.set_cons_zero, List.set_cons_succ, i64_w, i32_w]
    rfl
  refine one_ (i := 42) (N := some 109) #[true, true, true, true, true, true, true, true, true, true, true, true, true, true, true, true, true, true, true, true, true, true, true, true, true, true, true, true, true, true, true, true, true, true, true, true, true, true, true, true, true, true, true, false, false, false, false, false, false, false, false, false, false, false, false, false, false] rfl rfl (one_of HT_.out (by kernel_rfl)) (by decide) (fun K hK => ?_)
  refine goes_ Try.func30 (by kernel_rfl) rfl #[.agg #[.int .i64 t341, .int .i64 t342, .int .i64 t343, .int .i64 t344], .agg #[.int .i64 t393, .int .i64 t394, .int .i64 t395, .int .i64 t396]] (by rfl) rfl rfl (by (try simp only [List.map_toArray, List.map_cons, List.map_nil]); first | done | rfl | (simp only [List.length_drop, List.length_take]; rfl)) ?_
  with_reducible refine (impl_CompareIntervals.calls k t341 t342 t343 t344 t393 t394 t395 t396 t397 _ A28.out).mono ?_
  rintro e w124 ⟨rfl, hb⟩
  refine ⟨_, rfl, ?_⟩
  have n0_ := mA (blk_below (g := Za) (o := cQ25 t326 t327 t328 t329) Zb.out hb)
  have n1_ := mA (blk_below (g := Ze) (o := cQ25 t330 t331 t332 t333) Zf.out hb)
  have n2_ := mA (blk_below (g := Zk) (o := cQ25 t334 t335 t336 t337) Zm.out hb)
  have n3_ := mA (blk_below (g := Zca) (o := cQ25 t341 t342 t343 t344) Zcb.out hb)
  have n4_ := mA (blk_below (g := Zda) (o := cQ25 t347 t348 t349 t350) Zdb.out hb)
  have n5_ := mA (blk_below (g := Zen) (o := cQ25 t353 t354 t355 t356) Zep.out hb)
  have n6_ := mA (blk_below (g := Zfw) (o := cQ25 t359 t360 t361 t362) Zfx.out hb)
  have n7_ := mA (blk_below (g := Zia) (o := cQ25 t365 t366 t367 t368) Zib.out hb)
  have n8_ := mA (blk_below (g := Zjs) (o := cQ25 t376 t377 t378 t379) Zjt.out hb)
  have n9_ := mA (blk_below (g := Zqn) (o := cQ25 t382 t383 t384 t385) Zqp.out hb)
  have n10_ := mA (below_step (by repeat (first | (with_reducible first | exact HB.out | apply below_alloc | apply pw_below_drewN | apply below_drew1 | refine below_set ?_ Zd.out | refine below_set ?_ Zh.out | refine below_set ?_ Zp.out | refine below_set ?_ Zcd.out | refine below_set ?_ Zdd.out | refine below_set ?_ Zer.out | refine below_set ?_ Zfz.out | refine below_set ?_ Zid.out | refine below_set ?_ Zjv.out | refine below_set ?_ Zqr.out) | exact HB.out)) hb)
  clear Zb
  clear Zf
  clear Zm
  clear Zcb
  clear Zdb
  clear Zep
  clear Zfx
  clear Zib
  clear Zjt
  clear Zqp
  clear HB
  have Zb := n0_
  have Zf := n1_
  have Zm := n2_
  have Zcb := n3_
  have Zdb := n4_
  have Zep := n5_
  have Zfx := n6_
  have Zib := n7_
  have Zjt := n8_
  have Zqp := n9_
  have HB := n10_
  clear n0_ n1_ n2_ n3_ n4_ n5_ n6_ n7_ n8_ n9_ n10_
  (try clear hb)
  (try clear hb2)
  (try clear hk)
  (try clear hi)
  refine hK.out _ _ ⟨(blk_cell Zcb.out 0).trans rfl, (blk_cell Zcb.out 1).trans rfl, (blk_cell Zcb.out 2).trans rfl, (blk_cell Zcb.out 3).trans rfl, (blk_cell Zdb.out 0).trans rfl, (blk_cell Zdb.out 1).trans rfl, (blk_cell Zdb.out 2).trans rfl, (blk_cell Zdb.out 3).trans rfl, (blk_cell Zfx.out 0).trans rfl, (blk_cell Zfx.out 1).trans rfl, (blk_cell Zfx.out 2).trans rfl, (blk_cell Zfx.out 3).trans rfl, (blk_cell Zib.out 0).trans rfl, (blk_cell Zib.out 1).trans rfl, (blk_cell Zib.out 2).trans rfl, (blk_cell Zib.out 3).trans rfl, (blk_cell Zqp.out 0).trans rfl, (blk_cell Zqp.out 1).trans rfl, (blk_cell Zqp.out 2).trans rfl, (blk_cell Zqp.out 3).trans rfl, (blk_cell Zb.out 0).trans rfl, (blk_cell Zb.out 1).trans rfl, (blk_cell Zb.out 2).trans rfl, (blk_cell Zb.out 3).trans rfl⟩ (fun hHeld => ?_)
  clear hK K
  refine norm_ (a' := ?_) ?_ ?_
  rotate_left
  · show Act.put _ (some 109) _ = _
    simp only [Act.put, List.setIfInBounds_toArray, List.set_cons_zero, List.set_cons_succ, i64_w, i32_w]
    rfl
  refine pure_ (i := 43) (N := some 110) (v := ?_) (a' := ?_) #[true, true, true, true, true, true, true, true, true, true, true, true, true, true, true, true, true, true, true, true, true, true, true, true, true, true, true, true, true, true, true, true, true, true, true, true, true, true, true, true, true, true, true, true, false, false, false, false, false, false, false, false, false, false, false, false, false] rfl rfl (any_of HT_.out (by kernel_rfl)) (fun _ _ _ h => h) (Or.inl ⟨by rfl, ?_⟩) ?_ ?_
  rotate_left
  · intro w'
    go_simp
    with_reducible rfl
  rotate_left
  · simp only [Act.put, List.setIfInBounds_toArray, List.set_cons_zero, List.set_cons_succ, i64_w, i32_w]
    rfl
  refine pure_ (i := 44) (N := some 111) (v := ?_) (a' := ?_) #[true, true, true, true, true, true, true, true, true, true, true, true, true, true, true, true, true, true, true, true, true, true, true, true, true, true, true, true, true, true, true, true, true, true, true, true, true, true, true, true, true, true, true, true, true, false, false, false, false, false, false, false, false, false, false, false, false] rfl rfl (any_of HT_.out (by kernel_rfl)) (fun _ _ _ h => h) (Or.inl ⟨by rfl, ?_⟩) ?_ ?_
  rotate_left
  · intro w'
    go_simp
    with_reducible rfl
  rotate_left
  · simp only [Act.put, List.setIfInBounds_toArray, List.set_cons_zero, List.set_cons_succ, i64_w, i32_w]
    rfl
  refine pure_ (i := 45) (N := some 112) (v := ?_) (a' := ?_) #[true, true, true, true, true, true, true, true, true, true, true, true, true, true, true, true, true, true, true, true, true, true, true, true, true, true, true, true, true, true, true, true, true, true, true, true, true, true, true, true, true, true, true, true, true, true, false, false, false, false, false, false, false, false, false, false, false] rfl rfl (any_of HT_.out (by kernel_rfl)) (fun _ _ _ h => h) (Or.inl ⟨by rfl, ?_⟩) ?_ ?_
  rotate_left
  · intro w'
    go_simp
    with_reducible rfl
  rotate_left
  · simp only [Act.put, List.setIfInBounds_toArray, List.set_cons_zero, List.set_cons_succ, i64_w, i32_w]
    rfl
  refine take_ (i := 46) (N := some 113) (v := ?_) (a' := ?_) #[true, true, true, true, true, true, true, true, true, true, true, true, true, true, true, true, true, true, true, true, true, true, true, true, true, true, true, true, true, true, true, true, true, true, true, true, true, true, true, true, true, true, true, true, true, true, true, false, false, false, false, false, false, false, false, false, false] rfl rfl (take_ofW HT_.out HW_.out (by kernel_rfl)) (fun _ _ _ h => h) (Or.inl ⟨by rfl, ?_⟩) hHeld ?_ ?_
  rotate_left
  · rintro w' ⟨s0, s1, s2, s3, s4, s5, s6, s7, s8, s9, s10, s11, s12, s13, s14, s15, s16, s17, s18, s19, s20, s21, s22, s23⟩
    go_simp
    with_reducible rfl
  rotate_left
  · simp only [Act.put, List.setIfInBounds_toArray, List.set_cons_zero, List.set_cons_succ, i64_w, i32_w]
    rfl
  refine take_ (i := 47) (N := some 114) (v := ?_) (a' := ?_) #[true, true, true, true, true, true, true, true, true, true, true, true, true, true, true, true, true, true, true, true, true, true, true, true, true, true, true, true, true, true, true, true, true, true, true, true, true, true, true, true, true, true, true, true, true, true, true, true, false, false, false, false, false, false, false, false, false] rfl rfl (take_ofW HT_.out HW_.out (by kernel_rfl)) (fun _ _ _ h => h) (Or.inl ⟨by rfl, ?_⟩) hHeld ?_ ?_
  rotate_left
  · rintro w' ⟨s0, s1, s2, s3, s4, s5, s6, s7, s8, s9, s10, s11, s12, s13, s14, s15, s16, s17, s18, s19, s20, s21, s22, s23⟩
    go_simp
    with_reducible rfl
  rotate_left
  · simp only [Act.put, List.setIfInBounds_toArray, List.set_cons_zero, List.set_cons_succ, i64_w, i32_w]
    rfl
  refine one_ (i := 48) (N := some 115) #[true, true, true, true, true, true, true, true, true, true, true, true, true, true, true, true, true, true, true, true, true, true, true, true, true, true, true, true, true, true, true, true, true, true, true, true, true, true, true, true, true, true, true, true, true, true, true, true, true, false, false, false, false, false, false, false, false] rfl rfl (one_of HT_.out (by kernel_rfl)) (by decide) (fun K hK => ?_)
  refine goes_ Try.func31 (by kernel_rfl) rfl #[.agg #[.int .i64 t326, .int .i64 t327, .int .i64 t328, .int .i64 t329]] (by rfl) rfl rfl (by (try simp only [List.map_toArray, List.map_cons, List.map_nil]); first | done | rfl | (simp only [List.length_drop, List.length_take]; rfl)) ?_
  with_reducible refine (impl_SimplestOf.calls k t326 t327 t328 t329 t398 t399 t400 t401 _ A30.out).mono ?_
  rintro e w125 ⟨rfl, hb⟩
  refine ⟨_, rfl, ?_⟩
  have n0_ := mA (blk_below (g := Za) (o := cQ25 t326 t327 t328 t329) Zb.out hb)
  have n1_ := mA (blk_below (g := Ze) (o := cQ25 t330 t331 t332 t333) Zf.out hb)
  have n2_ := mA (blk_below (g := Zk) (o := cQ25 t334 t335 t336 t337) Zm.out hb)
  have n3_ := mA (blk_below (g := Zca) (o := cQ25 t341 t342 t343 t344) Zcb.out hb)
  have n4_ := mA (blk_below (g := Zda) (o := cQ25 t347 t348 t349 t350) Zdb.out hb)
  have n5_ := mA (blk_below (g := Zen) (o := cQ25 t353 t354 t355 t356) Zep.out hb)
  have n6_ := mA (blk_below (g := Zfw) (o := cQ25 t359 t360 t361 t362) Zfx.out hb)
  have n7_ := mA (blk_below (g := Zia) (o := cQ25 t365 t366 t367 t368) Zib.out hb)
  have n8_ := mA (blk_below (g := Zjs) (o := cQ25 t376 t377 t378 t379) Zjt.out hb)
  have n9_ := mA (blk_below (g := Zqn) (o := cQ25 t382 t383 t384 t385) Zqp.out hb)
  have n10_ := mA (below_step (by repeat (first | (with_reducible first | exact HB.out | apply below_alloc | apply pw_below_drewN | apply below_drew1 | refine below_set ?_ Zd.out | refine below_set ?_ Zh.out | refine below_set ?_ Zp.out | refine below_set ?_ Zcd.out | refine below_set ?_ Zdd.out | refine below_set ?_ Zer.out | refine below_set ?_ Zfz.out | refine below_set ?_ Zid.out | refine below_set ?_ Zjv.out | refine below_set ?_ Zqr.out) | exact HB.out)) hb)
  clear Zb
  clear Zf
  clear Zm
  clear Zcb
  clear Zdb
  clear Zep
  clear Zfx
  clear Zib
  clear Zjt
  clear Zqp
  clear HB
  have Zb := n0_
  have Zf := n1_
  have Zm := n2_
  have Zcb := n3_
  have Zdb := n4_
  have Zep := n5_
  have Zfx := n6_
  have Zib := n7_
  have Zjt := n8_
  have Zqp := n9_
  have HB := n10_
  clear n0_ n1_ n2_ n3_ n4_ n5_ n6_ n7_ n8_ n9_ n10_
  (try clear hb)
  (try clear hb2)
  (try clear hk)
  (try clear hi)
  refine hK.out _ _ ⟨(blk_cell Zcb.out 0).trans rfl, (blk_cell Zcb.out 1).trans rfl, (blk_cell Zcb.out 2).trans rfl, (blk_cell Zcb.out 3).trans rfl, (blk_cell Zdb.out 0).trans rfl, (blk_cell Zdb.out 1).trans rfl, (blk_cell Zdb.out 2).trans rfl, (blk_cell Zdb.out 3).trans rfl, (blk_cell Zfx.out 0).trans rfl, (blk_cell Zfx.out 1).trans rfl, (blk_cell Zfx.out 2).trans rfl, (blk_cell Zfx.out 3).trans rfl, (blk_cell Zib.out 0).trans rfl, (blk_cell Zib.out 1).trans rfl, (blk_cell Zib.out 2).trans rfl, (blk_cell Zib.out 3).trans rfl, (blk_cell Zqp.out 0).trans rfl, (blk_cell Zqp.out 1).trans rfl, (blk_cell Zqp.out 2).trans rfl, (blk_cell Zqp.out 3).trans rfl, (blk_cell Zb.out 0).trans rfl, (blk_cell Zb.out 1).trans rfl, (blk_cell Zb.out 2).trans rfl, (blk_cell Zb.out 3).trans rfl⟩ (fun hHeld => ?_)
  clear hK K
  refine norm_ (a' := ?_) ?_ ?_
  rotate_left
  · show Act.put _ (some 115) _ = _
    simp only [Act.put, List.setIfInBounds_toArray, List.set_cons_zero, List.set_cons_succ, i64_w, i32_w]
    rfl
  refine pure_ (i := 49) (N := some 116) (v := ?_) (a' := ?_) #[true, true, true, true, true, true, true, true, true, true, true, true, true, true, true, true, true, true, true, true, true, true, true, true, true, true, true, true, true, true, true, true, true, true, true, true, true, true, true, true, true, true, true, true, true, true, true, true, true, true, false, false, false, false, false, false, false] rfl rfl (any_of HT_.out (by kernel_rfl)) (fun _ _ _ h => h) (Or.inl ⟨by rfl, ?_⟩) ?_ ?_
  rotate_left
  · intro w'
    go_simp
    with_reducible rfl
  rotate_left
  · simp only [Act.put, List.setIfInBounds_toArray, List.set_cons_zero, List.set_cons_succ, i64_w, i32_w]
    rfl
  refine pure_ (i := 50) (N := some 117) (v := ?_) (a' := ?_) #[true, true, true, true, true, true, true, true, true, true, true, true, true, true, true, true, true, true, true, true, true, true, true, true, true, true, true, true, true, true, true, true, true, true, true, true, true, true, true, true, true, true, true, true, true, true, true, true, true, true, true, false, false, false, false, false, false] rfl rfl (any_of HT_.out (by kernel_rfl)) (fun _ _ _ h => h) (Or.inl ⟨by rfl, ?_⟩) ?_ ?_
  rotate_left
  · intro w'
    go_simp
    with_reducible rfl
  rotate_left
  · simp only [Act.put, List.setIfInBounds_toArray, List.set_cons_zero, List.set_cons_succ, i64_w, i32_w]
    rfl
  refine pure_ (i := 51) (N := some 118) (v := ?_) (a' := ?_) #[true, true, true, true, true, true, true, true, true, true, true, true, true, true, true, true, true, true, true, true, true, true, true, true, true, true, true, true, true, true, true, true, true, true, true, true, true, true, true, true, true, true, true, true, true, true, true, true, true, true, true, true, false, false, false, false, false] rfl rfl (any_of HT_.out (by kernel_rfl)) (fun _ _ _ h => h) (Or.inl ⟨by rfl, ?_⟩) ?_ ?_
  rotate_left
  · intro w'
    go_simp
    with_reducible rfl
  rotate_left
  · simp only [Act.put, List.setIfInBounds_toArray, List.set_cons_zero, List.set_cons_succ, i64_w, i32_w]
    rfl
  refine take_ (i := 52) (N := some 119) (v := ?_) (a' := ?_) #[true, true, true, true, true, true, true, true, true, true, true, true, true, true, true, true, true, true, true, true, true, true, true, true, true, true, true, true, true, true, true, true, true, true, true, true, true, true, true, true, true, true, true, true, true, true, true, true, true, true, true, true, true, false, false, false, false] rfl rfl (take_ofW HT_.out HW_.out (by kernel_rfl)) (fun _ _ _ h => h) (Or.inl ⟨by rfl, ?_⟩) hHeld ?_ ?_
  rotate_left
  · rintro w' ⟨s0, s1, s2, s3, s4, s5, s6, s7, s8, s9, s10, s11, s12, s13, s14, s15, s16, s17, s18, s19, s20, s21, s22, s23⟩
    go_simp
    with_reducible rfl
  rotate_left
  · simp only [Act.put, List.setIfInBounds_toArray, List.set_cons_zero, List.set_cons_succ, i64_w, i32_w]
    rfl
  refine take_ (i := 53) (N := some 120) (v := ?_) (a' := ?_) #[true, true, true, true, true, true, true, true, true, true, true, true, true, true, true, true, true, true, true, true, true, true, true, true, true, true, true, true, true, true, true, true, true, true, true, true, true, true, true, true, true, true, true, true, true, true, true, true, true, true, true, true, true, true, false, false, false] rfl rfl (take_ofW HT_.out HW_.out (by kernel_rfl)) (fun _ _ _ h => h) (Or.inl ⟨by rfl, ?_⟩) hHeld ?_ ?_
  rotate_left
  · rintro w' ⟨s0, s1, s2, s3, s4, s5, s6, s7, s8, s9, s10, s11, s12, s13, s14, s15, s16, s17, s18, s19, s20, s21, s22, s23⟩
    go_simp
    with_reducible rfl
  rotate_left
  · simp only [Act.put, List.setIfInBounds_toArray, List.set_cons_zero, List.set_cons_succ, i64_w, i32_w]
    rfl
  refine one_ (i := 54) (N := some 121) #[true, true, true, true, true, true, true, true, true, true, true, true, true, true, true, true, true, true, true, true, true, true, true, true, true, true, true, true, true, true, true, true, true, true, true, true, true, true, true, true, true, true, true, true, true, true, true, true, true, true, true, true, true, true, true, false, false] rfl rfl (one_of HT_.out (by kernel_rfl)) (by decide) (fun K hK => ?_)
  refine goes_ Try.func19 (by kernel_rfl) rfl #[.agg #[.int .i64 t326, .int .i64 t327, .int .i64 t328, .int .i64 t329], .agg #[.int .i64 t341, .int .i64 t342, .int .i64 t343, .int .i64 t344]] (by rfl) rfl rfl (by (try simp only [List.map_toArray, List.map_cons, List.map_nil]); first | done | rfl | (simp only [List.length_drop, List.length_take]; rfl)) ?_
  with_reducible refine (impl_SamePitchClass.calls k t326 t327 t328 t329 t341 t342 t343 t344 t402 _ A32.out).mono ?_
  rintro e w126 ⟨rfl, hb⟩
  refine ⟨_, rfl, ?_⟩
  have n0_ := mA (blk_below (g := Za) (o := cQ25 t326 t327 t328 t329) Zb.out hb)
  have n1_ := mA (blk_below (g := Ze) (o := cQ25 t330 t331 t332 t333) Zf.out hb)
  have n2_ := mA (blk_below (g := Zk) (o := cQ25 t334 t335 t336 t337) Zm.out hb)
  have n3_ := mA (blk_below (g := Zca) (o := cQ25 t341 t342 t343 t344) Zcb.out hb)
  have n4_ := mA (blk_below (g := Zda) (o := cQ25 t347 t348 t349 t350) Zdb.out hb)
  have n5_ := mA (blk_below (g := Zen) (o := cQ25 t353 t354 t355 t356) Zep.out hb)
  have n6_ := mA (blk_below (g := Zfw) (o := cQ25 t359 t360 t361 t362) Zfx.out hb)
  have n7_ := mA (blk_below (g := Zia) (o := cQ25 t365 t366 t367 t368) Zib.out hb)
  have n8_ := mA (blk_below (g := Zjs) (o := cQ25 t376 t377 t378 t379) Zjt.out hb)
  have n9_ := mA (blk_below (g := Zqn) (o := cQ25 t382 t383 t384 t385) Zqp.out hb)
  have n10_ := mA (below_step (by repeat (first | (with_reducible first | exact HB.out | apply below_alloc | apply pw_below_drewN | apply below_drew1 | refine below_set ?_ Zd.out | refine below_set ?_ Zh.out | refine below_set ?_ Zp.out | refine below_set ?_ Zcd.out | refine below_set ?_ Zdd.out | refine below_set ?_ Zer.out | refine below_set ?_ Zfz.out | refine below_set ?_ Zid.out | refine below_set ?_ Zjv.out | refine below_set ?_ Zqr.out) | exact HB.out)) hb)
  clear Zb
  clear Zf
  clear Zm
  clear Zcb
  clear Zdb
  clear Zep
  clear Zfx
  clear Zib
  clear Zjt
  clear Zqp
  clear HB
  have Zb := n0_
  have Zf := n1_
  have Zm := n2_
  have Zcb := n3_
  have Zdb := n4_
  have Zep := n5_
  have Zfx := n6_
  have Zib := n7_
  have Zjt := n8_
  have Zqp := n9_
  have HB := n10_
  clear n0_ n1_ n2_ n3_ n4_ n5_ n6_ n7_ n8_ n9_ n10_
  (try clear hb)
  (try clear hb2)
  (try clear hk)
  (try clear hi)
  refine hK.out _ _ ⟨(blk_cell Zcb.out 0).trans rfl, (blk_cell Zcb.out 1).trans rfl, (blk_cell Zcb.out 2).trans rfl, (blk_cell Zcb.out 3).trans rfl, (blk_cell Zdb.out 0).trans rfl, (blk_cell Zdb.out 1).trans rfl, (blk_cell Zdb.out 2).trans rfl, (blk_cell Zdb.out 3).trans rfl, (blk_cell Zfx.out 0).trans rfl, (blk_cell Zfx.out 1).trans rfl, (blk_cell Zfx.out 2).trans rfl, (blk_cell Zfx.out 3).trans rfl, (blk_cell Zib.out 0).trans rfl, (blk_cell Zib.out 1).trans rfl, (blk_cell Zib.out 2).trans rfl, (blk_cell Zib.out 3).trans rfl, (blk_cell Zqp.out 0).trans rfl, (blk_cell Zqp.out 1).trans rfl, (blk_cell Zqp.out 2).trans rfl, (blk_cell Zqp.out 3).trans rfl, (blk_cell Zb.out 0).trans rfl, (blk_cell Zb.out 1).trans rfl, (blk_cell Zb.out 2).trans rfl, (blk_cell Zb.out 3).trans rfl⟩ (fun hHeld => ?_)
  clear hK K
  refine norm_ (a' := ?_) ?_ ?_
  rotate_left
  · show Act.put _ (some 121) _ = _
    simp only [Act.put, List.setIfInBounds_toArray, List.set_cons_zero, List.set_cons_succ, i64_w, i32_w]
    rfl
  refine pure_ (i := 55) (N := some 122) (v := ?_) (a' := ?_) #[true, true, true, true, true, true, true, true, true, true, true, true, true, true, true, true, true, true, true, true, true, true, true, true, true, true, true, true, true, true, true, true, true, true, true, true, true, true, true, true, true, true, true, true, true, true, true, true, true, true, true, true, true, true, true, true, false] rfl rfl (any_of HT_.out (by kernel_rfl)) (fun _ _ _ h => h) (Or.inl ⟨by rfl, ?_⟩) ?_ ?_
  rotate_left
  · intro w'
    go_simp
    with_reducible rfl
  rotate_left
  · simp only [Act.put, List.setIfInBounds_toArray, List.set_cons_zero, List.set_cons_succ, i64_w, i32_w]
    rfl
  refine pure_ (i := 56) (N := some 2) (v := ?_) (a' := ?_) #[true, true, true, true, true, true, true, true, true, true, true, true, true, true, true, true, true, true, true, true, true, true, true, true, true, true, true, true, true, true, true, true, true, true, true, true, true, true, true, true, true, true, true, true, true, true, true, true, true, true, true, true, true, true, true, true, true] rfl rfl (any_of HT_.out (by kernel_rfl)) (fun _ _ _ h => h) (Or.inl ⟨by rfl, ?_⟩) ?_ ?_
  rotate_left
  · intro w'
    go_simp
    with_reducible rfl
  rotate_left
  · simp only [Act.put, List.setIfInBounds_toArray, List.set_cons_zero, List.set_cons_succ, i64_w, i32_w]
    rfl
  refine done_ (done_of HT_.out (by kernel_rfl)) ?_
  try go_wp2
  go_ret
  exact ⟨by first | rfl | (simp [errW_none, errW_some] <;> rfl) | (simp [*, errW_none, errW_some] <;> rfl), by repeat (first | (with_reducible first | exact HB.out | apply below_alloc | apply pw_below_drewN | apply below_drew1 | refine below_set ?_ Zd.out | refine below_set ?_ Zh.out | refine below_set ?_ Zp.out | refine below_set ?_ Zcd.out | refine below_set ?_ Zdd.out | refine below_set ?_ Zer.out | refine below_set ?_ Zfz.out | refine below_set ?_ Zid.out | refine below_set ?_ Zjv.out | refine below_set ?_ Zqr.out) | exact HB.out)⟩

end Go.Proofs.Ytfimodphnfejdaa.PFnOctaves
