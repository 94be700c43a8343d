/- The row of the law FnExactCountSizes: for all arguments it returns true, and its arguments read as before. Written by a program of this session (genrow.py) after the form of the printed rows. -/
import Derived.Test.YthkkibepninneaaRows
import Derived.Test.YthkkibepninneaaQFnExactCountSizesy8
import Derived.Test.YthkkibepninneaaPureFnExactCountSizes
import Derived.WalkKit
import Derived.ProofKit
import Derived.OpenShut
import Derived.ShutString
import Derived.ChangeOld
import Derived.Below
import Derived.SizedLaws
import Derived.Lib.SmallJoins
import Derived.ChangeSlices
import Derived.Deep.Slices
import Derived.Deep.Fields
import Derived.ChangeSame
namespace Go.Proofs.Ythkkibepninneaa.fnExactCountSizes
open Go.ChangeShapes Go.WideShapes Go.ChangeAt Go.RowKit Go.Joins Go.Proofs.YthkkibepninneaaW Go.Proofs.YthkkibepninneaaW.PrintWords
open Go.ChangeMaps (open_string shut_string)
set_option linter.unusedVariables false
set_option linter.unusedSimpArgs false
theorem own : ownKnob Try.prog.godebug = none := by kernel_rfl
theorem cellsS : Try.prog.cellsOf 23 = 4 := by kernel_rfl
theorem laidOutS : laidOutB Try.prog = true := by kernel_rfl
/-- A slice of structs of four whole numbers that came in, read as a list. -/
theorem readIvs {H : Type} {enc : TypeId × Value → H} {W : World} {a : Option Addr} {len cap : Nat} {d : DataW H} {p : List MemPlace} (h : DataW.Trod enc Try.prog W 0 (fun _ => true) true 41 (.slice a len cap) d p) :
    ∃ zs : List PFnExactCountSizes.S23, zs.length = len ∧ len ≤ cap ∧ len ≤ 9223372036854775807 ∧ Kd.C PFnExactCountSizes.k23 W a zs.length zs := by
  obtain ⟨fuel, hf⟩ := h
  rcases Go.Deep.open_slice Try.underlying41 hf with ⟨hcs, _⟩ | ⟨x, l, c, m, n, D, Pl, hcs, hb, hl, hm, hmm, hx, hi⟩
  · simp [Value.cells] at hcs
    obtain ⟨rfl, rfl, rfl⟩ := hcs
    exact ⟨[], rfl, Nat.le_refl _, by omega, rfl, by simp, by simp⟩
  · simp [Value.cells] at hcs
    obtain ⟨rfl, rfl, rfl⟩ := hcs
    have hlm : len ≤ m := by rw [hmm]; split; exact hl; exact Nat.le_refl _
    have each : ∀ i : Nat, ∃ z : PFnExactCountSizes.S23, i < len → (∀ j u, ([.int .i64 z.f0, .int .i64 z.f1, .int .i64 z.f2, .int .i64 z.f3] : List Value)[j]? = some u → W.cell? (x.add (i * 4 + j)) = some u) := by
      intro i
      by_cases hlt : i < len
      · obtain ⟨cs', hc, ht'⟩ := hi i (by omega)
        rw [cellsS] at hc
        obtain ⟨_, hcl, hat⟩ := World.cells?_some hc
        match cs', hcl with
        | [c0, c1, c2, c3], _ =>
          have hat0 := hat 0 (by omega)
          have hat1 := hat 1 (by omega)
          have hat2 := hat 2 (by omega)
          have hat3 := hat 3 (by omega)
          obtain ⟨y0, y1, y2, y3, n', _, _, t0, t1, t2, t3⟩ := trod_struct4 Try.underlying23 ht'
          have hC : Try.prog.cellsOf 3 = 1 := by kernel_rfl
          simp only [hC] at t0 t1 t2 t3
          obtain ⟨a0, e0, _, _⟩ := DataW.trod_int Try.underlying3 t0
          obtain ⟨a1, e1, _, _⟩ := DataW.trod_int Try.underlying3 t1
          obtain ⟨a2, e2, _, _⟩ := DataW.trod_int Try.underlying3 t2
          obtain ⟨a3, e3, _, _⟩ := DataW.trod_int Try.underlying3 t3
          simp at e0 e1 e2 e3
          subst e0 e1 e2 e3
          refine ⟨⟨a0, a1, a2, a3⟩, fun _ j u hj => ?_⟩
          rw [← Go.Deep.add_add]
          match j, hj with
          | 0, hj => simp at hj; subst hj; simpa using hat0
          | 1, hj => simp at hj; subst hj; simpa using hat1
          | 2, hj => simp at hj; subst hj; simpa using hat2
          | 3, hj => simp at hj; subst hj; simpa using hat3
          | j + 4, hj => simp at hj
      · exact ⟨⟨0, 0, 0, 0⟩, fun q => absurd q hlt⟩
    let f : Nat → PFnExactCountSizes.S23 := fun i => Classical.choose (each i)
    have hf2 : ∀ i, i < len → ∀ j u, ([.int .i64 (f i).f0, .int .i64 (f i).f1, .int .i64 (f i).f2, .int .i64 (f i).f3] : List Value)[j]? = some u → W.cell? (x.add (i * 4 + j)) = some u := fun i => Classical.choose_spec (each i)
    have hcap : len ≤ 9223372036854775807 := by unfold maxLen at hm; omega
    refine ⟨(List.range len).map f, by simp, hl, hcap, ?_⟩
    refine ⟨rfl, by simpa using hcap, fun _ => ⟨x, rfl, fun j z hj => ?_⟩⟩
    simp only [List.getElem?_map, Option.map_eq_some_iff] at hj
    obtain ⟨q, hq, rfl⟩ := hj
    obtain ⟨hjl, he⟩ := List.getElem?_eq_some_iff.1 hq
    simp only [List.length_range] at hjl
    simp only [List.getElem_range] at he
    subst he
    exact ⟨_, rfl, PFnExactCountSizes.k23_mk W (f j), hf2 j hjl⟩
set_option maxRecDepth 100000 in
theorem lifted (os : Os) (started : os.Started) (H : Type) (enc : TypeId × Value → H) :
    ReturnsInHanded {} Try.checked os 10 .any (Rows.fnExactCountSizesSpec.pre6 enc Try.prog Try.f10 Rows.fnExactCountSizesRow.domain false) (Rows.fnExactCountSizesSpec.post enc Try.prog Try.f10 false true false false) := by
  refine returnsInHanded_of_change_sized (C := Try.checked) own started (by kernel_rfl) Try.func10
    (ChangeSpec.witness6 (enc := enc) (C := Try.checked) false ⟨#[], #[.slice none 0 0], []⟩ 8 (by kernel_rfl) (by kernel_rfl) (by kernel_rfl) (by kernel_rfl)) ?_
  intro W base args ds gs before hval0 hW hcnd hsz0 _
  have hsz : (DataW.weightsEach Try.prog (Try.f10.params.toList ++ Rows.fnExactCountSizesSpec.plain.varTypes Try.prog) (ds ++ gs)).all (· ≤ reachBytes) = true := hsz0
  have hval : ∀ (j : Nat) t v, Try.f10.params[j]? = some t → args[j]? = some v → Value.okWide Try.prog W .any base t v := hval0
  have hW' := hW
  obtain ⟨p, q, hA0, hV, rfl, hfz, hnd⟩ := hW
  have hA : DataW.TrodAll enc Try.prog W 0 (fun _ => true) true Try.f10.params.toList args.toList ds p := hA0
  rw [Try.params10] at hA hval hsz
  obtain ⟨v0, vs0, d0, ds0, p0, q0, hargs, rfl, rfl, h0, r0⟩ := trodAll_cons hA
  obtain ⟨rfl, rfl, rfl⟩ := trodAll_nil r0
  obtain rfl : args = #[v0] := by cases args; simp_all
  obtain ⟨rfl, rfl⟩ := trodVars_none hV
  obtain ⟨a0, len0, cap0, rfl⟩ := okWide_slice Try.underlying41 (hval 0 41 v0 rfl rfl)
  have k0 := h0
  have lt0 : ∀ x ∈ p0, x.block < W.heap.size := by obtain ⟨m, hm⟩ := k0; exact DataW.trod_lt m _ _ _ hm
  obtain ⟨l0, rfl, hc0, hm0, hr0⟩ := readIvs h0
  clear hA0 hval0 hsz0 hsz
  obtain ⟨k, hk⟩ := PureFnExactCountSizes.main l0 hm0
  refine (PFnExactCountSizes.laws_FnExactCountSizes.calls k _ _ l0 true W hr0 hc0 hk).mono fun e W' ⟨he, bel0⟩ => ?_
  have bel : Below W.heap.size W W' := bel0
  subst he
  exact ⟨_, rfl, _, _, _, [], _, [], hW', trodAll_mk1 (shut_bool Try.underlying4 _), (trodAll_cons_mk (Below.trod laidOutS (by kernel_rfl) (of_decide_eq_true (by kernel_rfl)) k0 bel lt0) trodAll_mk0), rfl, bel.frame _, fun h => by cases h⟩
theorem over : Rows.fnExactCountSizesRow.holds Try.pinned (OpenSpec.ofChange Rows.fnExactCountSizesSpec) :=
  OpenClaim.holds_of_wide 10 Try.f10 rfl rfl rfl rfl rfl rfl rfl ⟨rfl, rfl, rfl, rfl, rfl⟩ rfl rfl rfl rfl rfl (by kernel_rfl) Try.func10 (by kernel_rfl)
    (of_decide_eq_true (by kernel_rfl)) (by unfold Func.isWrapper; first | (rw [if_pos (by decide +kernel)]; kernel_rfl) | (rw [if_neg (by decide +kernel)]; exact ⟨rfl, rfl⟩))
    (fun os started H enc _ => lifted os started H enc)
theorem proved : Rows.FnExactCountSizesSaid := over
#print axioms proved
end Go.Proofs.Ythkkibepninneaa.fnExactCountSizes
namespace Go.Proofs.Ythkkibepninneaa
/-- The row, under a short name, for the claim. -/
theorem fnExactCountSizes_holds : Rows.FnExactCountSizesSaid := fnExactCountSizes.proved
end Go.Proofs.Ythkkibepninneaa
