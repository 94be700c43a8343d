/- sort.SliceStable at a slice of records of four whole numbers: the row is sorted. -/
import Derived.Test.YtfimodphnfejdaaSrtS
import Derived.Test.YtfimodphnfejdaaShS
namespace Go.Proofs.Ytfimodphnfejdaa.Srt
open Go.Shelf Go.RowKit Go.Lib Go.Sort Go.Proofs.YtfimodphnfejdaaW.PrintWords Go.Proofs.YtfimodphnfejdaaW.PrintLast Go.Proofs.YtfimodphnfejdaaW.PrintMore
set_option linter.unusedVariables false
set_option linter.unusedSimpArgs false
noncomputable def tiS : TypeInfo := (Try.prog.info? 45).get (by kernel_rfl)
noncomputable def tiE : TypeInfo := (Try.prog.info? 25).get (by kernel_rfl)
theorem swK (n : Nat) (h2 : 2 ≤ n) : Lib.swapperK n tiE 25 = 9 := by
  have a : tiE.hasPointers = false := by kernel_rfl
  have b : tiE.bytes = 32 := by kernel_rfl
  have c : (n == 0) = false := by simp; omega
  have d : (n == 1) = false := by simp; omega
  simp [Lib.swapperK, a, b, c, d]
theorem sliceStable_calls (g : Nat) (lb : Array Value) (blk off c : Nat) (w : World) (hblk : blk < w.heap.size)
    (eg : ∀ args w, (callFunc g args).run Try.prog w = .ok (.enter g args) w) (lt : E → E → Bool) (O : SWO lt) (S : Array E → Prop) (hS : ∀ d d' a b, S d → b ≤ d.size → PermIn a b d d' → S d') (hless : LessG Try.prog g lb lt S blk off w)
    (d : Array E) (hH : HoldsK ec 4 w blk off d) (hSd : S d) (h2 : 2 ≤ d.size) (hsz : d.size < 1000000000) :
    Calls Try.prog 54 #[.iface 45 (.slice (some ⟨blk, off, none⟩) d.size c), .func (.func g) #[] lb] w fun e w' => e = .returned (.tuple #[]) ∧ ∃ d', SortedIn lt 0 d.size d' ∧ PermIn 0 d.size d d' ∧ St w w' blk off d' := by
  have hf : Try.prog.funcs.findIdx? (·.name == "internal/reflectlite" ++ ".Swapper$" ++ toString (swapperK d.size tiE 25)) = some 81 := by rw [swK _ h2]; kernel_rfl
  have hx : ∀ args W, (callFunc 81 args).run Try.prog W = ((Extern.ReflectliteSwapper.swap false args).run Try.prog W).andThen fun v w' => .ok (.value v) w' :=
    fun args W => run_callFunc_extern Try.func81 (by kernel_rfl) (by kernel_rfl) (by kernel_rfl) (e := Extern.ReflectliteSwapper.swap false) (by kernel_rfl) args W
  have hswap := swapSwapsK_of_literal (P := Try.prog) false 81 hx 25 tiE (by kernel_rfl) ec 4 ec_len (by kernel_rfl) (fun _ => by kernel_rfl) ec_one blk off d.size c
  have hB : sliceBound Try.prog 25 tiE 25 (some ⟨blk, off, none⟩) d.size c = #[.slice (some ⟨blk, off, none⟩) d.size c, typeHandle Try.prog 25] := by
    unfold sliceBound; rw [if_neg (swapperK_gt _ _ _ h2)]
  have hst : St w (stableWorld Try.prog Try.laysGt8_ren 45 (some ⟨blk, off, none⟩) d.size c w) blk off d := by
    unfold stableWorld
    exact (St.below (St.below (St.self hH) hblk ((Below.refl _ _).alloc (Nat.le_refl _) _)) hblk ((Below.refl _ _).alloc (Nat.le_refl _) _))
  have hp := stable_calls g lb 81 (sliceBound Try.prog 25 tiE 25 (some ⟨blk, off, none⟩) d.size c) blk off d.size w hblk (by rw [hB]; exact hswap) hsz eg lt O S hS hless _ d hst rfl hSd d.size rfl
  have hc := Any.sort_SliceStable_of_stable Try.laysGt8 45 25 tiS tiE (by kernel_rfl) (by kernel_rfl) (by kernel_rfl) (by kernel_rfl) 25 (fun _ => by kernel_rfl) (some ⟨blk, off, none⟩) d.size c (by omega) 81 hf (.func g) #[] lb w
    (fun w' => ∃ d', SortedIn lt 0 d.size d' ∧ PermIn 0 d.size d d' ∧ St w w' blk off d') (hp.mono fun e w' h => ⟨h.1, by obtain ⟨d', a, b, c, _⟩ := h.2; exact ⟨d', a, b, c⟩⟩)
  exact hc
theorem sliceStable_one (g : Nat) (lb : Array Value) (blk off c : Nat) (w : World) :
    Calls Try.prog 54 #[.iface 45 (.slice (some ⟨blk, off, none⟩) 1 c), .func (.func g) #[] lb] w fun e w' => e = .returned (.tuple #[]) ∧ Below w.heap.size w w' := by
  have hc := Any.sort_SliceStable_tiny Try.laysGt8 45 25 tiS tiE (by kernel_rfl) (by kernel_rfl) (by kernel_rfl) (by kernel_rfl) 25 (fun _ => by kernel_rfl) (some ⟨blk, off, none⟩) 1 c (Nat.le_refl _) 74 (by kernel_rfl) (.func g) #[] lb w
  refine Calls.mono hc ?_
  rintro e w' ⟨he, os, rfl⟩
  exact ⟨he, ⟨rfl, rfl, rfl, by simp [Sort.grow], fun i hi => by
    show (w.heap ++ os)[i]? = _
    rw [Array.getElem?_append_left hi]⟩⟩
end Go.Proofs.Ytfimodphnfejdaa.Srt
