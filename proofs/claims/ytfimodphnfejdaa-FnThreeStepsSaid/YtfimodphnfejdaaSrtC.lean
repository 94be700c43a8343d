/- impl.ChainOf over sort.SliceStable: what it hands back, given what its callees answer. -/
import Derived.Test.YtfimodphnfejdaaSrtL
import Derived.StillTailTactics
import Derived.Maps.AppendAt
namespace Go.Proofs.Ytfimodphnfejdaa.Srt
open Go.Shelf Go.RowKit Go.Lib Go.Sort Go.Proofs.YtfimodphnfejdaaW.PrintWords Go.Proofs.YtfimodphnfejdaaW.PrintLast Go.Proofs.YtfimodphnfejdaaW.PrintMore
set_option linter.unusedVariables false
set_option linter.unusedSimpArgs false
set_option maxHeartbeats 4000000 in
set_option maxRecDepth 100000 in
/-- The closure: it compares the two records that it reads. -/
theorem less_calls (blk off c ob size : Nat) (W : World) (d : Array E) (hob : W.cell? ⟨ob, 0, none⟩ = some (.slice (some ⟨blk, off, none⟩) size c)) (hH : HoldsK ec 4 W blk off d) (hd : d.size = size) (hsz : size < 1000000000) (i j : Nat) (hi : i < size) (hj : j < size) (qi qj : E) (hqi : d[i]! = qi) (hqj : d[j]! = qj) (b : Bool)
    (hcm : ∀ W, Calls Try.prog 30 #[.agg #[.int .i64 qi.1, .int .i64 qi.2.1, .int .i64 qi.2.2.1, .int .i64 qi.2.2.2], .agg #[.int .i64 qj.1, .int .i64 qj.2.1, .int .i64 qj.2.2.1, .int .i64 qj.2.2.2]] W fun e w' => (∃ v, e = .returned (.int .i64 v) ∧ decide (v < 0) = b) ∧ Below W.heap.size W w') :
    Calls Try.prog 55 #[.int .i64 i, .int .i64 j, .pointer (some ⟨ob, 0, none⟩)] W fun e w' => e = .returned (.bool b) ∧ Below W.heap.size W w' := by
  have ci : ∀ t (ht : t < 4), W.cell? ⟨blk, off + i * 4 + t, none⟩ = some (ec qi)[t]! := fun t ht => by rw [← hqi]; exact (hH.cell (by omega) ht).1
  have cj : ∀ t (ht : t < 4), W.cell? ⟨blk, off + j * 4 + t, none⟩ = some (ec qj)[t]! := fun t ht => by rw [← hqj]; exact (hH.cell (by omega) ht).1
  have ci0 : W.cell? ⟨blk, off + i * 4, none⟩ = some (.int .i64 qi.1) := ci 0 (by omega)
  have ci1 : W.cell? ⟨blk, off + i * 4 + 1, none⟩ = some (.int .i64 qi.2.1) := ci 1 (by omega)
  have ci2 : W.cell? ⟨blk, off + i * 4 + 2, none⟩ = some (.int .i64 qi.2.2.1) := ci 2 (by omega)
  have ci3 : W.cell? ⟨blk, off + i * 4 + 3, none⟩ = some (.int .i64 qi.2.2.2) := ci 3 (by omega)
  have cj0 : W.cell? ⟨blk, off + j * 4, none⟩ = some (.int .i64 qj.1) := cj 0 (by omega)
  have cj1 : W.cell? ⟨blk, off + j * 4 + 1, none⟩ = some (.int .i64 qj.2.1) := cj 1 (by omega)
  have cj2 : W.cell? ⟨blk, off + j * 4 + 2, none⟩ = some (.int .i64 qj.2.2.1) := cj 2 (by omega)
  have cj3 : W.cell? ⟨blk, off + j * 4 + 3, none⟩ = some (.int .i64 qj.2.2.2) := cj 3 (by omega)
  have HV := Aside0.mk hcm
  have b1 : (i : Int) < (size : Int) := by omega
  have b2 : (j : Int) < (size : Int) := by omega
  clear hcm ci cj hqi hqj
  go_enter Try.func55, Try.ntmps55
  go_wp2
  go_still_tail 8, (by kernel_rfl)
  change wpList _ _ _ _ _ W.drew
  go_wp2_with (go_at_call 30; with_reducible refine (HV.out _).mono ?_; rintro e w' ⟨⟨v, rfl, hv⟩, hb'⟩)
  go_ret
  exact ⟨by rw [← hv]; first | rfl | simp, (Below.refl W.heap.size W).drew.trans hb'⟩
end Go.Proofs.Ytfimodphnfejdaa.Srt
