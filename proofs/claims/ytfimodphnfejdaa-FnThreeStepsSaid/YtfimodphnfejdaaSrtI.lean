/- sort.insertionSort_func at a slice of records of four whole numbers, for a 'less' that may lay blocks (the walk goes as the kit's own at elements of k cells). -/
import Derived.Test.YtfimodphnfejdaaSrtW
namespace Go.Proofs.Ytfimodphnfejdaa.Srt
open Go.Shelf Go.RowKit Go.Lib Go.Sort Go.Proofs.YtfimodphnfejdaaW.PrintWords Go.Proofs.YtfimodphnfejdaaW.PrintLast Go.Proofs.YtfimodphnfejdaaW.PrintMore
set_option linter.unusedVariables false
set_option linter.unusedSimpArgs false
theorem grown_cell {w W W' : World} {blk : Nat} (hblk : blk < w.heap.size) (hW : w.heap.size ≤ W.heap.size) (hb : W.grownBy W' (some blk)) {a : Addr} (ha : a.block < W.heap.size) (hne : a.block ≠ blk) : W'.cell? a = W.cell? a :=
  World.cell?_of_block (hb.block a.block ha (fun e => hne (Option.some.inj e)))

set_option maxHeartbeats 8000000 in
set_option maxRecDepth 100000 in
theorem insertion_calls (g : Nat) (lb : Array Value) (sf : Nat) (sb : Array Value) (blk off size : Nat) (w : World) (hblk : blk < w.heap.size) (hswap : SwapSwapsK Try.prog sf sb ec 4 blk off size) (hsz : size < 4611686018427387904)
    (eg : ∀ args w, (callFunc g args).run Try.prog w = .ok (.enter g args) w) (lt : E → E → Bool) (S : Array E → Prop) (hS : ∀ d i j, S d → i < d.size → j < d.size → S (swp d i j)) (hless : LessG Try.prog g lb lt S blk off w)
    (W : World) (d : Array E) (hst : St w W blk off d) (hd : d.size = size) (hSd : S d) (a b : Nat) (hab : a ≤ b) (hb : b ≤ size) :
    Calls Try.prog 82 #[.agg #[.func (.func g) #[] lb, .func (.func sf) #[] sb], .int .i64 a, .int .i64 b] W fun e w' => e = .returned (.tuple #[]) ∧ St w w' blk off (Sort.insertionSort lt d a b) ∧ S (Sort.insertionSort lt d a b) ∧ W.grownBy w' (some blk) := by
  have HH := Aside0.mk hst
  have HBl := Aside0.mk hblk
  have HSd := Aside0.mk hSd
  have HSc := Aside0.mk hS
  clear hst hSd hS
  go_enter Try.func82, Try.ntmps82
  go_wp2
  go_loopw [6] (fun vi wr => ∃ (i : Nat) (dk : Array E), vi = .int .i64 i ∧ a < i ∧ i ≤ b + 1 ∧ dk.size = size ∧ Aside0 (S dk ∧ insOuter lt a b i dk = insOuter lt a b (a + 1) d) ∧ Aside0 (St w wr blk off dk) ∧ Aside0 ((W.alloc (.cells #[.func (.func g) #[] lb, .func (.func sf) #[] sb] 78)).grownBy wr (some blk))) (fun vi _ => b + 1 - (intOf vi).toNat)
  case atStart => exact ⟨a + 1, d, by go_num, by omega, by omega, hd, ⟨HSd.out, rfl⟩, ⟨HH.out.below HBl.out ((Below.refl _ _).alloc (Nat.le_refl _) _)⟩, ⟨grown_refl _ _⟩⟩
  case round =>
    obtain ⟨i, dk, rfl, hai, hib, hsk, HO, HS, HG⟩ := hrel
    go_wp2
    · -- i < b: the inner loop
      go_loopw [7] (fun vj wr2 => ∃ (j : Nat) (dj : Array E), vj = .int .i64 j ∧ a ≤ j ∧ j ≤ i ∧ dj.size = size ∧ Aside0 (S dj ∧ insInner lt a j dj = insInner lt a i dk) ∧ Aside0 (St w wr2 blk off dj) ∧ Aside0 ((W.alloc (.cells #[.func (.func g) #[] lb, .func (.func sf) #[] sb] 78)).grownBy wr2 (some blk))) (fun vj _ => (intOf vj).toNat)
      case atStart => exact ⟨i, dk, rfl, by omega, Nat.le_refl _, hsk, ⟨HO.out.1, rfl⟩, HS, HG⟩
      case round =>
        obtain ⟨j, dj, rfl, haj, hji, hsj, HI, HS2, HG2⟩ := hrel
        have hlt : i < b := by assumption
        have c0 : wr.cell? ⟨W.heap.size, 0, none⟩ = some (.func (.func g) #[] lb) := box_cell HBl.out HH.out.grown.size HG2.out 0 _ rfl
        have c1 : wr.cell? ⟨W.heap.size, 1, none⟩ = some (.func (.func sf) #[] sb) := box_cell HBl.out HH.out.grown.size HG2.out 1 _ rfl
        have hWr : W.heap.size < wr.heap.size := by have := HG2.out.size; simp at this; omega
        have HC1 := Aside0.mk c1
        have HWr := Aside0.mk hWr
        clear hWr
        have out : (j ≤ a ∨ lt dj[j]! dj[j - 1]! = false) → insOuter lt a b (i + 1) dj = insOuter lt a b (a + 1) d := fun hs => by
          rw [← HO.out.2, insOuter_go _ _ _ _ _ hlt, ← HI.out.2, insInner_stop _ _ _ _ hs]
        have OUT := Aside0.mk out
        clear out
        by_cases hja : a < j
        · have hl := hless wr dj j (j - 1) HS2.out HI.out.1 (by omega) (by omega)
          rw [show (((j - 1 : Nat) : Int)) = (j : Int) - 1 by omega] at hl
          have HL := Aside0.mk hl
          clear hl
          cases hlv : lt dj[j]! dj[j - 1]! with
          | true =>
            have HLV := Aside0.mk hlv
            clear hlv
            go_wp2_with (go_at_fn g; refine HL.out.mono ?_; rintro e w' ⟨rfl, hb'⟩; have c1' : w'.cell? ⟨W.heap.size, 1, none⟩ = some (.func (.func sf) #[] sb) := (hb'.cell HWr.out).trans HC1.out; have HB' := Aside0.mk hb'; clear hb'; rw [HLV.out])
            have HS3 := Aside0.mk (HS2.out.below HBl.out HB'.out)
            have hs := hswap w' dj HS3.out.holds hsj j (j - 1) (by omega) (by omega)
            rw [show (((j - 1 : Nat) : Int)) = (j : Int) - 1 by omega] at hs
            have HN := Aside0.mk (HS3.out.swap (i := j) (j := j - 1) (by omega) (by omega))
            have HN2 := Aside0.mk ((St.swap (St.self HS3.out.holds) (i := j) (j := j - 1) (by omega) (by omega)).grown)
            (first | (rw [hs, Oper.upon_value]; go_wp2) | go_wp2)
            go_roundw
            case rel =>
              (repeat apply Exists.intro)
              refine ⟨⟨j - 1, swp dj j (j - 1), by congr 1 <;> omega, by omega, by omega, by rw [size_swp]; exact hsj, ⟨HSc.out _ _ _ HI.out.1 (by omega) (by omega), by rw [← HI.out.2, insInner_go lt a j dj hja HLV.out]⟩, HN, ⟨grown_trans (grown_trans HG2.out (grown_below HB'.out)) HN2.out⟩⟩, by rw [decide_eq_true hlt, show ((j - 1 : Nat) : Int) = (j : Int) - 1 by omega]⟩
            case measure => simp [intOf]; omega
          | false =>
            have HLV := Aside0.mk hlv
            clear hlv
            go_wp2_with (go_at_fn g; refine HL.out.mono ?_; rintro e w' ⟨rfl, hb'⟩; have HB' := Aside0.mk hb'; clear hb'; rw [HLV.out])
            go_roundw
            case rel => exact ⟨i + 1, dj, by go_num, by omega, by omega, hsj, ⟨HI.out.1, OUT.out (Or.inr HLV.out)⟩, ⟨HS2.out.below HBl.out HB'.out⟩, ⟨grown_trans HG2.out (grown_below HB'.out)⟩⟩
            case measure => simp [intOf]; omega
        · go_wp2
          go_roundw
          case rel => exact ⟨i + 1, dj, by go_num, by omega, by omega, hsj, ⟨HI.out.1, OUT.out (Or.inl (by omega))⟩, HS2, HG2⟩
          case measure => simp [intOf]; omega
    · -- the outer loop is at its end
      have hge : ¬ i < b := by assumption
      go_end0
      have e : Sort.insertionSort lt d a b = dk := by unfold Sort.insertionSort; rw [← HO.out.2, insOuter_stop _ _ _ _ _ hge]
      exact ⟨rfl, by rw [e]; exact HS.out, by rw [e]; exact HO.out.1, grown_trans (grown_alloc _ _ _) HG.out⟩
end Go.Proofs.Ytfimodphnfejdaa.Srt
