/- The chain of fifths: the tables of its order; a row of fifths that is sorted is the table's row; ChainOf hands back nil outside its range. -/
import Derived.Test.YtfimodphnfejdaaSrtD
namespace Go.Proofs.Ytfimodphnfejdaa.Srt
open Go.Shelf Go.RowKit Go.Lib Go.Sort Go.Proofs.YtfimodphnfejdaaW.PrintWords Go.Proofs.YtfimodphnfejdaaW.PrintLast Go.Proofs.YtfimodphnfejdaaW.PrintMore
set_option linter.unusedVariables false
set_option linter.unusedSimpArgs false
/-- Each fifth's twos (n from -30 to 30); each fifth's rank in the order of sizes; the fifths in that order. -/
def twos : List Int := [48, 46, 45, 43, 42, 40, 39, 37, 35, 34, 32, 31, 29, 27, 26, 24, 23, 21, 20, 18, 16, 15, 13, 12, 10, 8, 7, 5, 4, 2, 0, -1, -3, -4, -6, -7, -9, -11, -12, -14, -15, -17, -19, -20, -22, -23, -25, -26, -28, -30, -31, -33, -34, -36, -38, -39, -41, -42, -44, -45, -47]
def ranks : List Nat := [27, 2, 38, 12, 48, 22, 58, 33, 8, 44, 18, 54, 29, 4, 40, 14, 50, 24, 60, 35, 9, 45, 19, 55, 30, 5, 41, 15, 51, 25, 0, 36, 10, 46, 20, 56, 31, 6, 42, 16, 52, 26, 1, 37, 11, 47, 21, 57, 32, 7, 43, 17, 53, 28, 3, 39, 13, 49, 23, 59, 34]
def ordn : List Int := [0, 12, -29, 24, -17, -5, 7, 19, -22, -10, 2, 14, -27, 26, -15, -3, 9, 21, -20, -8, 4, 16, -25, 28, -13, -1, 11, -30, 23, -18, -6, 6, 18, -23, 30, -11, 1, 13, -28, 25, -16, -4, 8, 20, -21, -9, 3, 15, -26, 27, -14, -2, 10, 22, -19, -7, 5, 17, -24, 29, -12]
def fifE (n : Int) : E := (twos.getD (n + 30).toNat 0, n, 0, 1)
def keyE (x : E) : Nat := ranks.getD (x.2.1 + 30).toNat 0
def ltE (x y : E) : Bool := decide (keyE x < keyE y)
theorem swoE : SWO ltE where
  irrefl := fun x => by simp [ltE]
  trans := fun x y z h1 h2 => by simp [ltE] at *; omega
  ntrans := fun x y z h1 h2 => by simp [ltE] at *; omega
def chainN (low high : Int) : List Int := (List.range (high - low + 1).toNat).map fun i : Nat => low + (i : Int)
def sortedN (low high : Int) : List Int := ordn.filter fun n => decide (low ≤ n ∧ n ≤ high)
theorem chain_mem {low high n : Int} : n ∈ chainN low high ↔ low ≤ n ∧ n ≤ high := by
  simp only [chainN, List.mem_map, List.mem_range]
  constructor
  · rintro ⟨i, hi, rfl⟩; omega
  · rintro ⟨h1, h2⟩; exact ⟨(n - low).toNat, by omega, by omega⟩
theorem ordn_mem {n : Int} : n ∈ ordn ↔ -30 ≤ n ∧ n ≤ 30 := by
  constructor
  · exact fun h => (show ∀ n ∈ ordn, -30 ≤ n ∧ n ≤ 30 by decide +kernel) n h
  · rintro ⟨h1, h2⟩
    have h : ∀ i : Fin 61, ((i.val : Int) - 30) ∈ ordn := by decide +kernel
    have := h ⟨(n + 30).toNat, by omega⟩
    rwa [show (((⟨(n + 30).toNat, by omega⟩ : Fin 61).val : Int) - 30) = n by simp; omega] at this
theorem chain_perm (low high : Int) (h1 : -30 ≤ low) (h2 : high ≤ 30) : (chainN low high).Perm (sortedN low high) := by
  refine (List.perm_ext_iff_of_nodup ?_ ?_).2 fun n => ?_
  · unfold chainN
    exact List.pairwise_map.2 (List.Pairwise.imp (fun h e => h (by omega)) List.nodup_range)
  · exact List.Pairwise.filter _ (show ordn.Pairwise (· ≠ ·) by decide +kernel)
  · rw [chain_mem, sortedN, List.mem_filter, ordn_mem]; simp; omega
theorem sorted_pair (low high : Int) : ((sortedN low high).map fifE).Pairwise (fun a b => ltE a b = true) :=
  List.pairwise_map.2 (List.Pairwise.filter _ (by decide +kernel))
theorem sorted_unique {α : Type} (lt : α → α → Bool) : ∀ (l2 l1 : List α), l1.Perm l2 → l1.Pairwise (fun a b => lt b a = false) → l2.Pairwise (fun a b => lt a b = true) → l1 = l2
  | [], l1, h, _, _ => List.Perm.eq_nil h
  | b :: t, [], h, _, _ => by have := h.length_eq; simp at this
  | b :: t, a :: s, h, p1, p2 => by
    have e : a = b := Classical.byContradiction fun hne => by
      have ma : a ∈ t := (List.mem_cons.1 (h.subset List.mem_cons_self)).resolve_left hne
      have mb : b ∈ s := (List.mem_cons.1 (h.symm.subset List.mem_cons_self)).resolve_left (Ne.symm hne)
      have := (List.pairwise_cons.1 p2).1 a ma
      rw [(List.pairwise_cons.1 p1).1 b mb] at this; cases this
    subst e
    rw [sorted_unique lt t s (List.Perm.cons_inv h) (List.pairwise_cons.1 p1).2 (List.pairwise_cons.1 p2).2]
theorem row_eq (low high : Int) (h1 : -30 ≤ low) (h2 : high ≤ 30) (d : Array E) (hs : SortedIn ltE 0 d.size d) (hp : d.toList.Perm ((List.range (high - low + 1).toNat).map (fun t : Nat => fifE (low + (t : Int))))) : d.toList = (sortedN low high).map fifE := by
  refine sorted_unique ltE _ _ (hp.trans ?_) ?_ (sorted_pair low high)
  · have := (chain_perm low high h1 h2).map fifE
    rwa [chainN, List.map_map] at this
  · rw [List.pairwise_iff_getElem]
    intro i j hi hj hij
    have := hs i j (Nat.zero_le _) hij (by simpa using hj)
    rw [getElem!_pos d i (by simpa using hi), getElem!_pos d j (by simpa using hj)] at this
    simpa using this
set_option maxHeartbeats 8000000 in
set_option maxRecDepth 100000 in
theorem chain_nil (low high : Int) (h : ¬ (low ≤ high ∧ -30 ≤ low ∧ high ≤ 30)) (w : World)
    (hwi : ∀ x W, Calls Try.prog 48 #[.int .i64 x, .int .i64 (-30), .int .i64 30] W fun e w' => e = .returned (.bool (decide (-30 ≤ x ∧ x ≤ 30))) ∧ ∃ n, w' = W.drewN n) :
    Calls Try.prog 35 #[.int .i64 low, .int .i64 high] w fun e w' => e = .returned (.slice none 0 0) ∧ Below w.heap.size w w' := by
  have HWI := Aside0.mk hwi
  have HH := Aside0.mk h
  clear hwi h
  go_enter Try.func35, Try.ntmps35
  by_cases c1 : high < low
  · have c1b : decide (high < low) = true := decide_eq_true c1
    clear c1
    go_wp2
    go_ret
    all_goals first | exact ⟨rfl, (Below.refl w.heap.size w)⟩ | exact ⟨rfl, (Below.refl w.heap.size w).trans ⟨rfl, rfl, rfl, Nat.le_refl _, fun _ _ => rfl⟩⟩
  · have c1b : decide (high < low) = false := decide_eq_false c1
    by_cases c2 : -30 ≤ low ∧ low ≤ 30
    · have c3 : decide (-30 ≤ high ∧ high ≤ 30) = false := decide_eq_false (by have := HH.out; omega)
      have c2b : decide (-30 ≤ low ∧ low ≤ 30) = true := decide_eq_true c2
      clear c1 c2
      go_wp2_with (go_at_call 48; first | (with_reducible refine (HWI.out low _).mono ?_; rintro e w' ⟨rfl, n1, rfl⟩; try rw [c2b]) | (with_reducible refine (HWI.out high _).mono ?_; rintro e w' ⟨rfl, n2, rfl⟩; try rw [c3]))
      go_ret
      exact ⟨rfl, (Below.refl w.heap.size w).trans ⟨rfl, rfl, rfl, Nat.le_refl _, fun _ _ => rfl⟩⟩
    · have c2b : decide (-30 ≤ low ∧ low ≤ 30) = false := decide_eq_false c2
      clear c1 c2
      go_wp2_with (go_at_call 48; with_reducible refine (HWI.out low _).mono ?_; rintro e w' ⟨rfl, n1, rfl⟩; try rw [c2b])
      go_ret
      exact ⟨rfl, (Below.refl w.heap.size w).trans ⟨rfl, rfl, rfl, Nat.le_refl _, fun _ _ => rfl⟩⟩
end Go.Proofs.Ytfimodphnfejdaa.Srt
