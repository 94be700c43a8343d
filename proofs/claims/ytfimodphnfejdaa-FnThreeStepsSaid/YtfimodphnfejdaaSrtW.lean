/- sort.SliceStable's own functions (swapRange_func, rotate_func, insertionSort_func, symMerge_func, stable_func) at a slice of records of four whole numbers: what each leaves in the row, for a 'less' that may lay new blocks. -/
import Derived.Test.YtfimodphnfejdaaProg
import Derived.Test.YtfimodphnfejdaaVMore
import Derived.Test.YtfimodphnfejdaaSrtP
import Derived.Shelf.GgSortMore.Stable
import Derived.Shelf.GgSortFunc.SmallK
namespace Go.Proofs.Ytfimodphnfejdaa.Srt
open Go.Shelf Go.RowKit Go.Lib Go.Sort Go.Proofs.YtfimodphnfejdaaW.PrintWords Go.Proofs.YtfimodphnfejdaaW.PrintLast Go.Proofs.YtfimodphnfejdaaW.PrintMore
set_option linter.unusedVariables false
set_option linter.unusedSimpArgs false

abbrev E := Int × Int × Int × Int
/-- A record's four cells. -/
def ec (q : E) : List Value := [.int .i64 q.1, .int .i64 q.2.1, .int .i64 q.2.2.1, .int .i64 q.2.2.2]
theorem ec_len (q : E) : (ec q).length = 4 := rfl
theorem ec_one (q : E) : ∀ v ∈ ec q, v.oneCell' = true := fun v hv => by
  simp [ec] at hv; rcases hv with rfl | rfl | rfl | rfl <;> rfl

/-- A world in which the row still holds what it held where its block is as it was. -/
theorem holdsK_same {W W' : World} {blk off : Nat} {d : Array E} (h : HoldsK ec 4 W blk off d) (hb : W'.heap[blk]? = W.heap[blk]?) : HoldsK ec 4 W' blk off d := fun j hj => by
  have := h j hj
  exact ⟨(World.cell?_of_block (a := ⟨blk, off + j, none⟩) hb).trans this.1, (World.frozen?_of_block (a := ⟨blk, off + j, none⟩) hb).trans this.2⟩
theorem putRow_grown (w : World) (blk off : Nat) (F : Array Value) : w.grownBy (putRow id w blk off F) (some blk) := by
  refine ⟨rfl, rfl, rfl, by simp [putRow, mapBlock], fun k hk hne => ?_⟩
  have : blk ≠ k := fun e => hne (by rw [e])
  simp [putRow, mapBlock, Array.getElem?_modify, this]
theorem grown_trans {a b c : World} {row : Option Nat} (h : a.grownBy b row) (k : b.grownBy c row) : a.grownBy c row :=
  ⟨k.os.trans h.os, k.tape.trans h.tape, k.output.trans h.output, Nat.le_trans h.size k.size, fun i hi hr => (k.block i (Nat.lt_of_lt_of_le hi h.size) hr).trans (h.block i hi hr)⟩
theorem grown_refl (a : World) (row : Option Nat) : a.grownBy a row := ⟨rfl, rfl, rfl, Nat.le_refl _, fun _ _ _ => rfl⟩
theorem grown_below {a b : World} {row : Option Nat} (h : Below a.heap.size a b) : a.grownBy b row := ⟨h.os, h.tape, h.output, h.size, fun k hk _ => h.block k hk⟩
theorem grown_drewN (a : World) (n : Nat) (row : Option Nat) : a.grownBy (a.drewN n) row := ⟨rfl, rfl, rfl, Nat.le_refl _, fun _ _ _ => rfl⟩
theorem grown_alloc (a : World) (o : Obj) (row : Option Nat) : a.grownBy (a.alloc o) row := World.grownBy_alloc a o row

/-- THE WORLD IN THE MIDDLE OF THE SORT: since w only the row's block has turned, and the row holds d. -/
structure St (w W : World) (blk off : Nat) (d : Array E) : Prop where
  grown : w.grownBy W (some blk)
  holds : HoldsK ec 4 W blk off d
  shape : ∀ cur T fr, w.heap[blk]? = some (.cells cur T fr) → ∃ cur', W.heap[blk]? = some (.cells cur' T fr) ∧ cur'.size = cur.size
theorem St.self {w : World} {blk off : Nat} {d : Array E} (h : HoldsK ec 4 w blk off d) : St w w blk off d := ⟨grown_refl _ _, h, fun cur T fr e => ⟨cur, e, rfl⟩⟩
theorem putRow_shape (w : World) (blk off : Nat) (F : Array Value) (cur : Array Value) (T : Nat) (fr : Nat × Nat) (h : w.heap[blk]? = some (.cells cur T fr)) : ∃ cur', (putRow id w blk off F).heap[blk]? = some (.cells cur' T fr) ∧ cur'.size = cur.size := by
  refine ⟨putCells id off F cur, ?_, by simp [putCells]⟩
  simp [putRow, mapBlock, Array.getElem?_modify, h, onCells]
theorem St.below {w W W' : World} {blk off : Nat} {d : Array E} (h : St w W blk off d) (hblk : blk < w.heap.size) (hb : Below W.heap.size W W') : St w W' blk off d :=
  ⟨grown_trans h.grown (grown_below hb), holdsK_same h.holds (hb.block blk (Nat.lt_of_lt_of_le hblk h.grown.size)), fun cur T fr e => by
    obtain ⟨c, h1, h2⟩ := h.shape cur T fr e
    exact ⟨c, (hb.block blk (Nat.lt_of_lt_of_le hblk h.grown.size)).trans h1, h2⟩⟩
theorem St.cell {w W : World} {blk off : Nat} {d : Array E} (h : St w W blk off d) {a : Addr} (ha : a.block < w.heap.size) (hne : a.block ≠ blk) : W.cell? a = w.cell? a :=
  World.cell?_of_block (h.grown.block a.block ha (fun e => hne (Option.some.inj e)))
/-- The swap's two runs of stores. -/
theorem St.swap {w W : World} {blk off : Nat} {d : Array E} (h : St w W blk off d) {i j : Nat} (hi : i < d.size) (hj : j < d.size) :
    St w ((W.setCells blk (off + i * 4) (ec d[j]!)).setCells blk (off + j * 4) (ec d[i]!)) blk off (swp d i j) := by
  have e := swap_worldK ec 4 ec_len W 0 0 blk off d i j hi hj
  have e0 : (putRowK ec 4 (Sort.ahead W 0) blk off d).drewN 0 = W := by
    rw [ahead_zero, putRowK_self _ _ _ _ _ _ h.holds]; rfl
  rw [e0] at e
  rw [e]
  exact ⟨grown_trans h.grown (putRow_grown _ _ _ _), holdsK_putRowK ec 4 _ blk off d _ h.holds (by rw [size_swp]), fun cur T fr e => by
    obtain ⟨c, h1, h2⟩ := h.shape cur T fr e
    obtain ⟨c2, h3, h4⟩ := putRow_shape (Sort.ahead W 0) blk off (flatK ec 4 (swp d i j)) c T fr h1
    exact ⟨c2, h3, h4.trans h2⟩⟩

/-- What is asked of 'less' (function g, bound to lb): in every world of the sort whose row holds what S lets in, 'lt'; it may lay new blocks. -/
def LessG (P : Program) (g : Nat) (lb : Array Value) (lt : E → E → Bool) (S : Array E → Prop) (blk off : Nat) (w : World) : Prop :=
  ∀ (W : World) (d : Array E) (i j : Nat), St w W blk off d → S d → i < d.size → j < d.size →
    Calls P g (#[.int .i64 i, .int .i64 j] ++ lb) W fun e w' => e = .returned (.bool (lt d[i]! d[j]!)) ∧ Below W.heap.size W w'

set_option maxHeartbeats 4000000 in
set_option maxRecDepth 100000 in
theorem swapRange_calls (g : Nat) (lb : Array Value) (sf : Nat) (sb : Array Value) (blk off size : Nat) (w : World) (hblk : blk < w.heap.size) (hswap : SwapSwapsK Try.prog sf sb ec 4 blk off size) (hsz : size < 4611686018427387904)
    (W : World) (d : Array E) (hst : St w W blk off d) (hd : d.size = size) (a b n : Nat) (h1 : a + n ≤ b) (h2 : b + n ≤ size) :
    Calls Try.prog 85 #[.agg #[.func (.func g) #[] lb, .func (.func sf) #[] sb], .int .i64 a, .int .i64 b, .int .i64 n] W fun e w' => e = .returned (.tuple #[]) ∧ St w w' blk off (sr d a b n) ∧ W.grownBy w' (some blk) := by
  have HH := Aside0.mk hst
  have HBl := Aside0.mk hblk
  clear hst
  go_enter Try.func85, Try.ntmps85
  go_wp2
  go_loopg [8] n (fun kq v8 wr => ∃ (x : Int) (i : Nat), v8 = .int .i64 x ∧ Aside0 (x = (i : Int) ∧ i + kq = n) ∧ Aside0 (St w wr blk off (sr d a b i)) ∧ Aside0 ((W.alloc (.cells #[.func (.func g) #[] lb, .func (.func sf) #[] sb] 78)).grownBy wr (some blk)))
  case atStart => exact ⟨0, 0, (by first | rfl | (simp; done) | (simp [*]; done)), ⟨by omega, by omega⟩, ⟨HH.out.below HBl.out ((Below.refl _ _).alloc (Nat.le_refl _) _)⟩, ⟨grown_refl _ _⟩⟩
  case round =>
    obtain ⟨x, i, rfl, HX, HS, HG⟩ := hrel
    by_cases c1 : x < (n : Int)
    · have c1b0 : decide (x < (n : Int)) = true := decide_eq_true c1
      have hi : i < n := by have := HX.out; omega
      have c0 : wr.cell? ⟨W.heap.size, 1, none⟩ = some (.func (.func sf) #[] sb) := by
        have e := World.cell?_of_block (w := W.alloc (.cells #[.func (.func g) #[] lb, .func (.func sf) #[] sb] 78)) (w' := wr) (a := ⟨W.heap.size, 1, none⟩) (HG.out.block _ (by simp) (fun e => by have := HH.out.grown.size; have := HBl.out; simp only [Option.some.injEq] at e; omega))
        rw [e]; simp
      have hs := hswap wr (sr d a b i) HS.out.holds (by rw [size_sr]; exact hd) (a + i) (b + i) (by omega) (by omega)
      have HN := Aside0.mk (HS.out.swap (i := a + i) (j := b + i) (by rw [size_sr]; omega) (by rw [size_sr]; omega))
      have HN2 := Aside0.mk ((St.swap (St.self HS.out.holds) (i := a + i) (j := b + i) (by rw [size_sr]; omega) (by rw [size_sr]; omega)).grown)
      simp only [Int.natCast_add] at hs
      have ea' : wrap64 ((a : Int) + x) = (a : Int) + (i : Int) := by have := HX.out; unfold wrap64; omega
      have eb' : wrap64 ((b : Int) + x) = (b : Int) + (i : Int) := by have := HX.out; unfold wrap64; omega
      obtain ⟨k1, rfl⟩ : ∃ k1, gk = k1 + 1 := ⟨gk - 1, by have := HX.out; omega⟩
      clear c1
      go_wp2
      go_roundg k1
      case measure => omega
      case rel => exact ⟨wrap64 (x + 1), i + 1, (by first | rfl | (simp; done) | (simp [*]; done)), ⟨by have := HX.out; unfold wrap64; omega⟩, HN, ⟨grown_trans HG.out HN2.out⟩⟩
    · have c1b0 : decide (x < (n : Int)) = false := decide_eq_false c1
      obtain rfl : i = n := by have := HX.out; omega
      clear c1
      go_wp2
      go_end0
      exact ⟨rfl, HS.out, grown_trans (grown_alloc _ _ _) HG.out⟩
/-- The boxed pair's cells, in every world of the sort. -/
theorem box_cell {w W wr : World} {blk : Nat} (hblk : blk < w.heap.size) (hW : w.heap.size ≤ W.heap.size) {cs : Array Value} {T : Nat} (HG : (W.alloc (.cells cs T)).grownBy wr (some blk)) (k : Nat) (v : Value) (h : cs[k]? = some v) : wr.cell? ⟨W.heap.size, k, none⟩ = some v := by
  have e := World.cell?_of_block (w := W.alloc (.cells cs T)) (w' := wr) (a := ⟨W.heap.size, k, none⟩) (HG.block _ (by simp) (fun e => by simp only [Option.some.injEq] at e; omega))
  rw [e]; simp [h]

end Go.Proofs.Ytfimodphnfejdaa.Srt
