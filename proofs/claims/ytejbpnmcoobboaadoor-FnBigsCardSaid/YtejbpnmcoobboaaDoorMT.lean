/- Plain facts on texts: a text as a list of bytes. -/
import Derived.Test.YtejbpnmcoobboaaDoorWMore
import Derived.Lib.ItoaLen
namespace Go.Proofs.YtejbpnmcoobboaaDoor.My
open Go Go.RowKit Go.Proofs.YtejbpnmcoobboaaDoorW.PrintWords Go.Proofs.YtejbpnmcoobboaaDoorW.PrintLast Go.Proofs.YtejbpnmcoobboaaDoorW.PrintMore

/-- A text as the list of its bytes. -/
def tx (l : List UInt8) : ByteArray := ⟨l.toArray⟩
theorem tx_append (a b : List UInt8) : tx a ++ tx b = tx (a ++ b) := by
  apply ByteArray.ext; simp [tx]
theorem tx_size (l : List UInt8) : (tx l).size = l.length := by simp [tx, ByteArray.size]
theorem tx_data (s : ByteArray) : tx s.data.toList = s := by simp [tx]
theorem tx_inj {a b : List UInt8} (h : tx a = tx b) : a = b := by
  have := congrArg (fun s => s.data.toList) h; simpa [tx] using this
theorem tx_eq {a b : List UInt8} : tx a = tx b ↔ a = b := ⟨tx_inj, fun h => by rw [h]⟩
theorem dec_len : ∀ (k u : Nat), u < 10 ^ (k + 1) → (Lib.decDigits u).length ≤ k + 1
  | 0, u, h => by rw [Lib.decDigits, dif_pos (by simpa using h)]; simp
  | k + 1, u, h => by
    rw [Lib.decDigits]
    by_cases c : u < 10
    · rw [dif_pos c]; simp
    · rw [dif_neg c, List.length_append]
      have := dec_len k (u / 10) (by rw [Nat.pow_succ] at h; omega)
      simp; omega
theorem decDigits_len {u : Nat} (h : u < 18446744073709551616) : (Lib.decDigits u).length ≤ 20 := dec_len 19 u (by omega)
end Go.Proofs.YtejbpnmcoobboaaDoor.My
