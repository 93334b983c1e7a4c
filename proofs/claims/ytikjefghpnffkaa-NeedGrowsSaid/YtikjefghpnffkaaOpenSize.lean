/- The room of a list of integers that comes in, by the form's own reach. -/
import Derived.Test.YtikjefghpnffkaaOpenInts
import Derived.SizedLaws
namespace Go.Proofs.Ytikjefghpnffkaa
open Go.ChangeShapes Go.WideShapes Go.ChangeAt Go.RowKit
theorem bytes_int : Try.prog.bytesOf 3 = 8 := by kernel_rfl
theorem nums_size {H : Type} {enc : TypeId × Value → H} {w : World} {base : Nat} {spare : Nat → Bool} {held : Bool} {A : Option Addr} {n cap : Nat} {d : DataW H} {p : List MemPlace} {ts : List TypeId} {ds : List (DataW H)} (j : Nat)
    (h : DataW.Trod enc Try.prog w base spare held 51 (.slice A n cap) d p) (hz : (DataW.weightsEach Try.prog ts ds).all (· ≤ reachBytes) = true) (ht : ts[j]? = some 51) (hd : ds[j]? = some d) : n * 8 ≤ 140737488351232 := by
  obtain ⟨fuel, hf⟩ := h
  rcases Go.Deep.open_slice Try.underlying51 hf with ⟨hcs, hx⟩ | ⟨a, len, c, m, _, D, Pl, hcs, hb, hl, hm, hmm, hx, hi⟩
  · simp [Value.cells] at hcs
    obtain ⟨_, rfl, _⟩ := hcs
    omega
  · simp [Value.cells] at hcs
    obtain ⟨_, rfl, _⟩ := hcs
    have hx1 := congrArg Prod.fst hx
    simp only at hx1
    subst hx1
    have := sized_slice hz ht hd Try.underlying51
    rw [bytes_int] at this
    simp only [List.length_map, List.length_range, reachBytes] at this
    have h2 : n * 8 ≤ (n + (m - n)) * 8 := Nat.mul_le_mul_right 8 (Nat.le_add_right _ _)
    omega
end Go.Proofs.Ytikjefghpnffkaa
