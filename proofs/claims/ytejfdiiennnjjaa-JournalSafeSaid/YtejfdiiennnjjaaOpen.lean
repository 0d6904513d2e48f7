/- How a list of texts that comes in is read: by its cells; how long its texts are at most. -/
import Derived.Test.YtejfdiiennnjjaaProg
import Derived.Test.YtejfdiiennnjjaaWMore
import Derived.SliceStrings
import Derived.ChangeSlices
import Derived.SizedLaws
namespace Go.Proofs.Ytejfdiiennnjjaa
open Go.ChangeShapes Go.WideShapes Go.RowKit Go.Proofs.YtejfdiiennnjjaaW.PrintWords
set_option linter.unusedVariables false

theorem weights_strs {H : Type} (ss : List ByteArray) (s : ByteArray) (h : s ∈ ss) (t : TypeId) : s.size ∈ DataW.weightsAll (H := H) Try.prog t (strs ss) := by
  induction ss with
  | nil => cases h
  | cons x ss ih =>
    rw [strs, List.map_cons]
    simp only [DataW.weightsAll, List.mem_append]
    rcases List.mem_cons.1 h with rfl | h
    · left
      simp [DataW.weights]
    · right; exact ih h

set_option maxRecDepth 100000 in
theorem open_texts {H : Type} {enc : TypeId × Value → H} {W : World} {base b : Nat} {spare : Nat → Bool} {v : Value} {d : DataW H} {p : List MemPlace} {ts : List TypeId} {ds : List (DataW H)} {j : Nat}
    (hsz : (DataW.weightsEach Try.prog ts ds).all (· ≤ reachBytes) = true) (ht : ts[j]? = some 32) (hd : ds[j]? = some d)
    (hv : Value.okWide Try.prog W .any base 32 v) (h : DataW.Trod enc Try.prog W b spare true 32 v d p) :
    ∃ (A : Option Addr) (c : Nat) (ss : List ByteArray), v = .slice A ss.length c ∧ ss.length ≤ c ∧ Kd.C Kd.string W A ss.length ss ∧ (∀ s ∈ ss, s.size ≤ 140737488351232) ∧ ss.length * 16 ≤ 140737488351232 := by
  obtain ⟨a0, len, cap, rfl⟩ := okWide_slice Try.underlying32 hv
  obtain ⟨fuel, hf⟩ := h
  have hb16 : Try.prog.bytesOf 9 = 16 := by kernel_rfl
  rcases open_strings Try.underlying32 Try.underlying9 (by kernel_rfl) hf with ⟨hcs, hx⟩ | ⟨a, len', cap', ss, hcs, _, hl, hm, hz, hx, hcell, hws⟩
  · simp [Value.cells] at hcs
    obtain ⟨rfl, rfl, rfl⟩ := hcs
    exact ⟨none, 0, [], rfl, Nat.le_refl _, Kd.C_of_reads (d := ByteArray.empty) ⟨rfl, by simp, fun h => absurd h (by simp)⟩, by simp, by simp⟩
  · simp [Value.cells] at hcs
    obtain ⟨rfl, rfl, rfl⟩ := hcs
    obtain ⟨hx1, _⟩ := Prod.mk.inj hx
    subst hx1
    have hls : len ≤ ss.length := by
      rw [hz]; split
      · exact hl
      · exact Nat.le_refl _
    have hlen : (ss.take len).length = len := by rw [List.length_take]; omega
    have hsl := sized_slice hsz ht hd Try.underlying32
    rw [hb16] at hsl
    have h1 : (strs (H := H) (ss.take len)).length = len := by simp [strs]; omega
    rw [h1] at hsl
    have hr : reachBytes = 140737488351232 := rfl
    rw [hr] at hsl
    refine ⟨some a, cap, ss.take len, by rw [hlen], by omega, ?_, ?_, by rw [hlen]; omega⟩
    · rw [hlen]
      refine Kd.C_of_reads (d := ByteArray.empty) ⟨hlen, by omega, fun _ => ⟨a, rfl, fun j hj => ?_⟩⟩
      have hg : (ss.take len).getD j ByteArray.empty = ss.getD j ByteArray.empty := by
        rw [List.getD_eq_getElem?_getD, List.getD_eq_getElem?_getD, List.getElem?_take_of_lt hj]
      rw [hg]
      exact hcell j (by omega)
    · intro s hs
      have hm := DataW.weights_mem_each (P := Try.prog) ht hd s.size (by
        simp only [DataW.weights, Try.underlying32, List.mem_cons, List.mem_append]
        exact .inr (.inl (weights_strs _ s hs 9)))
      have := List.all_eq_true.1 hsz _ hm
      rw [hr] at this
      simpa using this

end Go.Proofs.Ytejfdiiennnjjaa
