/- The chapter's example of package disk: it comes to true. -/
import Derived.Test.YtejfdiiennnjjaaDp
namespace Go.Proofs.Ytejfdiiennnjjaa.D
open Go.RowKit Go.Proofs Go.Proofs.Ytejfdiiennnjjaa
set_option linter.unusedVariables false

def abc : ByteArray := ⟨#[97, 98, 99]⟩
def def_ : ByteArray := ⟨#[100, 101, 102]⟩
theorem empty_app (s : ByteArray) : (⟨#[]⟩ : ByteArray) ++ s = s := ByteArray.empty_append
def z1 : Dk := { zero with l0 := abc }
def z2 : Dk := { zero with s0 := abc }
def z3 : Dk := { zero with s0 := abc, l0 := def_ }
set_option maxRecDepth 100000 in
theorem awake_any (w : World) : Calls Try.prog 34 #[] w fun e w' => e = .returned (.bool true) ∧ Below w.heap.size w w' := by
  go_enter Try.func34, Try.ntmps34
  go_wp2_with fail
  refine (New_any w).mono ?_; rintro e w1 ⟨rfl, h1, b1⟩
  go_wp2_with fail
  refine (Append_ok w.heap.size zero 0 abc _ h1 (by unfold Dk.Fits; decide) (by rfl) (by decide) (by decide)).mono ?_; rintro e w2 ⟨rfl, T2⟩
  have e2 : (useD zero).setL 0 (zero.l 0 ++ abc) = z1 := by kernel_rfl
  rw [e2] at T2
  go_wp2_with fail
  refine (Sync_ok w.heap.size z1 0 _ T2.is (by unfold Dk.Fits; decide) (by rfl) (by decide)).mono ?_; rintro e w3 ⟨rfl, T3⟩
  have e3 : ((useD z1).setS 0 (z1.s 0 ++ z1.l 0)).setL 0 ⟨#[]⟩ = z2 := by kernel_rfl
  rw [e3] at T3
  go_wp2_with fail
  refine (Append_ok w.heap.size z2 0 def_ _ T3.is (by unfold Dk.Fits; decide) (by rfl) (by decide) (by decide)).mono ?_; rintro e w4 ⟨rfl, T4⟩
  have e4 : (useD z2).setL 0 (z2.l 0 ++ def_) = z3 := by kernel_rfl
  rw [e4] at T4
  go_wp2_with fail
  refine (Crash_made w.heap.size z3 2 0 0 0 _ T4.is (by unfold Dk.Fits; decide) (by rfl)).mono ?_; rintro e w5 ⟨rfl, T5⟩
  go_wp2_with fail
  refine (Read_ok w.heap.size (crash z3 2 0 0 0) 0 _ T5.is (by unfold Dk.Fits; decide +kernel) (by rfl)).mono ?_; rintro e w6 ⟨rfl, nq, rfl⟩
  have e6 : (crash z3 2 0 0 0).s 0 ++ (crash z3 2 0 0 0).l 0 = ⟨#[97, 98, 99, 100, 101]⟩ := by kernel_rfl
  rw [e6]
  go_wp2
  go_ret
  exact ⟨rfl, ((((b1.trans (T2.below _ (Nat.le_refl _))).trans (T3.below _ (Nat.le_refl _))).trans (T4.below _ (Nat.le_refl _))).trans (T5.below _ (Nat.le_refl _))).trans ⟨rfl, rfl, rfl, Nat.le_refl _, fun _ _ => rfl⟩⟩
end Go.Proofs.Ytejfdiiennnjjaa.D
