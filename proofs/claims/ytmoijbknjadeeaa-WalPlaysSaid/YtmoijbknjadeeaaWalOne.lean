
/- Chapter 7 as data: a disk with one file, or none. -/
import Derived.Test.YtmoijbknjadeeaaWalOpen
namespace Go.Proofs.Ytmoijbknjadeeaa
set_option linter.unusedVariables false
set_option linter.unusedSimpArgs false
open Go.RowKit
def pd0 (lost armed : Bool) (left : Int) : PD := ⟨[], lost, armed, left⟩
def pd1 (nm : ByteArray) (b : List UInt8) (s : Int) (lost armed : Bool) (left : Int) : PD := ⟨[⟨nm, b, none, 0, 0, s⟩], lost, armed, left⟩
theorem wr_two (armed : Bool) (left : Int) : ((wrP false armed left).code = 0 ∧ (wrP false armed left).lost = false ∧ (armed = true → left ≠ 0)) ∨ (armed = true ∧ left = 0 ∧ (wrP false armed left).code = 12 ∧ (wrP false armed left).lost = true) := by
  unfold wrP
  cases armed
  · exact .inl ⟨rfl, rfl, fun h => by cases h⟩
  · by_cases h0 : left = 0
    · exact .inr ⟨rfl, h0, by simp [h0], by simp [h0]⟩
    · exact .inl ⟨by simp [h0], by simp [h0], fun _ => h0⟩
section
variable {nm : ByteArray} {b : List UInt8} {s : Int} {lost armed : Bool} {left : Int}
theorem ap_pd0 (hk : 1 ≤ nm.size) (y : List UInt8) : (pd0 false armed left).apO nm y = ⟨(wrP false armed left).code, [⟨nm, y, none, 0, 0, 0⟩], (wrP false armed left).lost, (wrP false armed left).left⟩ := by
  unfold PD.apO pd0 apO
  rw [if_neg (by omega), if_neg (by simp)]
  rfl
theorem ap_pd1 (hk : 1 ≤ nm.size) (y : List UInt8) : (pd1 nm b s false armed left).apO nm y = ⟨(wrP false armed left).code, [⟨nm, b ++ y, none, 0, 0, s⟩], (wrP false armed left).lost, (wrP false armed left).left⟩ := by
  unfold PD.apO pd1 apO
  rw [if_neg (by omega), if_neg (by simp), get_one _ nm rfl]
  congr 1
  exact put_one rfl
theorem sy_pd1 : (pd1 nm b s lost armed left).syO nm = ⟨(wrP lost armed left).code, [⟨nm, b, none, 0, 0, if (wrP lost armed left).code = 0 then (b.length : Int) else s⟩], (wrP lost armed left).lost, (wrP lost armed left).left⟩ := by
  unfold PD.syO pd1 syO goO
  rw [if_neg (by rw [find_one _ nm rfl]; simp), if_neg (by simp), get_one _ nm rfl]
  congr 1
  split
  · exact put_one rfl
  · rfl
theorem cu_pd1 (m : Nat) (hm : m ≤ b.length) : (pd1 nm b s lost armed left).cuO nm m = ⟨(wrP lost armed left).code, [if (wrP lost armed left).code = 0 then ⟨nm, b.take m, none, 0, 0, (m : Int)⟩ else ⟨nm, b, none, 0, 0, s⟩], (wrP lost armed left).lost, (wrP lost armed left).left⟩ := by
  unfold PD.cuO pd1 cuO
  rw [get_one _ nm rfl]
  unfold goO
  rw [if_neg (by rw [find_one _ nm rfl]; simp), if_neg (by simp; omega)]
  congr 1
  split
  · rw [show ((m : Int)).toNat = m by simp]; exact put_one rfl
  · rfl
theorem cr_pd0 (ks : List Nat) : (pd0 lost armed left).crash ks = pd0 false false 0 := rfl
theorem cr_pd1 (ks : List Nat) (hs : 0 ≤ s ∧ s ≤ b.length) : ∃ m : Nat, s ≤ (m : Int) ∧ m ≤ b.length ∧ (pd1 nm b s lost armed left).crash ks = pd1 nm (b.take m) m false false 0 := by
  have h1 : crashN ks 0 ⟨nm, b, none, 0, 0, s⟩ ≤ b.length := crashN_le (by show s.toNat ≤ b.length; omega)
  refine ⟨crashN ks 0 ⟨nm, b, none, 0, 0, s⟩, ?_, h1, rfl⟩
  unfold crashN
  show s ≤ ((s.toNat + _ : Nat) : Int)
  omega
theorem rc_pd0 : (pd0 lost armed left).rc nm = 6 := rfl
theorem rc_pd1 : (pd1 nm b s false armed left).rc nm = 0 := by unfold PD.rc pd1 rdCode; rw [find_one _ nm rfl]; rfl
theorem rb_pd1 : (pd1 nm b s false armed left).rb nm = b := by unfold PD.rb pd1 rdBytes; rw [find_one _ nm rfl, get_one _ nm rfl]; rfl
theorem su_pd1 : (pd1 nm b s lost armed left).su nm = s := by unfold PD.su pd1; rw [get_one _ nm rfl]
theorem out_pd1 {d : PD} (code : Int) (f : Fi) (hf : f.core = f) (hk : f.k = nm) (l : Bool) (lf : Int) : d.out ⟨code, [f], l, lf⟩ = pd1 nm f.b f.s l d.armed lf := by
  unfold PD.out pd1
  rw [← hk, ← show (⟨f.k, f.b, none, 0, 0, f.s⟩ : Fi) = f from hf]
/-- a record more: it is there and sure, or the disk is lost -/
theorem la_pd1 (hk : 1 ≤ nm.size) (p : List UInt8) : ∃ left', ((laO (pd1 nm b s false armed left) nm p).code = 0 ∧ (armed = true → left ≠ 0) ∧ (pd1 nm b s false armed left).out (laO (pd1 nm b s false armed left) nm p) = pd1 nm (b ++ frameL p) ((b ++ frameL p).length : Nat) false armed left') ∨
    ((laO (pd1 nm b s false armed left) nm p).code = 12 ∧ armed = true ∧ (pd1 nm b s false armed left).out (laO (pd1 nm b s false armed left) nm p) = pd1 nm (b ++ frameL p) s true armed left') := by
  unfold laO
  rw [ap_pd1 hk]
  rcases wr_two armed left with ⟨h1, h2, h3⟩ | ⟨h0, h1, h2, h3⟩
  · rw [h1, h2]
    simp only [if_true]
    have e : (pd1 nm b s false armed left).out ⟨0, [⟨nm, b ++ frameL p, none, 0, 0, s⟩], false, (wrP false armed left).left⟩ = pd1 nm (b ++ frameL p) s false armed (wrP false armed left).left := rfl
    rw [e, sy_pd1]
    rcases wr_two armed (wrP false armed left).left with ⟨k1, k2, k3⟩ | ⟨k0, k1, k2, k3⟩
    · rw [k1, k2]
      exact ⟨_, .inl ⟨rfl, h3, rfl⟩⟩
    · rw [k2, k3]
      exact ⟨_, .inr ⟨rfl, k0, rfl⟩⟩
  · rw [h2, h3]
    rw [if_neg (show ¬ ((12 : Int) = 0) by omega)]
    exact ⟨_, .inr ⟨rfl, h0, rfl⟩⟩
theorem la_pd0 (hk : 1 ≤ nm.size) (p : List UInt8) : ∃ left', ((laO (pd0 false armed left) nm p).code = 0 ∧ (armed = true → left ≠ 0) ∧ (pd0 false armed left).out (laO (pd0 false armed left) nm p) = pd1 nm (frameL p) ((frameL p).length : Nat) false armed left') ∨
    ((laO (pd0 false armed left) nm p).code = 12 ∧ armed = true ∧ (pd0 false armed left).out (laO (pd0 false armed left) nm p) = pd1 nm (frameL p) 0 true armed left') := by
  unfold laO
  rw [ap_pd0 hk]
  rcases wr_two armed left with ⟨h1, h2, h3⟩ | ⟨h0, h1, h2, h3⟩
  · rw [h1, h2]
    simp only [if_true]
    have e : (pd0 false armed left).out ⟨0, [⟨nm, frameL p, none, 0, 0, 0⟩], false, (wrP false armed left).left⟩ = pd1 nm (frameL p) 0 false armed (wrP false armed left).left := rfl
    rw [e, sy_pd1]
    rcases wr_two armed (wrP false armed left).left with ⟨k1, k2, k3⟩ | ⟨k0, k1, k2, k3⟩
    · rw [k1, k2]
      exact ⟨_, .inl ⟨rfl, h3, rfl⟩⟩
    · rw [k2, k3]
      exact ⟨_, .inr ⟨rfl, k0, rfl⟩⟩
  · rw [h2, h3]
    rw [if_neg (show ¬ ((12 : Int) = 0) by omega)]
    exact ⟨_, .inr ⟨rfl, h0, rfl⟩⟩
/-- opened: what is not whole is cut off -/
theorem mend_pd1 (at_ : Nat) (ha : at_ ≤ b.length) (hs : 0 ≤ s ∧ s ≤ b.length) : (mendO (pd1 nm b s false false 0) nm (b.length : Nat) at_).code = 0 ∧ (pd1 nm b s false false 0).out (mendO (pd1 nm b s false false 0) nm (b.length : Nat) at_) = pd1 nm (b.take at_) at_ false false 0 := by
  unfold mendO
  split
  · rw [cu_pd1 at_ ha]
    exact ⟨rfl, rfl⟩
  · obtain rfl : at_ = b.length := by omega
    rw [List.take_length]
    split
    · rw [sy_pd1]
      exact ⟨rfl, rfl⟩
    · rename_i h1 h2
      rw [su_pd1] at h2
      obtain rfl : s = (b.length : Int) := by omega
      exact ⟨rfl, rfl⟩
end
end Go.Proofs.Ytmoijbknjadeeaa
