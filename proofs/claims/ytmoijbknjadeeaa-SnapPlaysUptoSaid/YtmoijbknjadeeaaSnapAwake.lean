
/- Chapter 8's example; the law SnapNil's walk. -/
import Derived.Test.YtmoijbknjadeeaaSnapPure
namespace Go.Proofs.Ytmoijbknjadeeaa
set_option linter.unusedVariables false
set_option linter.unusedSimpArgs false
open Go.RowKit
abbrev sN : ByteArray := ⟨#[115]⟩
theorem sN_hi : sN.size + 1 ≤ maxLen := by show (2 : Nat) ≤ maxLen; simp only [maxLen]; omega
theorem sN_lo : 1 ≤ sN.size := Nat.le_refl 1
theorem sN_mx : sN.size ≤ maxLen := by show (1 : Nat) ≤ maxLen; simp only [maxLen]; omega
theorem sN_sp : (spF sN).size ≤ maxLen := by rw [spF_size]; exact sN_hi
theorem sN_eq : spF sN = ⟨#[115, 126]⟩ := rfl
theorem slL_len (b : List UInt8) : (slL b).length = b.length + 4 := by unfold slL; rw [List.length_append]; rfl
theorem mod2s {w w' : World} {B gd bd : Nat} (hm : Mod (fun i _ => i = gd ∨ i = bd) w w') (h2 : B ≤ gd) (h3 : B ≤ bd) (hB : B ≤ w.heap.size) : Below B w w' :=
  hm.toBelow (fun i o hi e => by rcases e with e | e <;> omega) hB
set_option maxRecDepth 100000 in
set_option maxHeartbeats 4000000 in
theorem awake8 (w : World) : Calls Try.prog 50 #[] w fun x w' => x = .returned (.bool true) ∧ Below w.heap.size w w' := by
  go_enter Try.func50, Try.ntmps50
  go_upto_region 2 with (((with_reducible refine ((pd_new w)).mono ?_); rintro z w1 ⟨gd, bd, rfl, hd, hwb, hbg, hb⟩))
  have hci := Lib.run_convert_bytes_const (P := Try.prog) w1 27 5 #[.int .u8 97, .int .u8 98, .int .u8 99] 3 3 Try.underlying27 Try.underlying5
  have hb3 : Below (w1).heap.size w1 (World.alloc w1 (.cells #[.int .u8 97, .int .u8 98, .int .u8 99] 5 (3, 3 + 1))) := (Below.refl _ _).alloc (Nat.le_refl _) _
  have hmk := rd_mark w1 5 [.int .u8 97, .int .u8 98, .int .u8 99] (3, 3 + 1) (s := 1) (n := 3) rfl (by simp [maxLen])
  have HA := save_any (b := [97, 98, 99]) sN_lo sN_hi _ (hd.step hb3) PD.Ok.new (by omega) (by omega) (by omega) (hmk.more (by simp)) (by omega)
  obtain ⟨hc1, hl1, hf1, _⟩ := (sv_two (b := [97, 98, 99]) (d := PD.new) rfl PD.Ok.new sN_lo sN_hi).resolve_right (fun h => by have := h.2.1; cases this)
  have hok1 := sv_ok (b := [97, 98, 99]) PD.Ok.new sN_sp sN_mx
  rw [slL_len] at hok1
  obtain ⟨o1, ho1⟩ : ∃ o, svO PD.new (spF sN) sN [97, 98, 99] = o := ⟨_, rfl⟩
  rw [ho1] at HA hc1 hl1 hf1 hok1
  unfold SV at HA
  rw [hc1] at HA
  have hB3 := chain hb hb3
  clear hb3 hmk hd hb ho1
  go_upto_region 3 with (((with_reducible refine (HA).mono ?_); rintro z w4 ⟨rfl, hm4, hd4⟩))
  have hB4 := hB3.trans (mod2s hm4 (by omega) hwb hB3.size)
  have HAR := pd_arm 1 (by omega) w4 hd4
  clear HA hm4 hB3
  go_upto_region 4 with (((with_reducible refine (HAR).mono ?_); rintro z w5 ⟨rfl, hm5, hd5⟩))
  have hB5 := hB4.trans (mod2s hm5 (by omega) hwb hB4.size)
  have hok5 := ok_arm hok1 1 (by omega)
  clear HAR hm5 hB4 hok1 hd4 hc1
  have hci := Lib.run_convert_bytes_const (P := Try.prog) w5 27 5 #[.int .u8 100, .int .u8 101] 2 2 Try.underlying27 Try.underlying5
  have hb3 : Below (w5).heap.size w5 (World.alloc w5 (.cells #[.int .u8 100, .int .u8 101] 5 (2, 2 + 1))) := (Below.refl _ _).alloc (Nat.le_refl _) _
  have hmk := rd_mark w5 5 [.int .u8 100, .int .u8 101] (2, 2 + 1) (s := 1) (n := 2) rfl (by simp [maxLen])
  have HA := save_any (b := [100, 101]) sN_lo sN_hi _ (hd5.step hb3) hok5 (by simp) (by omega) (by omega) (hmk.more (by simp)) (by omega)
  obtain ⟨hc2, _, hf2⟩ := (sv_two (b := [100, 101]) (d := (PD.new.out o1).arm 1) hl1 hok5 sN_lo sN_hi).resolve_left (fun h => by have := h.2.2.2 rfl; simp [PD.arm] at this)
  have hok2 := sv_ok (b := [100, 101]) hok5 sN_sp sN_mx
  rw [slL_len] at hok2
  obtain ⟨o2, ho2⟩ : ∃ o, svO ((PD.new.out o1).arm 1) (spF sN) sN [100, 101] = o := ⟨_, rfl⟩
  rw [ho2] at HA hc2 hf2 hok2
  unfold SV at HA
  rw [hc2] at HA
  have hB6 := chain hB5 hb3
  clear hb3 hmk hd5 hB5 ho2 hok5
  go_upto_region 5 with (((with_reducible refine (HA).mono ?_); rintro z w7 ⟨rfl, hm7, hd7⟩))
  have hB7 := hB6.trans (mod2s hm7 (by omega) hwb hB6.size)
  have HCR := pd_crash none 0 0 [] w7 hd7 hok2 (by simp) (by omega) (by omega) (fun v _ => (Rd.of_own (World.ownsRow_nil v 0 96 1) : RdK v v.heap.size none 0 0 [])) (by simp)
  clear HA hm7 hB6 hc2
  go_upto_region 6 with (((with_reducible refine (HCR).mono ?_); rintro z w8 ⟨rfl, hm8, hd8⟩))
  have hB8 := hB7.trans (mod2s hm8 (by omega) hwb hB7.size)
  have hfin : findF (((((PD.new.out o1).arm 1).out o2).crash []).fs) sN = some ⟨sN, slL [97, 98, 99], none, 0, 0, ((slL [97, 98, 99]).length : Int)⟩ := crash_sure (hf2.trans hf1) rfl (by simp) rfl
  obtain ⟨hl1', hl2'⟩ := ld_sure (d := (((PD.new.out o1).arm 1).out o2).crash []) rfl hfin
  have HL := load_any sN_mx w8 hd8 (ok_crash hok2 []) (by simp)
  rw [hl1', hl2'] at HL
  clear HCR hm8 hB7 hd7 hok2 hfin hl1' hl2' hf1 hf2 hl1
  go_upto_region 7 with (((with_reducible refine (HL).mono ?_); rintro z w9 ⟨A, n, c, rfl, hrd, hb9⟩))
  have hB9 := Lib.hid (hB8.trans (hb9.mono hB8.size))
  have hcv := conv_str hrd
  have HSP := spare_any sN sN_hi w9
  rw [sN_eq] at HSP
  clear HL hb9 hB8 hd8 hrd
  go_wp2_with (((with_reducible refine (HSP).mono ?_); rintro z v ⟨rfl, rfl⟩))
  go_ret
  exact ⟨rfl, hB9.out⟩
set_option maxRecDepth 100000 in
set_option maxHeartbeats 4000000 in
theorem snapNil_walk {A : Option Addr} {n c : Nat} {l : List UInt8} (w : World) (hr : RdB w w.heap.size A n c l) :
    Calls Try.prog 13 #[.slice A n c] w fun r w' => r = .returned (.bool true) ∧ Below w.heap.size w w' := by
  clear hr
  have HE := fun (p : Option Addr) v => save_empty (nm := ⟨#[]⟩) (P := A) (n := n) (pc := c) p rfl v
  go_enter Try.func13, Try.ntmps13
  go_upto_region 2 with (((with_reducible refine ((load_nil w)).mono ?_); rintro z v ⟨rfl, rfl⟩))
  go_wp2_with (first
    | (((with_reducible refine ((save_nil sN_lo w)).mono ?_); rintro z w1 ⟨rfl, hb1⟩))
    | (((with_reducible refine ((pd_new w1)).mono ?_); rintro z w2 ⟨gd, bd, rfl, hd, hwb, hbg, hb2⟩))
    | (((with_reducible refine ((HE (some ⟨gd, 0, none⟩) w2)).mono ?_); rintro z w3 ⟨rfl, hb3⟩))
    | (((with_reducible refine ((awake8 w3)).mono ?_); rintro z w4 ⟨rfl, hb4⟩)))
  go_ret
  exact ⟨rfl, chain (chain (chain hb1 hb2) hb3) hb4⟩
end Go.Proofs.Ytmoijbknjadeeaa
