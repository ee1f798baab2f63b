
/- Chapter 7's example; the law WalNil's walk. -/
import Derived.Test.YtmoijbknjadeeaaWalOne
namespace Go.Proofs.Ytmoijbknjadeeaa
set_option linter.unusedVariables false
set_option linter.unusedSimpArgs false
open Go.RowKit
section
variable {w w' : World} {gd bd N : Nat} {nm : ByteArray} {b : List UInt8} {s : Int} {x : Ending} {lost armed : Bool} {left : Int}
theorem wo_pd0 (h : WO w w' gd bd N nm (pd0 lost armed left) x) : ∃ gl, x = .returned (.tuple #[.pointer (some ⟨gl, 0, none⟩), .slice none 0 0, .int .i64 0]) ∧ IsLg w' gl gd nm 0 false ∧ w.heap.size ≤ gl ∧ Below w.heap.size w w' := by
  unfold WO WOg at h
  rw [rc_pd0] at h
  rcases h with h | h | h
  · exact h.2
  · exact absurd rfl h.1
  · exact absurd h.1 (by omega)
theorem wo_pd1 {rs : List (List UInt8)} {at_ code : Nat} (ha : AllR b rs at_ code) (hs : 0 ≤ s ∧ s ≤ b.length) (h : WO w w' gd bd N nm (pd1 nm b s false false 0) x) :
    ∃ gl A c ys, rs = ys.map Bsl.l ∧ x = .returned (.tuple #[.pointer (some ⟨gl, 0, none⟩), .slice A ys.length c, .int .i64 0]) ∧ IsLg w' gl gd nm (at_ : Int) false ∧ w.heap.size ≤ gl ∧ RecO w' w.heap.size A ys.length c ys ∧ Mod (fun i _ => i = gd ∨ i = bd) w w' ∧ IsD w' gd bd (N + 1) (pd1 nm (b.take at_) at_ false false 0) := by
  unfold WO WOg at h
  rw [rc_pd1, rb_pd1] at h
  rcases h with h | h | ⟨_, rs', at', code', ha', hm, hd, h⟩
  · exact absurd h.1 (by omega)
  · exact absurd rfl h.2.1
  · obtain ⟨rfl, rfl, rfl⟩ := ha.det ha'
    obtain ⟨h1, h2⟩ := mend_pd1 (nm := nm) at_ (allR_le ha) hs
    rw [h2] at hd
    rcases h with ⟨h, _⟩ | ⟨_, gl, A, c, ys, e1, e2, e3, e4, e5⟩
    · exact absurd h1 h
    · exact ⟨gl, A, c, ys, e1, e2, e3, e4, e5, hm, hd⟩
end
theorem ok_pd0 {lost armed : Bool} {left : Int} (hl : 0 ≤ left ∧ left < 9223372036854775808) : (pd0 lost armed left).Ok 0 0 := ⟨by unfold AscF pd0; simp, (fun x hx => by cases hx), Nat.le_refl _, hl, (fun x hx => by cases hx), rfl⟩
theorem ok_pd1 {nm : ByteArray} {b : List UInt8} {s : Int} {lost armed : Bool} {left : Int} (hk : nm.size ≤ maxLen) (hs : 0 ≤ s ∧ s ≤ b.length) (hl : 0 ≤ left ∧ left < 9223372036854775808) : (pd1 nm b s lost armed left).Ok b.length 1 :=
  ⟨by unfold AscF pd1; simp, (fun x hx => by simp [pd1] at hx; subst hx; exact ⟨Nat.le_refl _, hk⟩), Nat.le_refl _, hl, (fun x hx => by simp [pd1] at hx; subst hx; exact hs), rfl⟩
theorem IsD.left0 {w : World} {gd bd N : Nat} {d : PD} (h : IsD w gd bd N d) : 0 ≤ d.left ∧ d.left < 9223372036854775808 := by obtain ⟨l, h1, h2⟩ := h; exact h2.left0
abbrev wF : ByteArray := ⟨#[119]⟩
theorem wF_hi : wF.size ≤ maxLen := by show (1 : Nat) ≤ maxLen; simp only [maxLen]; omega
theorem wF_lo : 1 ≤ wF.size := Nat.le_refl 1
theorem waP_go {d : PD} {sz : Int} {nm : ByteArray} {p : List UInt8} (hp : p.length ≠ 0) : waP ⟨d, sz, false⟩ nm p = ((laO d nm p).code, ⟨d.out (laO d nm p), if (laO d nm p).code = 0 then sz + (8 + p.length) else sz, !decide ((laO d nm p).code = 0)⟩) := by
  unfold waP
  simp only [Bool.false_eq_true, if_false]
  rw [if_neg hp]
theorem mod3w {w w' : World} {B gl gd bd : Nat} (hm : Mod (fun i _ => i = gl ∨ i = gd ∨ i = bd) w w') (h1 : B ≤ gl) (h2 : B ≤ gd) (h3 : B ≤ bd) (hB : B ≤ w.heap.size) : Below B w w' :=
  hm.toBelow (fun i o hi e => by rcases e with e | e | e <;> omega) hB
theorem mod2w {w w' : World} {B gd bd : Nat} (hm : Mod (fun i _ => i = gd ∨ i = bd) w w') (h2 : B ≤ gd) (h3 : B ≤ bd) (hB : B ≤ w.heap.size) : Below B w w' :=
  hm.toBelow (fun i o hi e => by rcases e with e | e <;> omega) hB
theorem torn7 : AllR ((framesL [[97, 98, 99], [100, 101, 102, 103, 104]]).take 20) [[97, 98, 99]] 11 4 := all_torn [[97, 98, 99], [100, 101, 102, 103, 104]] 20 (by simp) (by simp [framesL, frameL_length])
theorem wopen_pd0 {gd bd N : Nat} {lost armed : Bool} {left : Int} (hl : 0 ≤ left ∧ left < 9223372036854775808) (w : World) (h : IsD w gd bd N (pd0 lost armed left)) (hN : N < 900000) :
    Calls Try.prog 31 #[.pointer (some ⟨gd, 0, none⟩), .string wF] w fun x w' => ∃ gl, x = .returned (.tuple #[.pointer (some ⟨gl, 0, none⟩), .slice none 0 0, .int .i64 0]) ∧ IsLg w' gl gd wF 0 false ∧ w.heap.size ≤ gl ∧ Below w.heap.size w w' :=
  (wopen_any wF_lo wF_hi w h (ok_pd0 hl) (by omega) hN).mono fun x w' h => wo_pd0 h
theorem wopen_pd1 {gd bd N : Nat} {b : List UInt8} {s : Int} {rs : List (List UInt8)} {at_ code : Nat} (ha : AllR b rs at_ code) (hs : 0 ≤ s ∧ s ≤ b.length) (hb : b.length ≤ 1048576) (w : World) (h : IsD w gd bd N (pd1 wF b s false false 0)) (hN : N < 900000) :
    Calls Try.prog 31 #[.pointer (some ⟨gd, 0, none⟩), .string wF] w fun x w' => ∃ gl A c ys, rs = ys.map Bsl.l ∧ x = .returned (.tuple #[.pointer (some ⟨gl, 0, none⟩), .slice A ys.length c, .int .i64 0]) ∧ IsLg w' gl gd wF (at_ : Int) false ∧ w.heap.size ≤ gl ∧ RecO w' w.heap.size A ys.length c ys ∧ Mod (fun i _ => i = gd ∨ i = bd) w w' ∧ IsD w' gd bd (N + 1) (pd1 wF (b.take at_) at_ false false 0) :=
  (wopen_any wF_lo wF_hi w h (ok_pd1 wF_hi hs (by omega)) hb hN).mono fun x w' h => wo_pd1 ha hs h
set_option maxRecDepth 100000 in
set_option maxHeartbeats 4000000 in
theorem awake7 (w : World) : Calls Try.prog 36 #[] w fun x w' => x = .returned (.bool true) ∧ Below w.heap.size w w' := by
  go_enter Try.func36, Try.ntmps36
  go_upto_region 2 with (((with_reducible refine ((pd_new w)).mono ?_); rintro z w1 ⟨gd, bd, rfl, hd, hwb, hbg, hb⟩))
  have HO := wopen_pd0 (by omega) w1 (show IsD w1 gd bd 0 (pd0 false false 0) from hd) (by omega)
  go_upto_region 3 with (((with_reducible refine (HO).mono ?_); rintro z w2 ⟨gl, rfl, hl, hgl, hb2⟩))
  have hd2 : IsD w2 gd bd 0 (pd0 false false 0) := hd.step hb2
  have hB2 := chain hb hb2
  have hgl2 : w.heap.size ≤ gl := Nat.le_trans hb.size hgl
  clear HO hd hb2 hb hgl
  have hci := Lib.run_convert_bytes_const (P := Try.prog) w2 27 5 #[.int .u8 97, .int .u8 98, .int .u8 99] 3 3 Try.underlying27 Try.underlying5
  have hb3 : Below (w2).heap.size w2 (World.alloc w2 (.cells #[.int .u8 97, .int .u8 98, .int .u8 99] 5 (3, 3 + 1))) := (Below.refl _ _).alloc (Nat.le_refl _) _
  have hmk := rd_mark w2 5 [.int .u8 97, .int .u8 98, .int .u8 99] (3, 3 + 1) (s := 1) (n := 3) rfl (by simp [maxLen])
  have HA := wapp_any (s := ⟨pd0 false false 0, 0, false⟩) wF_hi _ 3 3 [97, 98, 99] _ ⟨At.step hl hb3, hd2.step hb3⟩ (ok_pd0 (by omega)) (by omega) (by omega) (hmk.more (by simp)) (by omega) (by simp)
  have hB3 := chain hB2 hb3
  rw [waP_go (by simp)] at HA
  obtain ⟨left1, hla⟩ := la_pd0 (armed := false) (left := 0) wF_lo [97, 98, 99]
  obtain ⟨hc1, _, ho1⟩ := hla.resolve_right (fun h => by cases h.2.1)
  rw [hc1, ho1] at HA
  clear hb3 hmk hl hd2 hB2 hc1 ho1 hla
  go_upto_region 4 with (((with_reducible refine (HA).mono ?_); rintro z w4 ⟨rfl, hm4, hW4⟩))
  have hB4 := hB3.trans (mod3w hm4 hgl2 (by omega) hwb hB3.size)
  clear HA hm4 hB3
  obtain ⟨hl4, hd4⟩ := hW4
  have e1 : (frameL [97, 98, 99]).length = 11 := by rw [frameL_length]; rfl
  rw [e1] at hd4
  replace hd4 : IsD w4 gd bd 2 (pd1 wF (frameL [97, 98, 99]) 11 false false left1) := hd4
  replace hl4 : IsLg w4 gl gd wF 11 false := by simpa using hl4
  have HAR := pd_arm 0 (by omega) w4 hd4
  go_upto_region 5 with (((with_reducible refine (HAR).mono ?_); rintro z w5 ⟨rfl, hm5, hd5⟩))
  replace hd5 : IsD w5 gd bd 2 (pd1 wF (frameL [97, 98, 99]) 11 false true 0) := hd5
  have hl5 := lg_keep hl4 hd4 hm5
  have hB5 := hB4.trans (mod2w hm5 (by omega) hwb hB4.size)
  clear HAR hm5 hd4 hl4 hB4
  have hci := Lib.run_convert_bytes_const (P := Try.prog) w5 27 5 #[.int .u8 100, .int .u8 101, .int .u8 102, .int .u8 103, .int .u8 104] 5 5 Try.underlying27 Try.underlying5
  have hb3 : Below (w5).heap.size w5 (World.alloc w5 (.cells #[.int .u8 100, .int .u8 101, .int .u8 102, .int .u8 103, .int .u8 104] 5 (5, 5 + 1))) := (Below.refl _ _).alloc (Nat.le_refl _) _
  have hmk := rd_mark w5 5 [.int .u8 100, .int .u8 101, .int .u8 102, .int .u8 103, .int .u8 104] (5, 5 + 1) (s := 1) (n := 5) rfl (by simp [maxLen])
  have HA := wapp_any (s := ⟨pd1 wF (frameL [97, 98, 99]) 11 false true 0, 11, false⟩) wF_hi _ 5 5 [100, 101, 102, 103, 104] _ ⟨At.step hl5 hb3, hd5.step hb3⟩ (ok_pd1 wF_hi (by rw [e1]; omega) (by omega)) (by rw [e1]; omega) (by omega) (hmk.more (by simp)) (by omega) (by simp)
  have hB6 := chain hB5 hb3
  rw [waP_go (by simp)] at HA
  obtain ⟨left2, hla⟩ := la_pd1 (b := frameL [97, 98, 99]) (s := 11) (armed := true) (left := 0) wF_lo [100, 101, 102, 103, 104]
  obtain ⟨hc1, _, ho1⟩ := hla.resolve_left (fun h => h.2.1 rfl rfl)
  rw [hc1, ho1] at HA
  clear hb3 hmk hl5 hd5 hB5 hc1 ho1 hla
  go_upto_region 6 with (((with_reducible refine (HA).mono ?_); rintro z w7 ⟨rfl, hm7, hW7⟩))
  have hB7 := hB6.trans (mod3w hm7 hgl2 (by omega) hwb hB6.size)
  clear HA hm7 hB6
  obtain ⟨hl7, hd7⟩ := hW7
  replace hl7 : IsLg w7 gl gd wF 11 true := by simpa using hl7
  simp only at hd7
  have e2 : (frameL [97, 98, 99] ++ frameL [100, 101, 102, 103, 104]).length = 24 := by rw [List.length_append, frameL_length, frameL_length]; rfl
  have e3 : frameL [97, 98, 99] ++ frameL [100, 101, 102, 103, 104] = framesL [[97, 98, 99], [100, 101, 102, 103, 104]] := by simp [framesL]
  obtain ⟨h2, hb2⟩ := one_at w7 96 [.int .u16 9]
  have hb6 := hd7.lt.2
  have hd8 := hd7.step hb2
  have hl8 : IsLg _ gl gd wF 11 true := At.step hl7 hb2
  have hB8 := chain hB7 hb2
  have hkeep : ∀ v, Mod (fun i _ => i = bd) (World.alloc w7 (.cells [Value.int .u16 9].toArray 96)) v → RdK v v.heap.size (some ⟨w7.heap.size, 0, none⟩) 1 1 [9] := fun v hm => Rd.of_own (own_lit6 (hm.at h2 (by omega)) rfl (by simp [maxLen]) 0 (Nat.zero_le _))
  have hok8 := ok_pd1 (nm := wF) (b := frameL [97, 98, 99] ++ frameL [100, 101, 102, 103, 104]) (s := 11) (lost := true) (armed := true) (left := left2) wF_hi (by rw [e2]; omega)
  have hok8 := hok8 hd7.left0
  have hcr : (pd1 wF (frameL [97, 98, 99] ++ frameL [100, 101, 102, 103, 104]) 11 true true left2).crash [9] = pd1 wF ((framesL [[97, 98, 99], [100, 101, 102, 103, 104]]).take 20) 20 false false 0 := by
    rw [e3] at e2 ⊢
    unfold PD.crash pd1 crashF crashX crashN
    simp only
    rw [e2]
    rfl
  have HCR := pd_crash _ 1 1 [9] _ hd8 hok8 (by rw [e2]; omega) (by omega) (by omega) hkeep (by simp)
  rw [hcr] at HCR
  clear hb2 hd7 hkeep h2 hB7 hl7 hok8 hcr
  go_upto_region 7 with (((with_reducible refine (HCR).mono ?_); rintro z w9 ⟨rfl, hm9, hd9⟩))
  have hl9 := lg_keep hl8 hd8 hm9
  have hB9 := hB8.trans (mod2w hm9 (by omega) hwb hB8.size)
  clear HCR hm9 hd8 hl8 hB8
  have HO := wopen_pd1 torn7 (by rw [List.length_take, ← e3, e2]; omega) (by rw [List.length_take]; omega) w9 hd9 (by omega)
  go_upto_region 8 with (((with_reducible refine (HO).mono ?_); rintro z w10 ⟨gl2, A, c, ys, hys, rfl, hlx, hgx, hrs, hm10, hd10⟩))
  have hl10 := lg_keep hl9 hd9 hm10
  have hB10 := hB9.trans (mod2w hm10 (by omega) hwb hB9.size)
  obtain ⟨y, rfl⟩ : ∃ y, ys = [y] := by
    match ys, hys with
    | [y], _ => exact ⟨y, rfl⟩
    | [], h => simp at h
    | _ :: _ :: _, h => simp at h
  have hyl : y.l = [97, 98, 99] := by simpa using hys.symm
  obtain ⟨gq, off, e, hgq, hcell, hry⟩ := hrs.rd.get (k := 0) (by simp)
  subst e
  simp only [List.getElem_cons_zero] at hcell hry
  rw [Nat.add_zero] at hcell
  rw [hyl] at hry
  have hcv := conv_str hry
  have HDE := wdead_any w10 hl10
  have HSU := pd_su wF wF_hi w10 hd10
  rw [su_pd1] at HSU
  have hcmp : ((⟨[97, 98, 99].toArray⟩ : ByteArray).toList == (⟨#[97, 98, 99]⟩ : ByteArray).toList) = true := by rw [ba_beq]; rfl
  have HB := Lib.hid hB10
  clear HO hlx hrs hm10 hd10 hl9 hl10 hd9 hB9 hB10 hys hry e2 e3 e1 hyl
  go_wp2_with (first | (((with_reducible refine (HDE).mono ?_); rintro z v ⟨rfl, rfl⟩)) | (((with_reducible refine (HSU).mono ?_); rintro z v ⟨rfl, rfl⟩)))
  go_ret
  exact ⟨rfl, HB.out⟩
end Go.Proofs.Ytmoijbknjadeeaa
