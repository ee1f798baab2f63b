
/- Chapter 11's example. -/
import Derived.Test.YtnkjekkdndjfaaaGreatStoreE
namespace Go.Proofs.YtnkjekkdndjfaaaGreat
set_option linter.unusedVariables false
set_option linter.unusedSimpArgs false
open Go.RowKit
theorem m6_below {w w' : World} {B gs gd bd gst bst gl : Nat} (hm : Mod (M6 gs gd bd gst bst gl) w w') (h1 : B ≤ gs) (h2 : B ≤ gd) (h3 : B ≤ bd) (h4 : B ≤ gst) (h5 : B ≤ bst) (h6 : B ≤ gl) (hB : B ≤ w.heap.size) : Below B w w' :=
  hm.toBelow (fun i o hi e => by unfold M6 at e; omega) hB
theorem ldC_none {d : PD} {nm : ByteArray} (h : d.rc nm = 6) : ldC d nm = 6 := by unfold ldC; rw [h, if_neg (by decide)]
theorem bs_none {d : PD} (h : d.rc snapN = 6) : bsC d = 0 ∧ bsS d = ⟨0, []⟩ := by
  unfold bsC bsS
  rw [ldC_none h]
  exact ⟨by rw [if_neg (by decide), if_pos rfl], by rw [if_neg (by decide)]⟩
abbrev aK : ByteArray := ⟨#[97]⟩
abbrev xV : ByteArray := ⟨#[120]⟩
def ak11 : Ask := ⟨3, aK, xV, 0, ⟨#[]⟩, 0⟩
def ag11 : Ask := ⟨1, aK, ⟨#[]⟩, 0, ⟨#[]⟩, 0⟩
def ef11 : Eff := ⟨aK, xV, 1, false⟩
theorem pl11 : planP 0 [] ak11 = ⟨⟨0, 1, ⟨#[]⟩, []⟩, ef11, true⟩ := by kernel_rfl
theorem pg11 : planP 1 [⟨aK, xV, 1⟩] ag11 = ⟨⟨0, 1, xV, []⟩, Eff.zero, false⟩ := by kernel_rfl
theorem ap11 : apOk 0 [] ef11 = true := by kernel_rfl
theorem al11 : applyL ef11.it ef11.g [] = [⟨aK, xV, 1⟩] := by kernel_rfl
theorem ri11 : ef11.right := ⟨by decide, by decide, by decide, by decide, fun h => by cases h⟩
theorem hi11 : ef11.r < 9223372036854775808 := by decide
theorem aK_mx : aK.size ≤ maxLen := by show (1 : Nat) ≤ maxLen; simp only [maxLen]; omega
theorem e_mx : (⟨#[]⟩ : ByteArray).size ≤ maxLen := by show (0 : Nat) ≤ maxLen; simp only [maxLen]; omega
theorem ks11 : Ks ⟨1, [⟨aK, xV, 1⟩]⟩ := by
  intro x hx
  simp at hx
  subst hx
  rfl
theorem ks0 : Ks ⟨0, []⟩ := fun x hx => by cases hx
theorem rp11 : rplS ⟨0, []⟩ [effL ef11] = (0, ⟨1, [⟨aK, xV, 1⟩]⟩) := by
  rw [rplS, if_pos (okE_put ef11 ri11 hi11), rdE_put ef11 ri11 hi11]
  simp only
  rw [if_neg (by decide), if_pos ap11, rplS, al11]
  rfl
theorem len11 : (effL ef11).length = 19 := by rw [effL_length]; rfl
theorem fr11 : (frameL (effL ef11)).length = 27 := by rw [frameL_length, len11]
theorem all11 : AllR (frameL (effL ef11)) [effL ef11] 27 6 := by
  have h := all_frames [effL ef11] (by intro p hp; simp at hp; subst hp; rw [len11]; omega)
  have e : framesL [effL ef11] = frameL (effL ef11) := by simp [framesL]
  rw [e, fr11] at h
  exact h
theorem rc_other {b : List UInt8} {s : Int} {lost armed : Bool} {left : Int} : (pd1 logN b s lost armed left).rc snapN = 6 := by
  unfold PD.rc pd1 rdCode
  rw [show findF [⟨logN, b, none, 0, 0, s⟩] snapN = none from by unfold findF; simp [log_snap]]
  rfl
set_option maxRecDepth 100000 in
set_option maxHeartbeats 4000000 in
theorem awake11 (w : World) : Calls Tryz.prog 11 #[] w fun x w' => x = .returned (.bool true) ∧ Below w.heap.size w w' := by
  go_enter Tryz.func11, Tryz.ntmps11
  go_upto_region 2 with (((with_reducible refine ((pd_new w)).mono ?_); rintro z w1 ⟨gd, bd, rfl, hd, hwb, hbg, hb1⟩))
  have hwd : w.heap.size ≤ gd := by omega
  have HO := sopen_new 10 w1 hd PD.Ok.new (by omega) (by omega) (bs_none (d := PD.new) rfl).1 rfl
  rw [(bs_none (d := PD.new) rfl).2] at HO
  have hB1 := hb1
  clear hd hb1
  go_upto_region 3 with (((with_reducible refine (HO).mono ?_); rintro z w2 ⟨gs, gst, bst, Ns, gl, rfl, hs, hNs, hg, hm2⟩))
  have hz1 := hB1.size
  have hB2 : Below w.heap.size w w2 := hB1.trans (mod2s hm2 hwd hwb hz1)
  rw [show max (10 : Int) 1 = 10 from rfl] at hs
  clear HO hm2 hB1
  -- the first write
  obtain ⟨left1, hla⟩ := la_pd0 (armed := false) (left := 0) logN_lo (effL ef11)
  obtain ⟨hc1, _, ho1⟩ := hla.resolve_right (fun h => by cases h.2.1)
  have hwa : waP ⟨PD.new, 0, false⟩ logN (effL ef11) = (0, ⟨pd1 logN (frameL (effL ef11)) 27 false false left1, 27, false⟩) := by
    rw [waP_go (by rw [len11]; omega)]
    rw [show PD.new = pd0 false false 0 from rfl, hc1, ho1, fr11, len11]
    rfl
  have HD := sdo_write ak11 w2 hs (by omega) PD.Ok.new (by omega) (by omega) (by omega) (by omega) (by omega) ks0 aK_mx e_mx (by rw [pl11]) (by rw [pl11]; exact ri11) (by rw [pl11]; exact hi11) (by rw [pl11]; exact ap11) (q := ⟨pd1 logN (frameL (effL ef11)) 27 false false left1, 27, false⟩) (by rw [pl11]; exact hwa)
  rw [pl11] at HD
  unfold DOg at HD
  try simp only [al11] at HD
  unfold ak11 Ask.v Ask.cells at HD
  try simp only at HD
  clear hla hc1 ho1 hwa
  go_upto_region 4 with (((with_reducible refine (HD).mono ?_); rintro z w3 ⟨A3, n3, c3, rfl, _, hm3, hs3⟩))
  have hB3 := hB2.trans (m6_below hm3 (by omega) hwd hwb (by omega) (by omega) (by omega) hB2.size)
  obtain ⟨h4, hb4⟩ := one_at w3 58 [.int .i64 0, .int .i64 1, .string ⟨#[]⟩, .slice A3 n3 c3]
  have hd4 := hs3.dk.step hb4
  have hB4 := hB3.trans (hb4.mono hB3.size)
  clear HD hm3 hs hs3 hb4 hB2 hB3
  generalize World.alloc w3 _ = w4 at *
  generalize w3.heap.size = g4 at *
  try simp only at hd4
  have hok4 := ok_pd1 (nm := logN) (b := frameL (effL ef11)) (s := 27) (lost := false) (armed := false) (left := left1) logN_hi (by rw [fr11]; omega) hd4.left0
  rw [fr11] at hok4
  obtain ⟨m, hm0, hm1, hcr⟩ := cr_pd1 (nm := logN) (b := frameL (effL ef11)) (s := 27) (lost := false) (armed := false) (left := left1) [] (by rw [fr11]; omega)
  have hm27 : m = 27 := by rw [fr11] at hm1; omega
  subst hm27
  rw [List.take_of_length_le (by rw [fr11]; omega)] at hcr
  have HCR := pd_crash none 0 0 [] w4 hd4 hok4 (by omega) (by omega) (by omega) (fun v _ => (Rd.of_own (World.ownsRow_nil v 0 119 1) : RdK v v.heap.size none 0 0 [])) (by simp)
  rw [hcr] at HCR
  clear hok4 hcr hm0 hm1
  go_upto_region 5 with (((with_reducible refine (HCR).mono ?_); rintro z w5 ⟨rfl, hm5, hd5⟩))
  have h5 := hm5.at h4 (hd4.freeAt h4 (by decide))
  replace hd5 : IsD w5 gd bd 4 (pd1 logN (frameL (effL ef11)) 27 false false 0) := hd5
  have hB5 := hB4.trans (mod2s hm5 hwd hwb hB4.size)
  clear HCR hm5 hd4 h4 hB4
  have hok5 := ok_pd1 (nm := logN) (b := frameL (effL ef11)) (s := 27) (lost := false) (armed := false) (left := 0) logN_hi (by rw [fr11]; omega) (by omega)
  rw [fr11] at hok5
  have hbs := bs_none (d := pd1 logN (frameL (effL ef11)) 27 false false 0) rc_other
  have hmd := mend_pd1 (nm := logN) (b := frameL (effL ef11)) (s := 27) 27 (by rw [fr11]; omega) (by rw [fr11]; omega)
  have hrb : (pd1 logN (frameL (effL ef11)) 27 false false 0).rb logN = frameL (effL ef11) := rb_pd1
  have HO := sopen_log (rs := [effL ef11]) (at_ := 27) (code := 6) (s' := ⟨1, [⟨aK, xV, 1⟩]⟩) 10 w5 hd5 hok5 (by omega) (by omega) hbs.1 rc_pd1 (by rw [hrb]; exact all11) (by rw [hrb]; exact hmd.1) (by rw [hbs.2]; exact rp11)
  rw [hrb, hmd.2, List.take_of_length_le (by rw [fr11]; omega)] at HO
  clear hok5 hbs hmd hrb
  go_upto_region 6 with (((with_reducible refine (HO).mono ?_); rintro z w6 ⟨gs2, gst2, bst2, Ns2, gl2, rfl, hs6, hNs2, hg6, hm6⟩))
  have h6 := hm6.at h5 (hd5.freeAt h5 (by decide))
  have hz5 := hB5.size
  have hB6 := hB5.trans (mod2s hm6 hwd hwb hB5.size)
  rw [show max (10 : Int) 1 = 10 from rfl] at hs6
  clear HO hm6 hd5 h5 hB5
  have HG := sdo_read ag11 w6 hs6 (by omega) (by omega) ks11 aK_mx e_mx (by rw [pg11])
  rw [pg11] at HG
  unfold DOg at HG
  unfold ag11 Ask.v Ask.cells at HG
  try simp only at HG
  go_upto_region 7 with (((with_reducible refine (HG).mono ?_); rintro z w7 ⟨A7, n7, c7, rfl, _, hm7, hs7⟩))
  have h7 := hs6.far h6 (by decide) (by decide) (by decide) (by decide) hm7
  have hB7 := hB6.trans (m6_below hm7 (by omega) hwd hwb (by omega) (by omega) (by omega) hB6.size)
  obtain ⟨h8, hb8⟩ := one_at w7 58 [.int .i64 0, .int .i64 1, .string xV, .slice A7 n7 c7]
  replace h7 := h7.step hb8
  have HB8 := Lib.hid (hB7.trans (hb8.mono hB7.size))
  clear HG hm7 hs6 hs7 h6 hB6 hB7 hb8
  generalize World.alloc w7 _ = w8 at *
  generalize w7.heap.size = g8 at *
  obtain ⟨⟨x0, x1, x2, x3⟩, xf⟩ := at4 h7
  obtain ⟨⟨y0, y1, y2, y3⟩, yf⟩ := at4 h8
  clear h7 h8
  go_wp2_with fail
  go_ret
  exact ⟨rfl, HB8.out⟩
end Go.Proofs.YtnkjekkdndjfaaaGreat
