/- Chapter 3: the walk of PackPuts. -/
import Derived.Test.YtkohfgkokboghaaLaw03
import Derived.Test.YtkohfgkokboghaaRegion
namespace Go.Proofs.Ytkohfgkokboghaa
set_option linter.unusedSimpArgs false
set_option linter.unusedVariables false
open Go.RowKit

set_option maxHeartbeats 4000000 in
theorem packPuts_walk {A : Option Addr} {n c : Nat} {l : List UInt8} {x : Nat} {width : Int} {s : ByteArray} (w : World) (hr : RdB w w.heap.size A n c l) (hx : x < 18446744073709551616)
    (hw : -9223372036854775808 ≤ width ∧ width ≤ 9223372036854775807) (hs : s.size ≤ maxLen) :
    Calls Try.prog 5 #[.slice A n c, .int .u64 (x : Int), .int .i64 width, .string s] w fun e w' => e = .returned (.bool true) ∧ Below w.heap.size w w' := by
  have hr2 := hr.take' 200
  have hpl := putW_length x width
  have hl2 : (l.take 200).length ≤ 200 := by simp; omega
  have hfew := few03 A n c _ l w hr
  generalize l.take 200 = l2 at *
  have HF := Lib.hid hfew
  clear hfew
  go_enter Try.func5, Try.ntmps5
  go_wp2_with (first | (go_at_call 24; refine HF.out.mono ?_; rintro e w1 ⟨rfl, rfl⟩) | (go_at_call 25; refine (put_w _ _ _ _ x width _ hr2 (by omega) hx).mono ?_; rintro e w1 ⟨A1, c1, rfl, hown1, hb1⟩))
  have k1 : ∀ w', Below w1.heap.size w1 w' → (convert 29 9 (.slice A l2.length c)).run Try.prog w' = .ok (.string ⟨l2.toArray⟩) w' := fun w' h => conv_str (((hr2.below hb1).more hb1.size).below h)
  have k2 : ∀ w', Below w1.heap.size w1 w' → (convert 29 9 (.slice A1 (l2.length + (putW x width).length) c1)).run Try.prog w' = .ok (.string ⟨(l2 ++ putW x width).toArray⟩) w' := fun w' h => conv_str (hown1.rd.below h)
  have hcat := cat_str l2 (putW x width)
  have hsmall : ¬ 9223372036854775807 < l2.length + (putW x width).length := by omega
  refine region_begin (fun w' => Below w1.heap.size w1 w') (by kernel_rfl) (Below.drew (Below.refl _ _)) (fun hHeld => ?_)
  refine wpAnyH_take (i := 0) (v := ?_) rfl (by kernel_rfl) (by kernel_rfl) (by kernel_rfl) (fun _ _ _ h => h) (Or.inl ⟨by kernel_rfl, ?_⟩) (by assumption) ?_
  rotate_left
  · (intro wS hwS; (try dsimp only at hwS); go_simp; try (with_reducible rfl))
  try simp only [Act.put, List.setIfInBounds_toArray, List.set_cons_zero, List.set_cons_succ]
  refine wpAnyH_take (i := 1) (v := ?_) rfl (by kernel_rfl) (by kernel_rfl) (by kernel_rfl) (fun _ _ _ h => h) (Or.inl ⟨by kernel_rfl, ?_⟩) (by assumption) ?_
  rotate_left
  · (intro wS hwS; (try dsimp only at hwS); go_simp; try (with_reducible rfl))
  try simp only [Act.put, List.setIfInBounds_toArray, List.set_cons_zero, List.set_cons_succ]
  refine wpAnyH_take (i := 2) (v := ?_) rfl (by kernel_rfl) (by kernel_rfl) (by kernel_rfl) (fun _ _ _ h => h) (Or.inl ⟨by kernel_rfl, ?_⟩) (by assumption) ?_
  rotate_left
  · (intro wS hwS; (try dsimp only at hwS); go_simp; try (with_reducible rfl))
  try simp only [Act.put, List.setIfInBounds_toArray, List.set_cons_zero, List.set_cons_succ]
  refine wpAnyH_take (i := 3) (v := ?_) rfl (by kernel_rfl) (by kernel_rfl) (by kernel_rfl) (fun _ _ _ h => h) (Or.inl ⟨by kernel_rfl, ?_⟩) (by assumption) ?_
  rotate_left
  · (intro wS hwS; (try dsimp only at hwS); go_simp; try (with_reducible rfl))
  try simp only [Act.put, List.setIfInBounds_toArray, List.set_cons_zero, List.set_cons_succ]
  refine wpAnyH_take (i := 4) (v := ?_) rfl (by kernel_rfl) (by kernel_rfl) (by kernel_rfl) (fun _ _ _ h => h) (Or.inl ⟨by kernel_rfl, ?_⟩) (by assumption) ?_
  rotate_left
  · (intro wS hwS; (try dsimp only at hwS); go_simp; try (with_reducible rfl))
  try simp only [Act.put, List.setIfInBounds_toArray, List.set_cons_zero, List.set_cons_succ]
  refine wpAnyH_take (i := 5) (v := ?_) rfl (by kernel_rfl) (by kernel_rfl) (by kernel_rfl) (fun _ _ _ h => h) (Or.inl ⟨by kernel_rfl, ?_⟩) (by assumption) ?_
  rotate_left
  · (intro wS hwS; (try dsimp only at hwS); go_simp; try (with_reducible rfl))
  try simp only [Act.put, List.setIfInBounds_toArray, List.set_cons_zero, List.set_cons_succ]
  refine region_one 6 (by kernel_rfl) rfl (fun K hK => ?_)
  go_simp
  refine (ref_put_w x width _ hx).mono ?_
  rintro e w2 ⟨A2, rfl, hown2, hb2⟩
  have hb12 : Below w1.heap.size w1 w2 := hHeld.trans (hb2.mono hHeld.size)
  refine hK.out _ _ (fun w' => Below w2.heap.size w2 w') (Below.refl _ _) (fun w' h => hb12.trans (h.mono hb12.size)) (fun hHeld => ?_)
  clear hK K
  try simp only [Act.put, List.setIfInBounds_toArray, List.set_cons_zero, List.set_cons_succ]
  have k3 : ∀ w', Below w2.heap.size w2 w' → _ := fun w' h => conv_str (hown2.rd.below h)
  refine wpAnyH_take (i := 7) (v := ?_) rfl (by kernel_rfl) (by kernel_rfl) (by kernel_rfl) (fun _ _ _ h => h) (Or.inl ⟨by kernel_rfl, ?_⟩) (by assumption) ?_
  rotate_left
  · (intro wS hwS; (try dsimp only at hwS); go_simp; try (with_reducible rfl))
  try simp only [Act.put, List.setIfInBounds_toArray, List.set_cons_zero, List.set_cons_succ]
  refine wpAnyH_take (i := 8) (v := ?_) rfl (by kernel_rfl) (by kernel_rfl) (by kernel_rfl) (fun _ _ _ h => h) (Or.inl ⟨by kernel_rfl, ?_⟩) (by assumption) ?_
  rotate_left
  · (intro wS hwS; (try dsimp only at hwS); go_simp; try (with_reducible rfl))
  try simp only [Act.put, List.setIfInBounds_toArray, List.set_cons_zero, List.set_cons_succ]
  refine wpAnyH_take (i := 9) (v := ?_) rfl (by kernel_rfl) (by kernel_rfl) (by kernel_rfl) (fun _ _ _ h => h) (Or.inl ⟨by kernel_rfl, ?_⟩) (by assumption) ?_
  rotate_left
  · (intro wS hwS; (try dsimp only at hwS); go_simp; try (with_reducible rfl))
  try simp only [Act.put, List.setIfInBounds_toArray, List.set_cons_zero, List.set_cons_succ]
  refine wpAnyH_done (by kernel_rfl) ?_ _
  have hb2' : Below w.heap.size w w2 := hb1.trans (hb12.mono hb1.size)
  by_cases h64 : 64 < s.size
  · go_wp2_with (first | (go_at_call 27; refine (ptext_long _ _ _ _ _ h64).mono ?_; rintro e w3 ⟨rfl, rfl⟩) | (go_at_call 23; refine (awake03 _).mono ?_; rintro e w3 ⟨rfl, hb3⟩))
    go_ret
    exact ⟨rfl, hb2'.trans (hb3.mono hb2'.size)⟩
  · have h64' : s.size ≤ 64 := by omega
    have hrx : RdB w2 w2.heap.size A1 (l2.length + (putW x width).length) c1 (l2 ++ putW x width) := (hown1.rd.below hb12).more hb12.size
    go_wp2_with (first | (go_at_call 27; refine (ptext_ok _ _ _ _ _ _ hrx (by omega) h64').mono ?_; rintro e w3 ⟨A3, c3, rfl, hown3, hb3⟩))
    have hcat2 := cat_str (l2 ++ putW x width) (textL s)
    have htl := textL_length s
    have hlen2 : (⟨(l2 ++ putW x width).toArray⟩ : ByteArray).size = l2.length + (putW x width).length := by show (l2 ++ putW x width).toArray.size = _; simp
    have hlen3 : (⟨(textL s).toArray⟩ : ByteArray).size = s.size + 1 := by show (textL s).toArray.size = _; simp [htl]
    have hsmall2 : ¬ 9223372036854775807 < l2.length + (putW x width).length + (s.size + 1) := by omega
    have HT := Lib.hid htl
    clear htl
    have k4 : ∀ w', Below w3.heap.size w3 w' → (convert 29 9 (.slice A1 (l2.length + (putW x width).length) c1)).run Try.prog w' = .ok (.string ⟨(l2 ++ putW x width).toArray⟩) w' := fun w' h => conv_str (((hrx.below hb3).more hb3.size).below h)
    have k5 : ∀ w', Below w3.heap.size w3 w' → _ := fun w' h => conv_str (hown3.rd.below h)
    refine region_begin (fun w' => Below w3.heap.size w3 w') (by kernel_rfl) (Below.drew (Below.refl _ _)) (fun hHeld => ?_)
    refine wpAnyH_take (i := 0) (v := ?_) rfl (by kernel_rfl) (by kernel_rfl) (by kernel_rfl) (fun _ _ _ h => h) (Or.inl ⟨by kernel_rfl, ?_⟩) (by assumption) ?_
    rotate_left
    · (intro wS hwS; (try dsimp only at hwS); go_simp; try (with_reducible rfl))
    try simp only [Act.put, List.setIfInBounds_toArray, List.set_cons_zero, List.set_cons_succ]
    refine wpAnyH_take (i := 1) (v := ?_) rfl (by kernel_rfl) (by kernel_rfl) (by kernel_rfl) (fun _ _ _ h => h) (Or.inl ⟨by kernel_rfl, ?_⟩) (by assumption) ?_
    rotate_left
    · (intro wS hwS; (try dsimp only at hwS); go_simp; try (with_reducible rfl))
    try simp only [Act.put, List.setIfInBounds_toArray, List.set_cons_zero, List.set_cons_succ]
    refine wpAnyH_take (i := 2) (v := ?_) rfl (by kernel_rfl) (by kernel_rfl) (by kernel_rfl) (fun _ _ _ h => h) (Or.inl ⟨by kernel_rfl, ?_⟩) (by assumption) ?_
    rotate_left
    · (intro wS hwS; (try dsimp only at hwS); go_simp; try (with_reducible rfl))
    try simp only [Act.put, List.setIfInBounds_toArray, List.set_cons_zero, List.set_cons_succ]
    refine wpAnyH_take (i := 3) (v := ?_) rfl (by kernel_rfl) (by kernel_rfl) (by kernel_rfl) (fun _ _ _ h => h) (Or.inl ⟨by kernel_rfl, ?_⟩) (by assumption) ?_
    rotate_left
    · (intro wS hwS; (try dsimp only at hwS); go_simp; try (with_reducible rfl))
    try simp only [Act.put, List.setIfInBounds_toArray, List.set_cons_zero, List.set_cons_succ]
    refine wpAnyH_take (i := 4) (v := ?_) rfl (by kernel_rfl) (by kernel_rfl) (by kernel_rfl) (fun _ _ _ h => h) (Or.inl ⟨by kernel_rfl, ?_⟩) (by assumption) ?_
    rotate_left
    · (intro wS hwS; (try dsimp only at hwS); go_simp; try (with_reducible rfl))
    try simp only [Act.put, List.setIfInBounds_toArray, List.set_cons_zero, List.set_cons_succ]
    refine wpAnyH_take (i := 5) (v := ?_) rfl (by kernel_rfl) (by kernel_rfl) (by kernel_rfl) (fun _ _ _ h => h) (Or.inl ⟨by kernel_rfl, ?_⟩) (by assumption) ?_
    rotate_left
    · (intro wS hwS; (try dsimp only at hwS); go_simp; try (with_reducible rfl))
    try simp only [Act.put, List.setIfInBounds_toArray, List.set_cons_zero, List.set_cons_succ]
    refine wpAnyH_take (i := 6) (v := ?_) rfl (by kernel_rfl) (by kernel_rfl) (by kernel_rfl) (fun _ _ _ h => h) (Or.inl ⟨by kernel_rfl, ?_⟩) (by assumption) ?_
    rotate_left
    · (intro wS hwS; (try dsimp only at hwS); go_simp; try (with_reducible rfl))
    try simp only [Act.put, List.setIfInBounds_toArray, List.set_cons_zero, List.set_cons_succ]
    refine wpAnyH_take (i := 7) (v := ?_) rfl (by kernel_rfl) (by kernel_rfl) (by kernel_rfl) (fun _ _ _ h => h) (Or.inl ⟨by kernel_rfl, ?_⟩) (by assumption) ?_
    rotate_left
    · (intro wS hwS; (try dsimp only at hwS); go_simp; try (with_reducible rfl))
    try simp only [Act.put, List.setIfInBounds_toArray, List.set_cons_zero, List.set_cons_succ]
    refine region_one 8 (by kernel_rfl) rfl (fun K hK => ?_)
    go_simp
    refine (ref_text s _ (by omega)).mono ?_
    rintro e w4 ⟨A4, c4, rfl, hown4, hb4⟩
    have hb34 : Below w3.heap.size w3 w4 := hHeld.trans (hb4.mono hHeld.size)
    refine hK.out _ _ (fun w' => Below w4.heap.size w4 w') (Below.refl _ _) (fun w' h => hb34.trans (h.mono hb34.size)) (fun hHeld => ?_)
    clear hK K
    try simp only [Act.put, List.setIfInBounds_toArray, List.set_cons_zero, List.set_cons_succ]
    have k6 : ∀ w', Below w4.heap.size w4 w' → _ := fun w' h => conv_str (hown4.rd.below h)
    refine wpAnyH_take (i := 9) (v := ?_) rfl (by kernel_rfl) (by kernel_rfl) (by kernel_rfl) (fun _ _ _ h => h) (Or.inl ⟨by kernel_rfl, ?_⟩) (by assumption) ?_
    rotate_left
    · (intro wS hwS; (try dsimp only at hwS); go_simp; try (with_reducible rfl))
    try simp only [Act.put, List.setIfInBounds_toArray, List.set_cons_zero, List.set_cons_succ]
    refine wpAnyH_take (i := 10) (v := ?_) rfl (by kernel_rfl) (by kernel_rfl) (by kernel_rfl) (fun _ _ _ h => h) (Or.inl ⟨by kernel_rfl, ?_⟩) (by assumption) ?_
    rotate_left
    · (intro wS hwS; (try dsimp only at hwS); go_simp; try (with_reducible rfl))
    try simp only [Act.put, List.setIfInBounds_toArray, List.set_cons_zero, List.set_cons_succ]
    refine wpAnyH_take (i := 11) (v := ?_) rfl (by kernel_rfl) (by kernel_rfl) (by kernel_rfl) (fun _ _ _ h => h) (Or.inl ⟨by kernel_rfl, ?_⟩) (by assumption) ?_
    rotate_left
    · (intro wS hwS; (try dsimp only at hwS); go_simp; try (with_reducible rfl))
    try simp only [Act.put, List.setIfInBounds_toArray, List.set_cons_zero, List.set_cons_succ]
    refine wpAnyH_take (i := 12) (v := ?_) rfl (by kernel_rfl) (by kernel_rfl) (by kernel_rfl) (fun _ _ _ h => h) (Or.inl ⟨by kernel_rfl, ?_⟩) (by assumption) ?_
    rotate_left
    · (intro wS hwS; (try dsimp only at hwS); go_simp; try (with_reducible rfl))
    try simp only [Act.put, List.setIfInBounds_toArray, List.set_cons_zero, List.set_cons_succ]
    refine wpAnyH_done (by kernel_rfl) ?_ _
    have hb4' : Below w.heap.size w w4 := hb2'.trans ((hb3.trans (hb34.mono hb3.size)).mono hb2'.size)
    have hry : RdB w4 w4.heap.size A3 (l2.length + (putW x width).length + (s.size + 1)) c3 (l2 ++ putW x width ++ textL s) := (hown3.rd.below hb34).more hb34.size
    clear k1 k2 k3 k4 k5 k6 hcat hcat2 hlen2 hlen3 hsmall hsmall2 hHeld
    go_wp2_with fail
    refine (new_any _ _ _ _ _ hry (by omega)).mono ?_
    rintro e w5 ⟨g, rfl, hg, hI5, hb5⟩
    rw [List.append_assoc] at hI5
    have hby := bytes_any g _ (l2.length : Int) w5 hI5
    rw [St.bytes_front] at hby
    have HB := Lib.hid hby
    clear hby
    have hs' : (⟨s.data.toList.toArray⟩ : ByteArray) = s := by simp
    by_cases hwid : 1 ≤ width ∧ width ≤ 8
    · obtain ⟨hw1, hw8⟩ := hwid
      have hu := fun w (h : IsRdr w g _) => u_any g ⟨putW x width ++ textL s, false⟩ width w h
      rw [St.u_put x width hw1 hw8] at hu
      have ht := fun w (h : IsRdr w g _) => text_any g ⟨textL s ++ [], false⟩ w h
      rw [St.text_front s h64', List.append_nil] at ht
      simp only [hs'] at ht
      clear hs'
      have HU := Lib.hid hu
      have HT2 := Lib.hid ht
      clear hu ht
      go_wp2_with (first | (go_at_call 19; refine HB.out.mono ?_; rintro e w6 ⟨A6, rfl, hr6, hI6, hG6⟩) | (go_at_call 17; refine (HU.out _ hI6).mono ?_; rintro e w7 ⟨rfl, hI7, hG7⟩) | (go_at_call 26; refine (ref_put_w x width _ hx).mono ?_; rintro e w8 ⟨A8, rfl, hown8, hb8⟩) | (go_at_call 30; refine (ref_num _ _ _ _ _ _ hown8.rd).mono ?_; rintro e w9 ⟨rfl, rfl⟩) | (go_at_call 18; refine (HT2.out _ (IsRdr.below hI7 hb8)).mono ?_; rintro e w10 ⟨rfl, hI10, hG10⟩) | (go_at_call 22; refine (done_any g _ _ hI10).mono ?_; rintro e w11 ⟨rfl, rfl⟩) | (go_at_call 23; refine (awake03 _).mono ?_; rintro e w12 ⟨rfl, hb12⟩))
      go_ret
      have hgw : w.heap.size ≤ g := Nat.le_trans hb4'.size hg
      exact ⟨rfl, chain (chainG (chain (chainG (chainG (chain hb4' hb5) hG6 hgw) hG7 hgw) hb8) hG10 hgw) hb12⟩
    · have e1 : putW x width = [] := by unfold putW; rw [if_neg hwid]
      rw [e1, List.nil_append] at HB
      have ht := fun w (h : IsRdr w g _) => text_any g ⟨textL s ++ [], false⟩ w h
      rw [St.text_front s h64', List.append_nil] at ht
      simp only [hs'] at ht
      clear hs' e1
      have HT2 := Lib.hid ht
      clear ht
      by_cases hw1 : width < 1
      · clear hwid
        go_wp2_with (first | (go_at_call 19; refine HB.out.mono ?_; rintro e w6 ⟨A6, rfl, hr6, hI6, hG6⟩) | (go_at_call 18; refine (HT2.out _ hI6).mono ?_; rintro e w10 ⟨rfl, hI10, hG10⟩) | (go_at_call 22; refine (done_any g _ _ hI10).mono ?_; rintro e w11 ⟨rfl, rfl⟩) | (go_at_call 23; refine (awake03 _).mono ?_; rintro e w12 ⟨rfl, hb12⟩))
        go_ret
        have hgw : w.heap.size ≤ g := Nat.le_trans hb4'.size hg
        exact ⟨rfl, chain (chainG (chainG (chain hb4' hb5) hG6 hgw) hG10 hgw) hb12⟩
      · have hw8 : 8 < width := by omega
        clear hwid
        go_wp2_with (first | (go_at_call 19; refine HB.out.mono ?_; rintro e w6 ⟨A6, rfl, hr6, hI6, hG6⟩) | (go_at_call 18; refine (HT2.out _ hI6).mono ?_; rintro e w10 ⟨rfl, hI10, hG10⟩) | (go_at_call 22; refine (done_any g _ _ hI10).mono ?_; rintro e w11 ⟨rfl, rfl⟩) | (go_at_call 23; refine (awake03 _).mono ?_; rintro e w12 ⟨rfl, hb12⟩))
        go_ret
        have hgw : w.heap.size ≤ g := Nat.le_trans hb4'.size hg
        exact ⟨rfl, chain (chainG (chainG (chain hb4' hb5) hG6 hgw) hG10 hgw) hb12⟩
end Go.Proofs.Ytkohfgkokboghaa
