/- Chapter 3: the walk of PackReads. -/
import Derived.Test.YtkohfgkokboghaaLaw03
import Derived.Test.YtkohfgkokboghaaRegion
import Derived.Test.YtkohfgkokboghaaOpen
namespace Go.Proofs.Ytkohfgkokboghaa
set_option linter.unusedVariables false
set_option linter.unusedSimpArgs false
open Go.RowKit

/-- what is read, as cells -/
def opRow (o : Int × Int) : List Value := [.int .i64 o.1, .int .i64 o.2]
def opOk (o : Int × Int) : Prop := (-9223372036854775808 ≤ o.1 ∧ o.1 ≤ 9223372036854775807) ∧ -9223372036854775808 ≤ o.2 ∧ o.2 ≤ 9223372036854775807

set_option maxRecDepth 100000 in
set_option maxHeartbeats 40000000 in
theorem packReads_walk {A : Option Addr} {n c : Nat} {l : List UInt8} {A' : Option Addr} {n' c' : Nat} {ops : List (Int × Int)} (w : World) (hr : RdB w w.heap.size A n c l)
    (hops : Rd w w.heap.size 2 A' n' c' (ops.flatMap opRow) ∧ ∀ o ∈ ops, opOk o) :
    Calls Try.prog 6 #[.slice A n c, .slice A' n' c'] w fun e w' => e = .returned (.bool true) ∧ Below w.heap.size w w' := by
  obtain ⟨hops, hok⟩ := hops
  have hr2 := hr.take' 200
  have hl2 : (l.take 200).length ≤ 200 := by simp; omega
  have hfew := few03 A n c _ l w hr
  generalize l.take 200 = l2 at *
  have HF := Lib.hid hfew
  clear hfew
  obtain rfl : ops.length = n' := Rd.count (F := 2) (fun _ => rfl) (by omega) hops
  have hle' := hops.le
  have hmax' := hops.max
  unfold maxLen at hmax'
  go_enter Try.func6, Try.ntmps6
  go_wp2_with (first | (go_at_call 24; refine HF.out.mono ?_; rintro e w1 ⟨rfl, rfl⟩) | (go_at_call 29; refine (new_any _ _ _ _ _ hr2 (by omega)).mono ?_; rintro e w2 ⟨g, rfl, hg, hI, hb⟩))
  have hgg : g < w2.heap.size := hI.lt
  go_loopw [18] (fun i wr => ∃ (k : Nat) (s : St), k ≤ ops.length ∧ i = .int .i64 (k : Int) ∧ IsRdr wr g s ∧ IsRef wr w.heap.size w2.heap.size s ∧ Below w.heap.size w wr) (fun i _ => ops.length - (intOf i).toNat)
  case atStart =>
    exact ⟨0, ⟨l2, false⟩, Nat.zero_le _, rfl, hI.alloc _, ⟨A, _, _, l2, 0, heap_alloc_new _ _, (hr2.below hb).alloc hb.size _, Nat.zero_le _, rfl⟩, hb.alloc hb.size _⟩
  case round =>
    obtain ⟨k, s, hk, rfl, hI, hJ, hbr⟩ := hrel
    by_cases hlt : k < ops.length
    · obtain ⟨b, off, rfl, hb1, hcell⟩ := (hops.below hbr).elem (F := 2) (fun _ => rfl) (by omega) hlt
      have hc0 := hcell 0 _ rfl
      have hc1 := hcell 1 _ rfl
      simp only [Nat.add_zero] at hc0
      clear hcell
      have hokk := hok _ (List.getElem_mem hlt)
      generalize ops[k] = o at hc0 hc1 hokk
      obtain ⟨kind, m⟩ := o
      simp only at hc0 hc1
      obtain ⟨⟨hk1, hk2⟩, hm1, hm2⟩ := hokk
      have hI1 := hI.alloc (.cells #[.int .i64 kind, .int .i64 m] 47)
      have hJ1 := hJ.below ((Below.refl _ _).alloc (Nat.le_refl _) (.cells #[.int .i64 kind, .int .i64 m] 47)) hbr.size
      have hb1' := hbr.alloc hbr.size (.cells #[.int .i64 kind, .int .i64 m] 47)
      have hv1 : (wr.alloc (.cells #[.int .i64 kind, .int .i64 m] 47)).cell? ⟨wr.heap.size, 1, none⟩ = some (.int .i64 m) := by
        unfold World.cell?
        rw [heap_alloc_new]
        rfl
      have hgv : g < wr.heap.size := hI.lt
      have hgv2 : w2.heap.size < wr.heap.size := hJ.lt
      by_cases h30 : k < 30
      · by_cases h0 : kind = 0
        · subst h0
          go_wp2_with fail
          generalize wr.alloc (.cells #[.int .i64 0, .int .i64 m] 47) = W1 at *
          generalize wr.heap.size = gv at *
          refine region_begin (fun w' => w'.cell? ⟨gv, 1, none⟩ = some (.int .i64 m)) (by kernel_rfl) (hv1) (fun hHeld => ?_)
          refine wpAnyH_take (i := 0) (v := ?_) rfl (by kernel_rfl) (by kernel_rfl) (by kernel_rfl) (fun _ _ _ h => h) (Or.inl ⟨by kernel_rfl, ?_⟩) (by assumption) ?_
          rotate_left
          · (intro wS hwS; (try dsimp only at hwS); go_simp; try (with_reducible rfl))
          try simp only [Act.put, List.getElem_toArray, List.getElem_cons_succ, List.getElem_cons_zero, List.setIfInBounds_toArray, List.set_cons_zero, List.set_cons_succ]
          refine wpAnyH_take (i := 1) (v := ?_) rfl (by kernel_rfl) (by kernel_rfl) (by kernel_rfl) (fun _ _ _ h => h) (Or.inl ⟨by kernel_rfl, ?_⟩) (by assumption) ?_
          rotate_left
          · (intro wS hwS; (try dsimp only at hwS); go_simp; try (with_reducible rfl))
          try simp only [Act.put, List.getElem_toArray, List.getElem_cons_succ, List.getElem_cons_zero, List.setIfInBounds_toArray, List.set_cons_zero, List.set_cons_succ]
          refine wpAnyH_take (i := 2) (v := ?_) rfl (by kernel_rfl) (by kernel_rfl) (by kernel_rfl) (fun _ _ _ h => h) (Or.inl ⟨by kernel_rfl, ?_⟩) (by assumption) ?_
          rotate_left
          · (intro wS hwS; (try dsimp only at hwS); go_simp; try (with_reducible rfl))
          try simp only [Act.put, List.getElem_toArray, List.getElem_cons_succ, List.getElem_cons_zero, List.setIfInBounds_toArray, List.set_cons_zero, List.set_cons_succ]
          refine wpAnyH_take (i := 4) (v := ?_) rfl (by kernel_rfl) (by kernel_rfl) (by kernel_rfl) (fun _ _ _ h => h) (Or.inl ⟨by kernel_rfl, ?_⟩) (by assumption) ?_
          rotate_left
          · (intro wS hwS; (try dsimp only at hwS); go_simp; try (with_reducible rfl))
          try simp only [Act.put, List.getElem_toArray, List.getElem_cons_succ, List.getElem_cons_zero, List.setIfInBounds_toArray, List.set_cons_zero, List.set_cons_succ]
          refine wpAnyH_take (i := 5) (v := ?_) rfl (by kernel_rfl) (by kernel_rfl) (by kernel_rfl) (fun _ _ _ h => h) (Or.inl ⟨by kernel_rfl, ?_⟩) (by assumption) ?_
          rotate_left
          · (intro wS hwS; (try dsimp only at hwS); go_simp; try (with_reducible rfl))
          try simp only [Act.put, List.getElem_toArray, List.getElem_cons_succ, List.getElem_cons_zero, List.setIfInBounds_toArray, List.set_cons_zero, List.set_cons_succ]
          refine wpAnyH_take (i := 6) (v := ?_) rfl (by kernel_rfl) (by kernel_rfl) (by kernel_rfl) (fun _ _ _ h => h) (Or.inl ⟨by kernel_rfl, ?_⟩) (by assumption) ?_
          rotate_left
          · (intro wS hwS; (try dsimp only at hwS); go_simp; try (with_reducible rfl))
          try simp only [Act.put, List.getElem_toArray, List.getElem_cons_succ, List.getElem_cons_zero, List.setIfInBounds_toArray, List.set_cons_zero, List.set_cons_succ]
          refine region_one 3 (by kernel_rfl) rfl (fun K hK => ?_)
          go_simp
          refine (u_any g s m _ (IsRdr.drew hI1)).mono ?_
          rintro e W2 ⟨rfl, hI2, hG2⟩
          have hv2 := cell_other hG2 hHeld (by omega)
          have hJ2 := (hJ1.drew hb1'.size).other hG2 (by omega) hg hb1'.size
          refine hK.out _ _ (fun w' => w'.cell? ⟨gv, 1, none⟩ = some (.int .i64 m)) (hv2) (fun _ h => h) (fun hHeld => ?_)
          clear hK K
          try simp only [Act.put, List.getElem_toArray, List.getElem_cons_succ, List.getElem_cons_zero, List.setIfInBounds_toArray, List.set_cons_zero, List.set_cons_succ]
          refine region_one 7 (by kernel_rfl) rfl (fun K hK => ?_)
          go_simp
          refine (ru_any _ _ s m _ hb.size hJ2).mono ?_
          rintro e W3 ⟨rfl, hJ3, hG3⟩
          have hv3 := cell_other hG3 hHeld (by omega)
          have hI3 := hI2.other hG3 hgg
          refine hK.out _ _ (fun w' => w'.cell? ⟨gv, 1, none⟩ = some (.int .i64 m)) (hv3) (fun _ h => h) (fun hHeld => ?_)
          clear hK K
          try simp only [Act.put, List.getElem_toArray, List.getElem_cons_succ, List.getElem_cons_zero, List.setIfInBounds_toArray, List.set_cons_zero, List.set_cons_succ]
          refine wpAnyH_take (i := 8) (v := ?_) rfl (by kernel_rfl) (by kernel_rfl) (by kernel_rfl) (fun _ _ _ h => h) (Or.inl ⟨by kernel_rfl, ?_⟩) (by assumption) ?_
          rotate_left
          · (intro wS hwS; (try dsimp only at hwS); go_simp; try (with_reducible rfl))
          try simp only [Act.put, List.getElem_toArray, List.getElem_cons_succ, List.getElem_cons_zero, List.setIfInBounds_toArray, List.set_cons_zero, List.set_cons_succ]
          refine wpAnyH_done (by kernel_rfl) ?_ _
          go_wp2_with fail
          have hb3' : Below w.heap.size w W3 := chainG (chainG hb1'.drew hG2 hg) hG3 hb.size
          clear hv1 hv2 hv3 hHeld hI1 hJ1 hI2 hJ2 hG2 hG3 hc0 hc1
          generalize (s.u m).2 = s2 at *
          have hc2 := hJ3.cell
          have hB3 := hb3'.size
          obtain ⟨l3, bad⟩ := s2
          cases bad
          · rcases l3 with _ | ⟨y, l3⟩
            · have hz : (((⟨[], false⟩ : St).left : Int) == 0) = true := rfl
              go_quiet ((first | (go_at_call 21; exact quiet_same (bad_any g _ _ (hI3.drewN _))) | (go_at_call 20; exact quiet_same (left_any g _ _ (hI3.drewN _))) | (go_at_call 34; exact quiet_drew (rleft_any _ _ _ _ (hJ3.drewN hB3 _))) | (go_at_call 22; exact quiet_same (done_any g _ _ (hI3.drewN _)))))
              go_wp2_with fail
              go_roundw
              case rel => exact ⟨k + 1, ⟨[], false⟩, by omega, by go_num, hI3.drewN _, hJ3.drewN hB3 _, below_drewN hb3' _⟩
              case measure => simp [intOf]; omega
            · have hz : (((⟨y :: l3, false⟩ : St).left : Int) == 0) = false := by simp [St.left]; omega
              go_quiet ((first | (go_at_call 21; exact quiet_same (bad_any g _ _ (hI3.drewN _))) | (go_at_call 20; exact quiet_same (left_any g _ _ (hI3.drewN _))) | (go_at_call 34; exact quiet_drew (rleft_any _ _ _ _ (hJ3.drewN hB3 _))) | (go_at_call 22; exact quiet_same (done_any g _ _ (hI3.drewN _)))))
              go_wp2_with fail
              go_roundw
              case rel => exact ⟨k + 1, ⟨y :: l3, false⟩, by omega, by go_num, hI3.drewN _, hJ3.drewN hB3 _, below_drewN hb3' _⟩
              case measure => simp [intOf]; omega
          · go_quiet ((first | (go_at_call 21; exact quiet_same (bad_any g _ _ (hI3.drewN _))) | (go_at_call 20; exact quiet_same (left_any g _ _ (hI3.drewN _))) | (go_at_call 34; exact quiet_drew (rleft_any _ _ _ _ (hJ3.drewN hB3 _))) | (go_at_call 22; exact quiet_same (done_any g _ _ (hI3.drewN _)))))
            go_wp2_with fail
            go_roundw
            case rel => exact ⟨k + 1, ⟨l3, true⟩, by omega, by go_num, hI3.drewN _, hJ3.drewN hB3 _, below_drewN hb3' _⟩
            case measure => simp [intOf]; omega
        by_cases h1 : kind = 1
        · subst h1
          go_wp2_with fail
          generalize wr.alloc (.cells #[.int .i64 1, .int .i64 m] 47) = W1 at *
          generalize wr.heap.size = gv at *
          refine region_begin (fun w' => w'.cell? ⟨gv, 1, none⟩ = some (.int .i64 m)) (by kernel_rfl) (hv1) (fun hHeld => ?_)
          refine wpAnyH_take (i := 0) (v := ?_) rfl (by kernel_rfl) (by kernel_rfl) (by kernel_rfl) (fun _ _ _ h => h) (Or.inl ⟨by kernel_rfl, ?_⟩) (by assumption) ?_
          rotate_left
          · (intro wS hwS; (try dsimp only at hwS); go_simp; try (with_reducible rfl))
          try simp only [Act.put, List.getElem_toArray, List.getElem_cons_succ, List.getElem_cons_zero, List.setIfInBounds_toArray, List.set_cons_zero, List.set_cons_succ]
          refine wpAnyH_take (i := 1) (v := ?_) rfl (by kernel_rfl) (by kernel_rfl) (by kernel_rfl) (fun _ _ _ h => h) (Or.inl ⟨by kernel_rfl, ?_⟩) (by assumption) ?_
          rotate_left
          · (intro wS hwS; (try dsimp only at hwS); go_simp; try (with_reducible rfl))
          try simp only [Act.put, List.getElem_toArray, List.getElem_cons_succ, List.getElem_cons_zero, List.setIfInBounds_toArray, List.set_cons_zero, List.set_cons_succ]
          refine wpAnyH_take (i := 2) (v := ?_) rfl (by kernel_rfl) (by kernel_rfl) (by kernel_rfl) (fun _ _ _ h => h) (Or.inl ⟨by kernel_rfl, ?_⟩) (by assumption) ?_
          rotate_left
          · (intro wS hwS; (try dsimp only at hwS); go_simp; try (with_reducible rfl))
          try simp only [Act.put, List.getElem_toArray, List.getElem_cons_succ, List.getElem_cons_zero, List.setIfInBounds_toArray, List.set_cons_zero, List.set_cons_succ]
          refine wpAnyH_take (i := 4) (v := ?_) rfl (by kernel_rfl) (by kernel_rfl) (by kernel_rfl) (fun _ _ _ h => h) (Or.inl ⟨by kernel_rfl, ?_⟩) (by assumption) ?_
          rotate_left
          · (intro wS hwS; (try dsimp only at hwS); go_simp; try (with_reducible rfl))
          try simp only [Act.put, List.getElem_toArray, List.getElem_cons_succ, List.getElem_cons_zero, List.setIfInBounds_toArray, List.set_cons_zero, List.set_cons_succ]
          refine wpAnyH_take (i := 5) (v := ?_) rfl (by kernel_rfl) (by kernel_rfl) (by kernel_rfl) (fun _ _ _ h => h) (Or.inl ⟨by kernel_rfl, ?_⟩) (by assumption) ?_
          rotate_left
          · (intro wS hwS; (try dsimp only at hwS); go_simp; try (with_reducible rfl))
          try simp only [Act.put, List.getElem_toArray, List.getElem_cons_succ, List.getElem_cons_zero, List.setIfInBounds_toArray, List.set_cons_zero, List.set_cons_succ]
          refine wpAnyH_take (i := 6) (v := ?_) rfl (by kernel_rfl) (by kernel_rfl) (by kernel_rfl) (fun _ _ _ h => h) (Or.inl ⟨by kernel_rfl, ?_⟩) (by assumption) ?_
          rotate_left
          · (intro wS hwS; (try dsimp only at hwS); go_simp; try (with_reducible rfl))
          try simp only [Act.put, List.getElem_toArray, List.getElem_cons_succ, List.getElem_cons_zero, List.setIfInBounds_toArray, List.set_cons_zero, List.set_cons_succ]
          refine region_one 3 (by kernel_rfl) rfl (fun K hK => ?_)
          go_simp
          refine (u_any g s m _ (IsRdr.drew hI1)).mono ?_
          rintro e W2 ⟨rfl, hI2, hG2⟩
          have hv2 := cell_other hG2 hHeld (by omega)
          have hJ2 := (hJ1.drew hb1'.size).other hG2 (by omega) hg hb1'.size
          refine hK.out _ _ (fun w' => w'.cell? ⟨gv, 1, none⟩ = some (.int .i64 m)) (hv2) (fun _ h => h) (fun hHeld => ?_)
          clear hK K
          try simp only [Act.put, List.getElem_toArray, List.getElem_cons_succ, List.getElem_cons_zero, List.setIfInBounds_toArray, List.set_cons_zero, List.set_cons_succ]
          refine region_one 7 (by kernel_rfl) rfl (fun K hK => ?_)
          go_simp
          refine (ru_any _ _ s m _ hb.size hJ2).mono ?_
          rintro e W3 ⟨rfl, hJ3, hG3⟩
          have hv3 := cell_other hG3 hHeld (by omega)
          have hI3 := hI2.other hG3 hgg
          refine hK.out _ _ (fun w' => w'.cell? ⟨gv, 1, none⟩ = some (.int .i64 m)) (hv3) (fun _ h => h) (fun hHeld => ?_)
          clear hK K
          try simp only [Act.put, List.getElem_toArray, List.getElem_cons_succ, List.getElem_cons_zero, List.setIfInBounds_toArray, List.set_cons_zero, List.set_cons_succ]
          refine wpAnyH_take (i := 8) (v := ?_) rfl (by kernel_rfl) (by kernel_rfl) (by kernel_rfl) (fun _ _ _ h => h) (Or.inl ⟨by kernel_rfl, ?_⟩) (by assumption) ?_
          rotate_left
          · (intro wS hwS; (try dsimp only at hwS); go_simp; try (with_reducible rfl))
          try simp only [Act.put, List.getElem_toArray, List.getElem_cons_succ, List.getElem_cons_zero, List.setIfInBounds_toArray, List.set_cons_zero, List.set_cons_succ]
          refine wpAnyH_done (by kernel_rfl) ?_ _
          go_wp2_with fail
          have hb3' : Below w.heap.size w W3 := chainG (chainG hb1'.drew hG2 hg) hG3 hb.size
          clear hv1 hv2 hv3 hHeld hI1 hJ1 hI2 hJ2 hG2 hG3 hc0 hc1
          generalize (s.u m).2 = s2 at *
          have hc2 := hJ3.cell
          have hB3 := hb3'.size
          obtain ⟨l3, bad⟩ := s2
          cases bad
          · rcases l3 with _ | ⟨y, l3⟩
            · have hz : (((⟨[], false⟩ : St).left : Int) == 0) = true := rfl
              go_quiet ((first | (go_at_call 21; exact quiet_same (bad_any g _ _ (hI3.drewN _))) | (go_at_call 20; exact quiet_same (left_any g _ _ (hI3.drewN _))) | (go_at_call 34; exact quiet_drew (rleft_any _ _ _ _ (hJ3.drewN hB3 _))) | (go_at_call 22; exact quiet_same (done_any g _ _ (hI3.drewN _)))))
              go_wp2_with fail
              go_roundw
              case rel => exact ⟨k + 1, ⟨[], false⟩, by omega, by go_num, hI3.drewN _, hJ3.drewN hB3 _, below_drewN hb3' _⟩
              case measure => simp [intOf]; omega
            · have hz : (((⟨y :: l3, false⟩ : St).left : Int) == 0) = false := by simp [St.left]; omega
              go_quiet ((first | (go_at_call 21; exact quiet_same (bad_any g _ _ (hI3.drewN _))) | (go_at_call 20; exact quiet_same (left_any g _ _ (hI3.drewN _))) | (go_at_call 34; exact quiet_drew (rleft_any _ _ _ _ (hJ3.drewN hB3 _))) | (go_at_call 22; exact quiet_same (done_any g _ _ (hI3.drewN _)))))
              go_wp2_with fail
              go_roundw
              case rel => exact ⟨k + 1, ⟨y :: l3, false⟩, by omega, by go_num, hI3.drewN _, hJ3.drewN hB3 _, below_drewN hb3' _⟩
              case measure => simp [intOf]; omega
          · go_quiet ((first | (go_at_call 21; exact quiet_same (bad_any g _ _ (hI3.drewN _))) | (go_at_call 20; exact quiet_same (left_any g _ _ (hI3.drewN _))) | (go_at_call 34; exact quiet_drew (rleft_any _ _ _ _ (hJ3.drewN hB3 _))) | (go_at_call 22; exact quiet_same (done_any g _ _ (hI3.drewN _)))))
            go_wp2_with fail
            go_roundw
            case rel => exact ⟨k + 1, ⟨l3, true⟩, by omega, by go_num, hI3.drewN _, hJ3.drewN hB3 _, below_drewN hb3' _⟩
            case measure => simp [intOf]; omega
        by_cases h2 : kind = 2
        · subst h2
          have hT := text_any g s
          have hRT := rtext_any w.heap.size w2.heap.size s
          generalize s.text.1 = tx at *
          generalize s.text.2 = s2 at *
          have HT := Lib.hid hT
          have HRT := Lib.hid hRT
          clear hT hRT
          go_wp2_with (first | (go_at_call 18; refine (HT.out _ hI1).mono ?_; rintro e W2 ⟨rfl, hI2, hG2⟩; have hJ2 := hJ1.other hG2 (by omega) hg hb1'.size) | (go_at_call 32; refine (HRT.out _ hb.size hJ2).mono ?_; rintro e W3 ⟨rfl, hJ3, hG3⟩; have hI3 := hI2.other hG3 hgg))
          have hb3' : Below w.heap.size w W3 := chainG (chainG hb1' hG2 hg) hG3 hb.size
          clear hv1 hI1 hJ1 hI2 hJ2 hG2 hG3 hc0 hc1
          have hc2 := hJ3.cell
          have hB3 := hb3'.size
          obtain ⟨l3, bad⟩ := s2
          cases bad
          · rcases l3 with _ | ⟨y, l3⟩
            · have hz : (((⟨[], false⟩ : St).left : Int) == 0) = true := rfl
              go_quiet ((first | (go_at_call 21; exact quiet_same (bad_any g _ _ (hI3.drewN _))) | (go_at_call 20; exact quiet_same (left_any g _ _ (hI3.drewN _))) | (go_at_call 34; exact quiet_drew (rleft_any _ _ _ _ (hJ3.drewN hB3 _))) | (go_at_call 22; exact quiet_same (done_any g _ _ (hI3.drewN _)))))
              go_wp2_with fail
              go_roundw
              case rel => exact ⟨k + 1, ⟨[], false⟩, by omega, by go_num, hI3.drewN _, hJ3.drewN hB3 _, below_drewN hb3' _⟩
              case measure => simp [intOf]; omega
            · have hz : (((⟨y :: l3, false⟩ : St).left : Int) == 0) = false := by simp [St.left]; omega
              go_quiet ((first | (go_at_call 21; exact quiet_same (bad_any g _ _ (hI3.drewN _))) | (go_at_call 20; exact quiet_same (left_any g _ _ (hI3.drewN _))) | (go_at_call 34; exact quiet_drew (rleft_any _ _ _ _ (hJ3.drewN hB3 _))) | (go_at_call 22; exact quiet_same (done_any g _ _ (hI3.drewN _)))))
              go_wp2_with fail
              go_roundw
              case rel => exact ⟨k + 1, ⟨y :: l3, false⟩, by omega, by go_num, hI3.drewN _, hJ3.drewN hB3 _, below_drewN hb3' _⟩
              case measure => simp [intOf]; omega
          · go_quiet ((first | (go_at_call 21; exact quiet_same (bad_any g _ _ (hI3.drewN _))) | (go_at_call 20; exact quiet_same (left_any g _ _ (hI3.drewN _))) | (go_at_call 34; exact quiet_drew (rleft_any _ _ _ _ (hJ3.drewN hB3 _))) | (go_at_call 22; exact quiet_same (done_any g _ _ (hI3.drewN _)))))
            go_wp2_with fail
            go_roundw
            case rel => exact ⟨k + 1, ⟨l3, true⟩, by omega, by go_num, hI3.drewN _, hJ3.drewN hB3 _, below_drewN hb3' _⟩
            case measure => simp [intOf]; omega
        by_cases h3 : kind = 3
        · subst h3
          go_wp2_with fail
          generalize wr.alloc (.cells #[.int .i64 3, .int .i64 m] 47) = W1 at *
          generalize wr.heap.size = gv at *
          have hby := bytes_any g s m
          have hrby := rbytes_any w.heap.size w2.heap.size s m
          generalize (s.bytes m).1 = lb at *
          generalize (s.bytes m).2 = s2 at *
          have HBY := Lib.hid hby
          have HRBY := Lib.hid hrby
          clear hby hrby
          refine region_begin (fun w' => w'.cell? ⟨gv, 1, none⟩ = some (.int .i64 m)) (by kernel_rfl) (hv1) (fun hHeld => ?_)
          refine wpAnyH_take (i := 0) (v := ?_) rfl (by kernel_rfl) (by kernel_rfl) (by kernel_rfl) (fun _ _ _ h => h) (Or.inl ⟨by kernel_rfl, ?_⟩) (by assumption) ?_
          rotate_left
          · (intro wS hwS; (try dsimp only at hwS); go_simp; try (with_reducible rfl))
          try simp only [Act.put, List.getElem_toArray, List.getElem_cons_succ, List.getElem_cons_zero, List.setIfInBounds_toArray, List.set_cons_zero, List.set_cons_succ]
          refine wpAnyH_take (i := 1) (v := ?_) rfl (by kernel_rfl) (by kernel_rfl) (by kernel_rfl) (fun _ _ _ h => h) (Or.inl ⟨by kernel_rfl, ?_⟩) (by assumption) ?_
          rotate_left
          · (intro wS hwS; (try dsimp only at hwS); go_simp; try (with_reducible rfl))
          try simp only [Act.put, List.getElem_toArray, List.getElem_cons_succ, List.getElem_cons_zero, List.setIfInBounds_toArray, List.set_cons_zero, List.set_cons_succ]
          refine wpAnyH_take (i := 2) (v := ?_) rfl (by kernel_rfl) (by kernel_rfl) (by kernel_rfl) (fun _ _ _ h => h) (Or.inl ⟨by kernel_rfl, ?_⟩) (by assumption) ?_
          rotate_left
          · (intro wS hwS; (try dsimp only at hwS); go_simp; try (with_reducible rfl))
          try simp only [Act.put, List.getElem_toArray, List.getElem_cons_succ, List.getElem_cons_zero, List.setIfInBounds_toArray, List.set_cons_zero, List.set_cons_succ]
          refine wpAnyH_take (i := 5) (v := ?_) rfl (by kernel_rfl) (by kernel_rfl) (by kernel_rfl) (fun _ _ _ h => h) (Or.inl ⟨by kernel_rfl, ?_⟩) (by assumption) ?_
          rotate_left
          · (intro wS hwS; (try dsimp only at hwS); go_simp; try (with_reducible rfl))
          try simp only [Act.put, List.getElem_toArray, List.getElem_cons_succ, List.getElem_cons_zero, List.setIfInBounds_toArray, List.set_cons_zero, List.set_cons_succ]
          refine wpAnyH_take (i := 6) (v := ?_) rfl (by kernel_rfl) (by kernel_rfl) (by kernel_rfl) (fun _ _ _ h => h) (Or.inl ⟨by kernel_rfl, ?_⟩) (by assumption) ?_
          rotate_left
          · (intro wS hwS; (try dsimp only at hwS); go_simp; try (with_reducible rfl))
          try simp only [Act.put, List.getElem_toArray, List.getElem_cons_succ, List.getElem_cons_zero, List.setIfInBounds_toArray, List.set_cons_zero, List.set_cons_succ]
          refine wpAnyH_take (i := 7) (v := ?_) rfl (by kernel_rfl) (by kernel_rfl) (by kernel_rfl) (fun _ _ _ h => h) (Or.inl ⟨by kernel_rfl, ?_⟩) (by assumption) ?_
          rotate_left
          · (intro wS hwS; (try dsimp only at hwS); go_simp; try (with_reducible rfl))
          try simp only [Act.put, List.getElem_toArray, List.getElem_cons_succ, List.getElem_cons_zero, List.setIfInBounds_toArray, List.set_cons_zero, List.set_cons_succ]
          refine region_one 3 (by kernel_rfl) rfl (fun K hK => ?_)
          go_simp
          refine (HBY.out _ (IsRdr.drew hI1)).mono ?_
          rintro e W2 ⟨A2, rfl, hr2', hI2, hG2⟩
          have hv2 := cell_other hG2 hHeld (by omega)
          have hJ2 := (hJ1.drew hb1'.size).other hG2 (by omega) hg hb1'.size
          refine hK.out _ _ (fun w' => w'.cell? ⟨gv, 1, none⟩ = some (.int .i64 m) ∧ Below g W2 w') (⟨hv2, Below.refl _ _⟩) (fun _ h => h.1) (fun hHeld => ?_)
          clear hK K
          try simp only [Act.put, List.getElem_toArray, List.getElem_cons_succ, List.getElem_cons_zero, List.setIfInBounds_toArray, List.set_cons_zero, List.set_cons_succ]
          have kc : ∀ w', (w'.cell? ⟨gv, 1, none⟩ = some (.int .i64 m) ∧ Below g W2 w') → _ := fun w' h => conv_str (hr2'.below h.2)
          refine wpAnyH_take (i := 4) (v := ?_) rfl (by kernel_rfl) (by kernel_rfl) (by kernel_rfl) (fun _ _ _ h => h) (Or.inl ⟨by kernel_rfl, ?_⟩) (by assumption) ?_
          rotate_left
          · (intro wS hwS; (try dsimp only at hwS); go_simp; try (with_reducible rfl))
          try simp only [Act.put, List.getElem_toArray, List.getElem_cons_succ, List.getElem_cons_zero, List.setIfInBounds_toArray, List.set_cons_zero, List.set_cons_succ]
          refine region_one 8 (by kernel_rfl) rfl (fun K hK => ?_)
          go_simp
          refine (HRBY.out _ hb.size hJ2).mono ?_
          rintro e W3 ⟨A3, c3, rfl, hr3', hJ3, hG3⟩
          have hv3 := cell_other hG3 hHeld.1 (by omega)
          have hI3 := hI2.other hG3 hgg
          have hgW : g ≤ W2.heap.size := Nat.le_of_lt hI2.lt
          refine hK.out _ _ (fun w' => w'.cell? ⟨gv, 1, none⟩ = some (.int .i64 m) ∧ Below g W2 w' ∧ Below w.heap.size W3 w') (⟨hv3, only_below hG3 (Nat.le_of_lt hgg) hgW, Below.refl _ _⟩) (fun _ h => ⟨h.1, h.2.1⟩) (fun hHeld => ?_)
          clear hK K
          try simp only [Act.put, List.getElem_toArray, List.getElem_cons_succ, List.getElem_cons_zero, List.setIfInBounds_toArray, List.set_cons_zero, List.set_cons_succ]
          have kc2 : ∀ w', (w'.cell? ⟨gv, 1, none⟩ = some (.int .i64 m) ∧ Below g W2 w' ∧ Below w.heap.size W3 w') → _ := fun w' h => conv_str (hr3'.below h.2.2)
          refine wpAnyH_take (i := 9) (v := ?_) rfl (by kernel_rfl) (by kernel_rfl) (by kernel_rfl) (fun _ _ _ h => h) (Or.inl ⟨by kernel_rfl, ?_⟩) (by assumption) ?_
          rotate_left
          · (intro wS hwS; (try dsimp only at hwS); go_simp; try (with_reducible rfl))
          try simp only [Act.put, List.getElem_toArray, List.getElem_cons_succ, List.getElem_cons_zero, List.setIfInBounds_toArray, List.set_cons_zero, List.set_cons_succ]
          refine wpAnyH_take (i := 10) (v := ?_) rfl (by kernel_rfl) (by kernel_rfl) (by kernel_rfl) (fun _ _ _ h => h) (Or.inl ⟨by kernel_rfl, ?_⟩) (by assumption) ?_
          rotate_left
          · (intro wS hwS; (try dsimp only at hwS); go_simp; try (with_reducible rfl))
          try simp only [Act.put, List.getElem_toArray, List.getElem_cons_succ, List.getElem_cons_zero, List.setIfInBounds_toArray, List.set_cons_zero, List.set_cons_succ]
          refine wpAnyH_done (by kernel_rfl) ?_ _
          go_wp2_with fail
          have hb3' : Below w.heap.size w W3 := chainG (chainG hb1'.drew hG2 hg) hG3 hb.size
          clear hv1 hv2 hv3 hHeld hI1 hJ1 hI2 hJ2 hG2 hG3 hc0 hc1 kc kc2
          have hc2 := hJ3.cell
          have hB3 := hb3'.size
          obtain ⟨l3, bad⟩ := s2
          cases bad
          · rcases l3 with _ | ⟨y, l3⟩
            · have hz : (((⟨[], false⟩ : St).left : Int) == 0) = true := rfl
              go_quiet ((first | (go_at_call 21; exact quiet_same (bad_any g _ _ (hI3.drewN _))) | (go_at_call 20; exact quiet_same (left_any g _ _ (hI3.drewN _))) | (go_at_call 34; exact quiet_drew (rleft_any _ _ _ _ (hJ3.drewN hB3 _))) | (go_at_call 22; exact quiet_same (done_any g _ _ (hI3.drewN _)))))
              go_wp2_with fail
              go_roundw
              case rel => exact ⟨k + 1, ⟨[], false⟩, by omega, by go_num, hI3.drewN _, hJ3.drewN hB3 _, below_drewN hb3' _⟩
              case measure => simp [intOf]; omega
            · have hz : (((⟨y :: l3, false⟩ : St).left : Int) == 0) = false := by simp [St.left]; omega
              go_quiet ((first | (go_at_call 21; exact quiet_same (bad_any g _ _ (hI3.drewN _))) | (go_at_call 20; exact quiet_same (left_any g _ _ (hI3.drewN _))) | (go_at_call 34; exact quiet_drew (rleft_any _ _ _ _ (hJ3.drewN hB3 _))) | (go_at_call 22; exact quiet_same (done_any g _ _ (hI3.drewN _)))))
              go_wp2_with fail
              go_roundw
              case rel => exact ⟨k + 1, ⟨y :: l3, false⟩, by omega, by go_num, hI3.drewN _, hJ3.drewN hB3 _, below_drewN hb3' _⟩
              case measure => simp [intOf]; omega
          · go_quiet ((first | (go_at_call 21; exact quiet_same (bad_any g _ _ (hI3.drewN _))) | (go_at_call 20; exact quiet_same (left_any g _ _ (hI3.drewN _))) | (go_at_call 34; exact quiet_drew (rleft_any _ _ _ _ (hJ3.drewN hB3 _))) | (go_at_call 22; exact quiet_same (done_any g _ _ (hI3.drewN _)))))
            go_wp2_with fail
            go_roundw
            case rel => exact ⟨k + 1, ⟨l3, true⟩, by omega, by go_num, hI3.drewN _, hJ3.drewN hB3 _, below_drewN hb3' _⟩
            case measure => simp [intOf]; omega
        · have e0 : (kind == 0) = false := by simp; omega
          have e1 : (kind == 1) = false := by simp; omega
          have e2 : (kind == 2) = false := by simp; omega
          have e3 : (kind == 3) = false := by simp; omega
          go_wp2_with fail
          clear e0 e1 e2 e3
          generalize wr.alloc (.cells #[.int .i64 kind, .int .i64 m] 47) = W3 at *
          have hI3 := hI1
          have hJ3 := hJ1
          have hb3' := hb1'
          clear hv1 hc0 hc1
          have hc2 := hJ3.cell
          have hB3 := hb3'.size
          obtain ⟨l3, bad⟩ := s
          cases bad
          · rcases l3 with _ | ⟨y, l3⟩
            · have hz : (((⟨[], false⟩ : St).left : Int) == 0) = true := rfl
              go_quiet ((first | (go_at_call 21; exact quiet_same (bad_any g _ _ (hI3.drewN _))) | (go_at_call 20; exact quiet_same (left_any g _ _ (hI3.drewN _))) | (go_at_call 34; exact quiet_drew (rleft_any _ _ _ _ (hJ3.drewN hB3 _))) | (go_at_call 22; exact quiet_same (done_any g _ _ (hI3.drewN _)))))
              go_wp2_with fail
              go_roundw
              case rel => exact ⟨k + 1, ⟨[], false⟩, by omega, by go_num, hI3.drewN _, hJ3.drewN hB3 _, below_drewN hb3' _⟩
              case measure => simp [intOf]; omega
            · have hz : (((⟨y :: l3, false⟩ : St).left : Int) == 0) = false := by simp [St.left]; omega
              go_quiet ((first | (go_at_call 21; exact quiet_same (bad_any g _ _ (hI3.drewN _))) | (go_at_call 20; exact quiet_same (left_any g _ _ (hI3.drewN _))) | (go_at_call 34; exact quiet_drew (rleft_any _ _ _ _ (hJ3.drewN hB3 _))) | (go_at_call 22; exact quiet_same (done_any g _ _ (hI3.drewN _)))))
              go_wp2_with fail
              go_roundw
              case rel => exact ⟨k + 1, ⟨y :: l3, false⟩, by omega, by go_num, hI3.drewN _, hJ3.drewN hB3 _, below_drewN hb3' _⟩
              case measure => simp [intOf]; omega
          · go_quiet ((first | (go_at_call 21; exact quiet_same (bad_any g _ _ (hI3.drewN _))) | (go_at_call 20; exact quiet_same (left_any g _ _ (hI3.drewN _))) | (go_at_call 34; exact quiet_drew (rleft_any _ _ _ _ (hJ3.drewN hB3 _))) | (go_at_call 22; exact quiet_same (done_any g _ _ (hI3.drewN _)))))
            go_wp2_with fail
            go_roundw
            case rel => exact ⟨k + 1, ⟨l3, true⟩, by omega, by go_num, hI3.drewN _, hJ3.drewN hB3 _, below_drewN hb3' _⟩
            case measure => simp [intOf]; omega
      · go_wp2_with (go_at_call 23; refine (awake03 _).mono ?_; rintro e w3 ⟨rfl, hb3⟩)
        go_ret
        exact ⟨rfl, chain hb1' hb3⟩
    · go_wp2_with (go_at_call 23; refine (awake03 _).mono ?_; rintro e w3 ⟨rfl, hb3⟩)
      go_ret
      exact ⟨rfl, chain hbr hb3⟩
end Go.Proofs.Ytkohfgkokboghaa
