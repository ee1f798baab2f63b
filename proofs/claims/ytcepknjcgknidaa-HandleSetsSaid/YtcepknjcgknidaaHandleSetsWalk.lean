
/- The law HandleSets: the Go function returns true, whatever it is given. -/
import Derived.Test.YtcepknjcgknidaaHandleBackWalk
import Derived.Test.YtcepknjcgknidaaRSet17
namespace Go.Proofs.Ytcepknjcgknidaa
set_option linter.unusedVariables false
set_option linter.unusedSimpArgs false
open Go.RowKit
theorem add17_snd {l : List Ct} {x : Nat} {m : Int} (h : may17 l m = true) : add17p l x m = if of17 l x > 65535 - m then ([], 9) else (set17 l x (of17 l x + m), 0) := by
  obtain ⟨hr, h0, h1⟩ := may_of h
  obtain ⟨b0, b1⟩ := of17_bounds x hr
  unfold add17p
  rw [h, if_pos rfl]
  split
  · rfl
  · unfold set17p
    rw [may_true hr (by omega) (by omega), if_pos rfl]
theorem sub17_snd {l : List Ct} {x : Nat} {m : Int} (h : may17 l m = true) : sub17p l x m = (set17 l x (max (of17 l x - m) 0), 0) := by
  obtain ⟨hr, h0, h1⟩ := may_of h
  obtain ⟨b0, b1⟩ := of17_bounds x hr
  unfold sub17p set17p
  rw [h, if_pos rfl, may_true hr (by omega) (by omega), if_pos rfl]
theorem setr_len (x : Nat) (m : Int) : ∀ (l : List Ct) (d : Bool), (setr x m d l).length ≤ 2 * l.length + 1
  | [], d => by cases d <;> simp [setr]
  | c :: l, d => by
    have ih := setr_len x m l (d || decide (x ≤ c.b))
    rw [setr_cons, List.length_append, List.length_append]
    have h1 : (if !d && decide (x ≤ c.b) then [(⟨x, m⟩ : Ct)] else []).length ≤ 1 := by split <;> simp
    have h2 : (if c.b == x then [] else [c]).length ≤ 1 := by split <;> simp
    simp only [List.length_cons]
    omega
theorem set17_len (l : List Ct) (x : Nat) (m : Int) : (set17 l x m).length ≤ 2 * l.length + 1 := setr_len x m l _
set_option maxRecDepth 100000 in
set_option maxHeartbeats 4000000 in
theorem handleSets_walk {A : Option Addr} {n c : Nat} {l0 : List Ct} {a : Nat} {m : Int} (w : World) (hr : RdC w w.heap.size A n c l0) (hf0 : ∀ y ∈ l0, y.fits) (hal : a < 4294967296) (hm : -9223372036854775808 ≤ m ∧ m ≤ 9223372036854775807) :
    Calls Try.prog 7 #[.slice A n c, .int .u32 (a : Int), .int .i64 m] w fun r w' => r = .returned (.bool true) ∧ Below w.heap.size w w' := by
  have hours := ours17_any A n c l0 w hr
  obtain ⟨l, hl⟩ : ∃ l, l = l0.take 40 := ⟨_, rfl⟩
  have hf : ∀ y ∈ l, y.b < 4294967296 := fun y hy => (hf0 y (by rw [hl] at hy; exact List.mem_of_mem_take hy)).1
  rw [← hl] at hours
  have hl40 : l.length ≤ 40 := by rw [hl, List.length_take]; omega
  have HOU := Lib.hid hours
  generalize min n 40 = k at *
  clear hours hl hr hf0
  have HF := Lib.hid hf
  clear hf
  obtain ⟨x, hx⟩ : ∃ x, x = a - a % 64 := ⟨_, rfl⟩
  have hxl : x < 4294967296 := by omega
  have HX := Lib.hid hx
  clear hx
  go_enter Try.func7, Try.ntmps7
  go_upto_region 2 with ((with_reducible refine calls_id ?_); refine HOU.out.mono ?_; rintro r w1 ⟨A1, c1, rfl, hown, hb1⟩)
  have HLK := Lib.hid hown.len
  have hk40 : k ≤ 40 := by have := HLK.out; omega
  have hrdh := hown.rd
  obtain ⟨h7, hb2⟩ := one_at w1 62 [.slice A1 k c1]
  replace hrdh := hrdh.step hb2
  have HB := Lib.hid (chain hb1 hb2)
  generalize World.alloc _ _ = w2 at *
  generalize w1.heap.size = g7 at *
  obtain ⟨x0, x1⟩ := at1 h7
  clear hb1 hb2 hown HOU
  go_upto_region 3 with (((with_reducible refine calls_id ?_); refine (plain17_any A1 k c1 l _ hrdh (by omega)).mono ?_; rintro r w3 ⟨A3, c3, rfl, ho3, hb3⟩); (replace hrdh := hrdh.step hb3); (replace h7 := h7.step hb3); (replace HB := Lib.hid (chain HB.out hb3)))
  have hrdw : RdC w3 w3.heap.size A3 k c3 l := ho3.rd
  clear x0 x1 hb3 ho3
  obtain ⟨x0, x1⟩ := at1 h7
  have HSET := Lib.hid (fun w hr => hset_res A1 k c1 l a x m w hr HF.out (by omega) HX.out hal)
  have HADD := Lib.hid (fun w hr => hadd_any A1 k c1 l a x m w hr HF.out (by omega) HX.out hal)
  have HSUB := Lib.hid (fun w hr => hsub_any A1 k c1 l a x m w hr HF.out (by omega) HX.out hal)
  have HRR := Lib.hid (fun w hr => rright17_any A3 k c3 l w hr HF.out)
  generalize hp1 : set17p l x m = p1 at *
  generalize hp2 : add17p l x m = p2 at *
  generalize hp3 : sub17p l x m = p3 at *
  obtain ⟨s1, e1⟩ := p1
  obtain ⟨s2, e2⟩ := p2
  obtain ⟨s3, e3⟩ := p3
  have HP1 := Lib.hid hp1
  have HP2 := Lib.hid hp2
  have HP3 := Lib.hid hp3
  clear hp1 hp2 hp3
  go_upto_region 4 with (((with_reducible refine calls_id ?_); refine (HSET.out _ hrdh).mono ?_; rintro r w4 ⟨A4, n4, c4, rfl, ho4, hb4⟩); (replace hrdh := hrdh.step hb4); (replace hrdw := hrdw.step hb4); (replace h7 := h7.step hb4); (replace HB := Lib.hid (chain HB.out hb4)))
  have HL4 := Lib.hid ho4.len
  have hrd4 : RdC w4 w4.heap.size A4 n4 c4 s1 := ho4.rd
  obtain ⟨h9, hb5⟩ := one_at w4 62 [.slice A4 n4 c4]
  (replace hrdh := hrdh.step hb5); (replace hrdw := hrdw.step hb5); (replace h7 := h7.step hb5); (replace hrd4 := hrd4.step hb5); (replace HB := Lib.hid (chain HB.out hb5))
  clear x0 x1 hb4 ho4 hb5 HSET
  generalize World.alloc _ _ = w5 at *
  generalize w4.heap.size = g9 at *
  obtain ⟨x0, x1⟩ := at1 h7
  go_upto_region 5 with (((with_reducible refine calls_id ?_); refine (HADD.out _ hrdh).mono ?_; rintro r w6 ⟨A6, n6, c6, rfl, ho6, hb6⟩); (replace hrdh := hrdh.step hb6); (replace hrdw := hrdw.step hb6); (replace h7 := h7.step hb6); (replace hrd4 := hrd4.step hb6); (replace h9 := h9.step hb6); (replace HB := Lib.hid (chain HB.out hb6)))
  have HL6 := Lib.hid ho6.len
  have hrd6 : RdC w6 w6.heap.size A6 n6 c6 s2 := ho6.rd
  obtain ⟨h11, hb7⟩ := one_at w6 62 [.slice A6 n6 c6]
  (replace hrdh := hrdh.step hb7); (replace hrdw := hrdw.step hb7); (replace h7 := h7.step hb7); (replace hrd4 := hrd4.step hb7); (replace h9 := h9.step hb7); (replace hrd6 := hrd6.step hb7); (replace HB := Lib.hid (chain HB.out hb7))
  clear x0 x1 hb6 ho6 hb7 HADD
  generalize World.alloc _ _ = w7 at *
  generalize w6.heap.size = g11 at *
  obtain ⟨x0, x1⟩ := at1 h7
  go_upto_region 6 with (((with_reducible refine calls_id ?_); refine (HSUB.out _ hrdh).mono ?_; rintro r w8 ⟨A8, n8, c8, rfl, ho8, hb8⟩); (replace hrdh := hrdh.step hb8); (replace hrdw := hrdw.step hb8); (replace h7 := h7.step hb8); (replace hrd4 := hrd4.step hb8); (replace h9 := h9.step hb8); (replace hrd6 := hrd6.step hb8); (replace h11 := h11.step hb8); (replace HB := Lib.hid (chain HB.out hb8)))
  have HL8 := Lib.hid ho8.len
  have hrd8 : RdC w8 w8.heap.size A8 n8 c8 s3 := ho8.rd
  obtain ⟨h13, hb9⟩ := one_at w8 62 [.slice A8 n8 c8]
  (replace hrdh := hrdh.step hb9); (replace hrdw := hrdw.step hb9); (replace h7 := h7.step hb9); (replace hrd4 := hrd4.step hb9); (replace h9 := h9.step hb9); (replace hrd6 := hrd6.step hb9); (replace h11 := h11.step hb9); (replace hrd8 := hrd8.step hb9); (replace HB := Lib.hid (chain HB.out hb9))
  clear x0 x1 hb8 ho8 hb9 HSUB
  generalize World.alloc _ _ = w9 at *
  generalize w8.heap.size = g13 at *
  obtain ⟨x0, x1⟩ := at1 h7
  obtain ⟨y0, y1⟩ := at1 h9
  obtain ⟨z0, z1⟩ := at1 h11
  obtain ⟨u0, u1⟩ := at1 h13
  cases hq : may17 l m with
  | false =>
    have he1 : e1 = 1 := by have := HP1.out; unfold set17p at this; rw [hq] at this; simp at this; omega
    have he2 : e2 = 1 := by have := HP2.out; unfold add17p at this; rw [hq] at this; simp at this; omega
    have he3 : e3 = 1 := by have := HP3.out; unfold sub17p at this; rw [hq] at this; simp at this; omega
    subst he1 he2 he3
    cases hr17 : right17 l with
    | false =>
      rw [hr17] at HRR
      go_wp2_with (first
        | (((with_reducible refine calls_id ?_); refine (HRR.out _ hrdw).mono ?_; rintro r w10 ⟨rfl, hb10⟩); (replace h7 := h7.step hb10); (replace h9 := h9.step hb10); (replace h11 := h11.step hb10); (replace h13 := h13.step hb10); (replace HB := Lib.hid (chain HB.out hb10)))
        | (((with_reducible refine calls_id ?_); refine (awake17_any _).mono ?_; rintro r w11 ⟨rfl, hb11⟩); replace HB := Lib.hid (chain HB.out hb11)))
      go_ret
      exact ⟨rfl, HB.out⟩
    | true =>
      rw [hr17] at HRR
      have hmm : m < 0 ∨ 65535 < m := by
        unfold may17 at hq
        rw [hr17] at hq
        have := of_decide_eq_false (by simpa using hq : decide (0 ≤ m ∧ m ≤ 65535) = false)
        omega
      rcases hmm with hmm | hmm
      · go_wp2_with (first
          | (((with_reducible refine calls_id ?_); refine (HRR.out _ hrdw).mono ?_; rintro r w10 ⟨rfl, hb10⟩); (replace h7 := h7.step hb10); (replace h9 := h9.step hb10); (replace h11 := h11.step hb10); (replace h13 := h13.step hb10); (replace HB := Lib.hid (chain HB.out hb10)))
          | (((with_reducible refine calls_id ?_); refine (awake17_any _).mono ?_; rintro r w11 ⟨rfl, hb11⟩); replace HB := Lib.hid (chain HB.out hb11)))
        go_ret
        exact ⟨rfl, HB.out⟩
      · go_wp2_with (first
          | (((with_reducible refine calls_id ?_); refine (HRR.out _ hrdw).mono ?_; rintro r w10 ⟨rfl, hb10⟩); (replace h7 := h7.step hb10); (replace h9 := h9.step hb10); (replace h11 := h11.step hb10); (replace h13 := h13.step hb10); (replace HB := Lib.hid (chain HB.out hb10)))
          | (((with_reducible refine calls_id ?_); refine (awake17_any _).mono ?_; rintro r w11 ⟨rfl, hb11⟩); replace HB := Lib.hid (chain HB.out hb11)))
        go_ret
        exact ⟨rfl, HB.out⟩
  | true =>
    obtain ⟨hr17, hm0, hm1⟩ := may_of hq
    rw [hr17] at HRR
    obtain ⟨hv0, hv1⟩ := of17_bounds x hr17
    have h1 := HP1.out
    have h2 := HP2.out
    have h3 := HP3.out
    rw [add17_snd hq] at h2
    rw [sub17_snd hq] at h3
    unfold set17p at h1
    rw [hq, if_pos rfl] at h1
    injection h1 with h1a h1b
    injection h3 with h3a h3b
    subst h1b h3b
    have HOF := Lib.hid (fun w hr => of17_any A1 k c1 l a x w hr hr17 (by omega) HX.out hal)
    have HROF := Lib.hid (fun w hr => rof17_any A3 k c3 l a x w hr (by omega) HX.out hal)
    obtain ⟨u, hu⟩ : ∃ u : Int, max (of17 l x - m) 0 = u := ⟨_, rfl⟩
    rw [hu] at h3a
    have HRS1 := Lib.hid (fun w hr => rset17_any A3 k c3 l a x m w hr (by omega) HX.out hal ⟨hm0, hm1⟩)
    have HRS3 := Lib.hid (fun w hr => rset17_any A3 k c3 l a x u w hr (by omega) HX.out hal (by omega))
    have HRS2 := Lib.hid (fun (ho : of17 l x + m ≤ 65535) w hr => rset17_any A3 k c3 l a x (of17 l x + m) w hr (by omega) HX.out hal ⟨by omega, ho⟩)
    have hk4 : n4 ≤ 1000000 := by rw [HL4.out, ← h1a]; have := set17_len l x m; omega
    have hk8 : n8 ≤ 1000000 := by rw [HL8.out, ← h3a]; have := set17_len l x u; omega
    have hk6 : n6 ≤ 1000000 := by
      rw [HL6.out]
      split at h2 <;> injection h2 with h2a _
      · rw [← h2a]; simp
      · rw [← h2a]; have := set17_len l x (of17 l x + m); omega
    rw [h1a] at HRS1
    rw [h3a] at HRS3
    generalize of17 l x = v at *
    have HH2 := Lib.hid h2
    have HU := Lib.hid hu
    clear h1a h3a h2 HP1 HP2 HP3 hq hr17 hu
    go_upto_region 8 with (((with_reducible refine calls_id ?_); refine (HRR.out _ hrdw).mono ?_; rintro r w10 ⟨rfl, hb10⟩); (replace hrdh := hrdh.step hb10); (replace hrdw := hrdw.step hb10); (replace h7 := h7.step hb10); (replace hrd4 := hrd4.step hb10); (replace h9 := h9.step hb10); (replace hrd6 := hrd6.step hb10); (replace h11 := h11.step hb10); (replace hrd8 := hrd8.step hb10); (replace h13 := h13.step hb10); (replace HB := Lib.hid (chain HB.out hb10)))
    clear HRR
    go_upto_region 9 with (((with_reducible refine calls_id ?_); refine (HRS1.out _ hrdw).mono ?_; rintro r w11 ⟨A11, n11, c11, e11, rfl, ho11, hb11⟩); (replace hrdh := hrdh.step hb11); (replace hrdw := hrdw.step hb11); (replace h7 := h7.step hb11); (replace hrd4 := hrd4.step hb11); (replace h9 := h9.step hb11); (replace hrd6 := hrd6.step hb11); (replace h11 := h11.step hb11); (replace hrd8 := hrd8.step hb11); (replace h13 := h13.step hb11); (replace HB := Lib.hid (chain HB.out hb11)))
    have hrdp : RdC w11 w11.heap.size A11 n11 c11 s1 := ho11.rd
    clear ho11 hb11 HRS1
    have hw1 : IntKind.i64.wrap (v - m) = v - m := IntWalk.i64_in _ (by omega)
    go_upto_region 10 with (((with_reducible refine calls_id ?_); refine (HROF.out _ hrdw).mono ?_; rintro r w12 ⟨rfl, hb12⟩); (replace hrdh := hrdh.step hb12); (replace hrdw := hrdw.step hb12); (replace h7 := h7.step hb12); (replace hrd4 := hrd4.step hb12); (replace h9 := h9.step hb12); (replace hrd6 := hrd6.step hb12); (replace h11 := h11.step hb12); (replace hrd8 := hrd8.step hb12); (replace h13 := h13.step hb12); (replace hrdp := hrdp.step hb12); (replace HB := Lib.hid (chain HB.out hb12)))
    clear hb12
    have hcut : ∀ K : Int → Prop, (v - m < 0 → K 0) → (¬ v - m < 0 → K (v - m)) → True := fun _ _ _ => trivial
    clear hcut
    by_cases hneg : v - m < 0
    · obtain rfl : u = 0 := by have := HU.out; omega
      go_upto_region 13 with (((with_reducible refine calls_id ?_); refine (HRS3.out _ hrdw).mono ?_; rintro r w13 ⟨A13, n13, c13, e13, rfl, ho13, hb13⟩); (replace hrdh := hrdh.step hb13); (replace hrdw := hrdw.step hb13); (replace h7 := h7.step hb13); (replace hrd4 := hrd4.step hb13); (replace h9 := h9.step hb13); (replace hrd6 := hrd6.step hb13); (replace h11 := h11.step hb13); (replace hrd8 := hrd8.step hb13); (replace h13 := h13.step hb13); (replace hrdp := hrdp.step hb13); (replace HB := Lib.hid (chain HB.out hb13)))
      have hrdq : RdC w13 w13.heap.size A13 n13 c13 s3 := ho13.rd
      clear ho13 hb13 HRS3
      obtain ⟨x0, x1⟩ := at1 h7
      obtain ⟨y0, y1⟩ := at1 h9
      obtain ⟨z0, z1⟩ := at1 h11
      obtain ⟨u0, u1⟩ := at1 h13
      go_upto_region 15 with (first
        | (((with_reducible refine (plain17_any A4 n4 c4 s1 _ hrd4 hk4).mono ?_); rintro r w14 ⟨A14, c14, rfl, ho14, hb14⟩); (replace hrdh := hrdh.step hb14); (replace hrdw := hrdw.step hb14); (replace h7 := h7.step hb14); (replace h9 := h9.step hb14); (replace hrd6 := hrd6.step hb14); (replace h11 := h11.step hb14); (replace hrd8 := hrd8.step hb14); (replace h13 := h13.step hb14); (replace hrdp := hrdp.step hb14); (replace hrdq := hrdq.step hb14); (replace HB := Lib.hid (chain HB.out hb14)); (obtain ⟨x0, x1⟩ := at1 h7); (obtain ⟨u0, u1⟩ := at1 h13); have hrdz := ho14.rd)
        | (((with_reducible refine (same17_any _ _ _ s1 _ _ _ s1 _ hrdz hrdp).mono ?_); rintro r w15 ⟨rfl, hb15⟩); (rw [decide_eq_true (show s1 = s1 from rfl)]); (replace hrdh := hrdh.step hb15); (replace hrdw := hrdw.step hb15); (replace h7 := h7.step hb15); (replace h9 := h9.step hb15); (replace hrd6 := hrd6.step hb15); (replace h11 := h11.step hb15); (replace hrd8 := hrd8.step hb15); (replace h13 := h13.step hb15); (replace hrdq := hrdq.step hb15); (replace HB := Lib.hid (chain HB.out hb15)); (obtain ⟨x0, x1⟩ := at1 h7); (obtain ⟨u0, u1⟩ := at1 h13))
        | (((with_reducible refine (plain17_any A8 n8 c8 s3 _ hrd8 hk8).mono ?_); rintro r w16 ⟨A16, c16, rfl, ho16, hb16⟩); (replace hrdh := hrdh.step hb16); (replace hrdw := hrdw.step hb16); (replace h7 := h7.step hb16); (replace h9 := h9.step hb16); (replace hrd6 := hrd6.step hb16); (replace h11 := h11.step hb16); (replace h13 := h13.step hb16); (replace hrdq := hrdq.step hb16); (replace HB := Lib.hid (chain HB.out hb16)); (obtain ⟨x0, x1⟩ := at1 h7); have hrdz2 := ho16.rd)
        | (((with_reducible refine (same17_any _ _ _ s3 _ _ _ s3 _ hrdz2 hrdq).mono ?_); rintro r w17 ⟨rfl, hb17⟩); (rw [decide_eq_true (show s3 = s3 from rfl)]); (replace hrdh := hrdh.step hb17); (replace hrdw := hrdw.step hb17); (replace h7 := h7.step hb17); (replace h9 := h9.step hb17); (replace hrd6 := hrd6.step hb17); (replace h11 := h11.step hb17); (replace HB := Lib.hid (chain HB.out hb17)); (obtain ⟨x0, x1⟩ := at1 h7))
        | (((with_reducible refine (HOF.out _ hrdh).mono ?_); rintro r w18 ⟨rfl, hb18⟩); (replace hrdw := hrdw.step hb18); (replace h7 := h7.step hb18); (replace h9 := h9.step hb18); (replace hrd6 := hrd6.step hb18); (replace h11 := h11.step hb18); (replace HB := Lib.hid (chain HB.out hb18)))
        | (((with_reducible refine (HROF.out _ hrdw).mono ?_); rintro r w19 ⟨rfl, hb19⟩); (replace hrdw := hrdw.step hb19); (replace h7 := h7.step hb19); (replace h9 := h9.step hb19); (replace hrd6 := hrd6.step hb19); (replace h11 := h11.step hb19); (replace HB := Lib.hid (chain HB.out hb19))))
      clear hrd4 hrd8
      by_cases hov : v > 65535 - m
      · have h2 := HH2.out
        rw [if_pos hov] at h2
        injection h2 with h2a h2b
        subst h2a h2b
        obtain rfl : n6 = 0 := HL6.out
        obtain ⟨z0, z1⟩ := at1 h11
        go_wp2_with (first
          | (((with_reducible refine (HROF.out _ hrdw).mono ?_); rintro r w20 ⟨rfl, hb20⟩); (replace h11 := h11.step hb20); (replace HB := Lib.hid (chain HB.out hb20)); (obtain ⟨z0, z1⟩ := at1 h11))
          | (((with_reducible refine (awake17_any _).mono ?_); rintro r w21 ⟨rfl, hb21⟩); replace HB := Lib.hid (chain HB.out hb21)))
        go_ret
        exact ⟨rfl, HB.out⟩
      · have h2 := HH2.out
        rw [if_neg hov] at h2
        injection h2 with h2a h2b
        have hvm : v + m ≤ 65535 := by omega
        have hw2 : IntKind.i64.wrap (v + m) = v + m := IntWalk.i64_in _ (by omega)
        have HRS2 := Lib.hid (HRS2.out hvm)
        rw [h2a] at HRS2
        subst h2b
        clear h2a HH2
        go_upto_region 18 with (first
          | (((with_reducible refine (HROF.out _ hrdw).mono ?_); rintro r w20 ⟨rfl, hb20⟩); (replace hrdw := hrdw.step hb20); (replace hrd6 := hrd6.step hb20); (replace h11 := h11.step hb20); (replace HB := Lib.hid (chain HB.out hb20)))
          | (((with_reducible refine (HRS2.out _ hrdw).mono ?_); rintro r w21 ⟨A21, n21, c21, e21, rfl, ho21, hb21⟩); (replace hrd6 := hrd6.step hb21); (replace h11 := h11.step hb21); (replace HB := Lib.hid (chain HB.out hb21)); have hrdp2 := ho21.rd))
        obtain ⟨z0, z1⟩ := at1 h11
        go_wp2_with (first
          | (((with_reducible refine (plain17_any A6 n6 c6 s2 _ hrd6 hk6).mono ?_); rintro r w22 ⟨A22, c22, rfl, ho22, hb22⟩); (replace h11 := h11.step hb22); (replace hrdp2 := hrdp2.step hb22); (replace HB := Lib.hid (chain HB.out hb22)); have hrdz3 := ho22.rd)
          | (((with_reducible refine (same17_any _ _ _ s2 _ _ _ s2 _ hrdz3 hrdp2).mono ?_); rintro r w23 ⟨rfl, hb23⟩); (rw [decide_eq_true (show s2 = s2 from rfl)]); (replace h11 := h11.step hb23); (replace HB := Lib.hid (chain HB.out hb23)))
          | (((with_reducible refine (awake17_any _).mono ?_); rintro r w24 ⟨rfl, hb24⟩); replace HB := Lib.hid (chain HB.out hb24)))
        go_ret
        exact ⟨rfl, HB.out⟩
    · obtain rfl : u = v - m := by have := HU.out; omega
      go_upto_region 13 with (((with_reducible refine calls_id ?_); refine (HRS3.out _ hrdw).mono ?_; rintro r w13 ⟨A13, n13, c13, e13, rfl, ho13, hb13⟩); (replace hrdh := hrdh.step hb13); (replace hrdw := hrdw.step hb13); (replace h7 := h7.step hb13); (replace hrd4 := hrd4.step hb13); (replace h9 := h9.step hb13); (replace hrd6 := hrd6.step hb13); (replace h11 := h11.step hb13); (replace hrd8 := hrd8.step hb13); (replace h13 := h13.step hb13); (replace hrdp := hrdp.step hb13); (replace HB := Lib.hid (chain HB.out hb13)))
      have hrdq : RdC w13 w13.heap.size A13 n13 c13 s3 := ho13.rd
      clear ho13 hb13 HRS3
      obtain ⟨x0, x1⟩ := at1 h7
      obtain ⟨y0, y1⟩ := at1 h9
      obtain ⟨z0, z1⟩ := at1 h11
      obtain ⟨u0, u1⟩ := at1 h13
      go_upto_region 15 with (first
        | (((with_reducible refine (plain17_any A4 n4 c4 s1 _ hrd4 hk4).mono ?_); rintro r w14 ⟨A14, c14, rfl, ho14, hb14⟩); (replace hrdh := hrdh.step hb14); (replace hrdw := hrdw.step hb14); (replace h7 := h7.step hb14); (replace h9 := h9.step hb14); (replace hrd6 := hrd6.step hb14); (replace h11 := h11.step hb14); (replace hrd8 := hrd8.step hb14); (replace h13 := h13.step hb14); (replace hrdp := hrdp.step hb14); (replace hrdq := hrdq.step hb14); (replace HB := Lib.hid (chain HB.out hb14)); (obtain ⟨x0, x1⟩ := at1 h7); (obtain ⟨u0, u1⟩ := at1 h13); have hrdz := ho14.rd)
        | (((with_reducible refine (same17_any _ _ _ s1 _ _ _ s1 _ hrdz hrdp).mono ?_); rintro r w15 ⟨rfl, hb15⟩); (rw [decide_eq_true (show s1 = s1 from rfl)]); (replace hrdh := hrdh.step hb15); (replace hrdw := hrdw.step hb15); (replace h7 := h7.step hb15); (replace h9 := h9.step hb15); (replace hrd6 := hrd6.step hb15); (replace h11 := h11.step hb15); (replace hrd8 := hrd8.step hb15); (replace h13 := h13.step hb15); (replace hrdq := hrdq.step hb15); (replace HB := Lib.hid (chain HB.out hb15)); (obtain ⟨x0, x1⟩ := at1 h7); (obtain ⟨u0, u1⟩ := at1 h13))
        | (((with_reducible refine (plain17_any A8 n8 c8 s3 _ hrd8 hk8).mono ?_); rintro r w16 ⟨A16, c16, rfl, ho16, hb16⟩); (replace hrdh := hrdh.step hb16); (replace hrdw := hrdw.step hb16); (replace h7 := h7.step hb16); (replace h9 := h9.step hb16); (replace hrd6 := hrd6.step hb16); (replace h11 := h11.step hb16); (replace h13 := h13.step hb16); (replace hrdq := hrdq.step hb16); (replace HB := Lib.hid (chain HB.out hb16)); (obtain ⟨x0, x1⟩ := at1 h7); have hrdz2 := ho16.rd)
        | (((with_reducible refine (same17_any _ _ _ s3 _ _ _ s3 _ hrdz2 hrdq).mono ?_); rintro r w17 ⟨rfl, hb17⟩); (rw [decide_eq_true (show s3 = s3 from rfl)]); (replace hrdh := hrdh.step hb17); (replace hrdw := hrdw.step hb17); (replace h7 := h7.step hb17); (replace h9 := h9.step hb17); (replace hrd6 := hrd6.step hb17); (replace h11 := h11.step hb17); (replace HB := Lib.hid (chain HB.out hb17)); (obtain ⟨x0, x1⟩ := at1 h7))
        | (((with_reducible refine (HOF.out _ hrdh).mono ?_); rintro r w18 ⟨rfl, hb18⟩); (replace hrdw := hrdw.step hb18); (replace h7 := h7.step hb18); (replace h9 := h9.step hb18); (replace hrd6 := hrd6.step hb18); (replace h11 := h11.step hb18); (replace HB := Lib.hid (chain HB.out hb18)))
        | (((with_reducible refine (HROF.out _ hrdw).mono ?_); rintro r w19 ⟨rfl, hb19⟩); (replace hrdw := hrdw.step hb19); (replace h7 := h7.step hb19); (replace h9 := h9.step hb19); (replace hrd6 := hrd6.step hb19); (replace h11 := h11.step hb19); (replace HB := Lib.hid (chain HB.out hb19))))
      clear hrd4 hrd8
      by_cases hov : v > 65535 - m
      · have h2 := HH2.out
        rw [if_pos hov] at h2
        injection h2 with h2a h2b
        subst h2a h2b
        obtain rfl : n6 = 0 := HL6.out
        obtain ⟨z0, z1⟩ := at1 h11
        go_wp2_with (first
          | (((with_reducible refine (HROF.out _ hrdw).mono ?_); rintro r w20 ⟨rfl, hb20⟩); (replace h11 := h11.step hb20); (replace HB := Lib.hid (chain HB.out hb20)); (obtain ⟨z0, z1⟩ := at1 h11))
          | (((with_reducible refine (awake17_any _).mono ?_); rintro r w21 ⟨rfl, hb21⟩); replace HB := Lib.hid (chain HB.out hb21)))
        go_ret
        exact ⟨rfl, HB.out⟩
      · have h2 := HH2.out
        rw [if_neg hov] at h2
        injection h2 with h2a h2b
        have hvm : v + m ≤ 65535 := by omega
        have hw2 : IntKind.i64.wrap (v + m) = v + m := IntWalk.i64_in _ (by omega)
        have HRS2 := Lib.hid (HRS2.out hvm)
        rw [h2a] at HRS2
        subst h2b
        clear h2a HH2
        go_upto_region 18 with (first
          | (((with_reducible refine (HROF.out _ hrdw).mono ?_); rintro r w20 ⟨rfl, hb20⟩); (replace hrdw := hrdw.step hb20); (replace hrd6 := hrd6.step hb20); (replace h11 := h11.step hb20); (replace HB := Lib.hid (chain HB.out hb20)))
          | (((with_reducible refine (HRS2.out _ hrdw).mono ?_); rintro r w21 ⟨A21, n21, c21, e21, rfl, ho21, hb21⟩); (replace hrd6 := hrd6.step hb21); (replace h11 := h11.step hb21); (replace HB := Lib.hid (chain HB.out hb21)); have hrdp2 := ho21.rd))
        obtain ⟨z0, z1⟩ := at1 h11
        go_wp2_with (first
          | (((with_reducible refine (plain17_any A6 n6 c6 s2 _ hrd6 hk6).mono ?_); rintro r w22 ⟨A22, c22, rfl, ho22, hb22⟩); (replace h11 := h11.step hb22); (replace hrdp2 := hrdp2.step hb22); (replace HB := Lib.hid (chain HB.out hb22)); have hrdz3 := ho22.rd)
          | (((with_reducible refine (same17_any _ _ _ s2 _ _ _ s2 _ hrdz3 hrdp2).mono ?_); rintro r w23 ⟨rfl, hb23⟩); (rw [decide_eq_true (show s2 = s2 from rfl)]); (replace h11 := h11.step hb23); (replace HB := Lib.hid (chain HB.out hb23)))
          | (((with_reducible refine (awake17_any _).mono ?_); rintro r w24 ⟨rfl, hb24⟩); replace HB := Lib.hid (chain HB.out hb24)))
        go_ret
        exact ⟨rfl, HB.out⟩
end Go.Proofs.Ytcepknjcgknidaa
