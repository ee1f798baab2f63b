
/- Chapter 13: pools. -/
import Derived.Test.YtcepknjcgknidaaCidr
import Derived.Test.YtcepknjcgknidaaRecs
import Derived.Test.YtcepknjcgknidaaEffPure
namespace Go.Proofs.Ytcepknjcgknidaa
set_option linter.unusedVariables false
set_option linter.unusedSimpArgs false
open Go.RowKit
structure Pool where
  a : Nat
  b : Int
  o : Bool
def Pool.row (p : Pool) : List Value := [.int .u32 (p.a : Int), .int .i64 p.b, .bool p.o]
def Pool.v (p : Pool) : Value := .agg p.row.toArray
def Pool.right (p : Pool) : Bool := rightN p.a p.b
theorem rightpool_any (p : Pool) (hp : p.a < 4294967296) (w : World) : Calls Try.prog 25 #[p.v] w fun x w' => x = .returned (.bool p.right) ∧ Below w.heap.size w w' := by
  obtain ⟨a, b, o⟩ := p
  unfold Pool.right Pool.v Pool.row rightN
  simp only at hp ⊢
  obtain ⟨hx, hb⟩ := one_at w 42 [.int .u32 (a : Int), .int .i64 b, .bool o]
  have hm := may_any a b hp (w.alloc (.cells #[.int .u32 (a : Int), .int .i64 b, .bool o] 42))
  generalize mayN a b = v at *
  have HX := Lib.hid hx
  have HB := Lib.hid hb
  have HM := Lib.hid hm
  clear hx hb hm
  cases v
  · go_enter Try.func25, Try.ntmps25
    go_wp2_with fail
    refine HM.out.mono ?_
    rintro x w1 ⟨rfl, hb1⟩
    go_wp2_with fail
    go_ret
    exact ⟨rfl, chain HB.out hb1⟩
  · by_cases h16 : 16 ≤ b
    · by_cases h26 : b ≤ 26
      · rw [decide_eq_true ⟨h16, h26⟩]
        go_enter Try.func25, Try.ntmps25
        go_wp2_with fail
        refine HM.out.mono ?_
        rintro x w1 ⟨rfl, hb1⟩
        obtain ⟨⟨c0, c1, c2⟩, _⟩ := at3 (HX.out.below hb1)
        go_wp2_with fail
        go_ret
        exact ⟨rfl, chain HB.out hb1⟩
      · rw [decide_eq_false (fun h => h26 h.2)]
        have hd : decide (b ≤ 26) = false := decide_eq_false h26
        go_enter Try.func25, Try.ntmps25
        go_wp2_with fail
        refine HM.out.mono ?_
        rintro x w1 ⟨rfl, hb1⟩
        obtain ⟨⟨c0, c1, c2⟩, _⟩ := at3 (HX.out.below hb1)
        go_wp2_with fail
        go_ret
        exact ⟨rfl, chain HB.out hb1⟩
    · rw [decide_eq_false (fun h => h16 h.1)]
      have hd : decide (16 ≤ b) = false := decide_eq_false h16
      go_enter Try.func25, Try.ntmps25
      go_wp2_with fail
      refine HM.out.mono ?_
      rintro x w1 ⟨rfl, hb1⟩
      obtain ⟨⟨c0, c1, c2⟩, _⟩ := at3 (HX.out.below hb1)
      go_wp2_with fail
      go_ret
      exact ⟨rfl, chain HB.out hb1⟩
theorem rright_pool (p : Pool) (hp : p.a < 4294967296) (w : World) : Calls Try.prog 26 #[p.v] w fun x w' => x = .returned (.bool p.right) ∧ Below w.heap.size w w' := by
  obtain ⟨a, b, o⟩ := p
  unfold Pool.right Pool.v Pool.row rightN
  simp only at hp ⊢
  obtain ⟨hx, hb⟩ := one_at w 37 [.int .u32 (a : Int), .int .i64 b, .bool o]
  have hm := rmay_any a b hp (w.alloc (.cells #[.int .u32 (a : Int), .int .i64 b, .bool o] 37))
  generalize mayN a b = v at *
  have HX := Lib.hid hx
  have HB := Lib.hid hb
  have HM := Lib.hid hm
  clear hx hb hm
  cases v
  · go_enter Try.func26, Try.ntmps26
    go_wp2_with fail
    refine HM.out.mono ?_
    rintro x w1 ⟨rfl, hb1⟩
    go_wp2_with fail
    go_ret
    exact ⟨rfl, chain HB.out hb1⟩
  · by_cases h16 : 16 ≤ b
    · by_cases h26 : b ≤ 26
      · rw [decide_eq_true ⟨h16, h26⟩]
        go_enter Try.func26, Try.ntmps26
        go_wp2_with fail
        refine HM.out.mono ?_
        rintro x w1 ⟨rfl, hb1⟩
        obtain ⟨⟨c0, c1, c2⟩, _⟩ := at3 (HX.out.below hb1)
        go_wp2_with fail
        go_ret
        exact ⟨rfl, chain HB.out hb1⟩
      · rw [decide_eq_false (fun h => h26 h.2)]
        have hd : decide (b ≤ 26) = false := decide_eq_false h26
        go_enter Try.func26, Try.ntmps26
        go_wp2_with fail
        refine HM.out.mono ?_
        rintro x w1 ⟨rfl, hb1⟩
        obtain ⟨⟨c0, c1, c2⟩, _⟩ := at3 (HX.out.below hb1)
        go_wp2_with fail
        go_ret
        exact ⟨rfl, chain HB.out hb1⟩
    · rw [decide_eq_false (fun h => h16 h.1)]
      have hd : decide (16 ≤ b) = false := decide_eq_false h16
      go_enter Try.func26, Try.ntmps26
      go_wp2_with fail
      refine HM.out.mono ?_
      rintro x w1 ⟨rfl, hb1⟩
      obtain ⟨⟨c0, c1, c2⟩, _⟩ := at3 (HX.out.below hb1)
      go_wp2_with fail
      go_ret
      exact ⟨rfl, chain HB.out hb1⟩
theorem ours13 (p : Pool) (w : World) : Calls Try.prog 20 #[p.v] w fun x w' => x = .returned p.v ∧ Below w.heap.size w w' := by
  unfold Pool.v Pool.row
  go_enter Try.func20, Try.ntmps20
  go_wp2_with fail
  exact bodyPost_ret (v := .agg #[.int .u32 (p.a : Int), .int .i64 p.b, .bool p.o]) (by simp [results, Try.results20, go_sem]) rfl ⟨rfl, ((Below.refl _ _).alloc (Nat.le_refl _) _).alloc (by simp) _⟩
theorem plain13 (p : Pool) (w : World) : Calls Try.prog 29 #[p.v] w fun x w' => x = .returned p.v ∧ Below w.heap.size w w' := by
  unfold Pool.v Pool.row
  go_enter Try.func29, Try.ntmps29
  go_wp2_with fail
  exact bodyPost_ret (v := .agg #[.int .u32 (p.a : Int), .int .i64 p.b, .bool p.o]) (by simp [results, Try.results29, go_sem]) rfl ⟨rfl, ((Below.refl _ _).alloc (Nat.le_refl _) _).alloc (by simp) _⟩
def bitO (o : Bool) : Nat := if o then 1 else 0
/-- a pool's bytes -/
def poolL (p : Pool) : List UInt8 := 80 :: (putN p.a 4 ++ (putN p.b.toNat 1 ++ putN (bitO p.o) 1))
theorem right_in {p : Pool} (h : p.right = true) : ∃ n : Nat, p.b = (n : Int) ∧ 16 ≤ n ∧ n ≤ 26 := by
  unfold Pool.right rightN at h
  rw [Bool.and_eq_true] at h
  have := of_decide_eq_true h.2
  exact ⟨p.b.toNat, by omega, by omega, by omega⟩
theorem putpool_bad (p : Pool) (hp : p.a < 4294967296) (h : p.right = false) (w : World) : Calls Try.prog 24 #[p.v] w fun x w' => x = .returned (.tuple #[.string ⟨#[]⟩, .int .i64 1]) ∧ Below w.heap.size w w' := by
  obtain ⟨hx, hb⟩ := one_at w 42 p.row
  have hr := rightpool_any p hp (w.alloc (.cells p.row.toArray 42))
  rw [h] at hr
  unfold Pool.v at *
  unfold Pool.row at *
  have HB := Lib.hid hb
  have HR := Lib.hid hr
  clear hx hb hr h
  go_enter Try.func24, Try.ntmps24
  go_wp2_with fail
  refine HR.out.mono ?_
  rintro x w1 ⟨rfl, hb1⟩
  go_wp2_with fail
  go_ret2
  exact ⟨rfl, chain HB.out hb1⟩
set_option maxHeartbeats 1000000 in
theorem putpool_ok (p : Pool) (hp : p.a < 4294967296) (h : p.right = true) (w : World) : Calls Try.prog 24 #[p.v] w fun x w' => x = .returned (.tuple #[.string ⟨(poolL p).toArray⟩, .int .i64 0]) ∧ Below w.heap.size w w' := by
  obtain ⟨hx, hb⟩ := one_at w 42 p.row
  have hr := rightpool_any p hp (w.alloc (.cells p.row.toArray 42))
  rw [h] at hr
  obtain ⟨n, hn, h16, h26⟩ := right_in h
  obtain ⟨a, b, o⟩ := p
  simp only at hn hp
  subst hn
  unfold poolL
  unfold Pool.v at *
  unfold Pool.row at *
  simp only at *
  have HX := Lib.hid hx
  have HB := Lib.hid hb
  have HR := Lib.hid hr
  clear hx hb hr h
  go_enter Try.func24, Try.ntmps24
  go_wp2_with fail
  refine HR.out.mono ?_
  rintro x w1 ⟨rfl, hb1⟩
  have hx := HX.out.below hb1
  have hb := chain HB.out hb1
  clear HX HB HR hb1
  have hw1 : w1.heap.size ≤ (w1.alloc (.cells #[.int .u8 80] 5)).heap.size := by simp
  have hrd := RdB.one (w := w1) (t := 5) (b := 80) (v := 80) rfl
  have hb1 := (one_at w1 5 [.int .u8 80]).2
  have hx2 := hx.below hb1
  replace hb := chain hb hb1
  obtain ⟨⟨c0, c1, c2⟩, _⟩ := at3 hx
  have l0 := hx.lt
  have hput := put_any (some ⟨w1.heap.size, 0, none⟩) 1 1 [80] a 4 _ (hrd.more (by simp)) (by omega) (by omega) (by omega) (by omega)
  have HP := Lib.hid hput
  have HX := Lib.hid hx2
  have HB := Lib.hid hb
  clear hput hx2 hb hb1 hx hrd
  clear c0 c1 c2 l0 hw1
  obtain ⟨⟨c0, c1, c2⟩, _⟩ := at3 HX.out
  go_wp2_with fail
  refine HP.out.mono ?_
  rintro x w2 ⟨A2, q2, rfl, ho2, hb2⟩
  have hx := HX.out.below hb2
  have hb := chain HB.out hb2
  have hput := put_any A2 _ q2 _ n 1 w2 ho2.rd (by omega) (by omega) (by omega) (by omega)
  have HP := Lib.hid hput
  have HX := Lib.hid hx
  have HB := Lib.hid hb
  clear c0 c1 c2 hput hb hb2 ho2
  obtain ⟨⟨c0, c1, c2⟩, _⟩ := at3 hx
  clear hx
  go_wp2_with fail
  refine HP.out.mono ?_
  rintro x w3 ⟨A3, q3, rfl, ho3, hb3⟩
  have hx := HX.out.below hb3
  have hb := chain HB.out hb3
  have hput := put_any A3 _ q3 _ (bitO o) 1 w3 ho3.rd (by omega) (by unfold bitO; split <;> omega) (by omega) (by omega)
  have htr := truth_any o w3
  rw [show (if o = true then (1 : Int) else 0) = ((bitO o : Nat) : Int) from by cases o <;> rfl] at htr
  generalize hbo : bitO o = bo at *
  have HBO := Lib.hid hbo
  clear hbo
  have HP := Lib.hid hput
  have HB := Lib.hid hb
  have HT := Lib.hid htr
  clear c0 c1 c2 hput hb hb3 ho3 htr HX
  obtain ⟨⟨c0, c1, c2⟩, _⟩ := at3 hx
  clear hx
  go_wp2_with fail
  refine HT.out.mono ?_
  rintro x w4 ⟨rfl, rfl⟩
  go_wp2_with fail
  refine HP.out.mono ?_
  rintro x w4 ⟨A4, q4, rfl, ho4, hb4⟩
  have hb := chain HB.out hb4
  have hcv := conv_str ho4.rd
  go_wp2_with fail
  go_ret2
  exact ⟨by simp [List.append_assoc, HBO.out], hb⟩
/-- a pool as it is read -/
structure RdP where
  t : Nat
  a : Nat
  b : Nat
  o : Nat
  s : St
def rdP (l : List UInt8) : RdP :=
  let s1 := (⟨l, false⟩ : St).u 1
  let s2 := s1.2.u 4
  let s3 := s2.2.u 1
  let s4 := s3.2.u 1
  ⟨s1.1, s2.1, s3.1, s4.1, s4.2⟩
def RdP.p (r : RdP) : Pool := ⟨r.a, (r.b : Int), decide (r.o = 1)⟩
def okP (l : List UInt8) : Prop := (rdP l).s.done = true ∧ (rdP l).t = 80 ∧ (rdP l).o ≤ 1 ∧ (rdP l).p.right = true
theorem rdP_put (p : Pool) (ha : p.a < 4294967296) (h : p.right = true) : rdP (poolL p) = ⟨80, p.a, p.b.toNat, bitO p.o, ⟨[], false⟩⟩ := by
  obtain ⟨n, hn, h1, h2⟩ := right_in h
  have e1 : (⟨poolL p, false⟩ : St).u 1 = (80, ⟨putN p.a 4 ++ (putN p.b.toNat 1 ++ putN (bitO p.o) 1), false⟩) := St.u_putN 80 1 (by omega) (by omega) (by omega) _
  have e2 : (⟨putN p.a 4 ++ (putN p.b.toNat 1 ++ putN (bitO p.o) 1), false⟩ : St).u 4 = (p.a, ⟨putN p.b.toNat 1 ++ putN (bitO p.o) 1, false⟩) := St.u_putN p.a 4 (by omega) (by omega) (by omega) _
  have e3 : (⟨putN p.b.toNat 1 ++ putN (bitO p.o) 1, false⟩ : St).u 1 = (p.b.toNat, ⟨putN (bitO p.o) 1, false⟩) := St.u_putN p.b.toNat 1 (by omega) (by omega) (by rw [hn]; simp; omega) _
  have e4 : (⟨putN (bitO p.o) 1, false⟩ : St).u 1 = (bitO p.o, ⟨[], false⟩) := by
    have := St.u_putN (bitO p.o) 1 (by omega) (by omega) (by unfold bitO; split <;> omega) []
    simpa using this
  unfold rdP
  simp only [e1, e2, e3, e4]
theorem rdP_p (p : Pool) (h : p.right = true) : (⟨80, p.a, p.b.toNat, bitO p.o, ⟨[], false⟩⟩ : RdP).p = p := by
  obtain ⟨n, hn, h1, h2⟩ := right_in h
  obtain ⟨a, b, o⟩ := p
  simp only at hn
  subst hn
  unfold RdP.p
  cases o <;> simp [bitO]
theorem okP_put (p : Pool) (ha : p.a < 4294967296) (h : p.right = true) : okP (poolL p) := by
  unfold okP
  rw [rdP_put p ha h, rdP_p p h]
  exact ⟨rfl, rfl, by show bitO p.o ≤ 1; unfold bitO; split <;> omega, h⟩
theorem put_okP (l : List UInt8) (h : okP l) : poolL (rdP l).p = l ∧ (rdP l).a < 4294967296 := by
  obtain ⟨h1, h2, h3, h4⟩ := h
  unfold St.done at h1
  rw [Bool.and_eq_true] at h1
  obtain ⟨hb, he⟩ := h1
  generalize hs1 : (⟨l, false⟩ : St).u 1 = s1 at *
  generalize hs2 : s1.2.u 4 = s2 at *
  generalize hs3 : s2.2.u 1 = s3 at *
  generalize hs4 : s3.2.u 1 = s4 at *
  have e : rdP l = ⟨s1.1, s2.1, s3.1, s4.1, s4.2⟩ := by unfold rdP; simp only [hs1, hs2, hs3, hs4]
  rw [e] at hb he h2 h3 h4 ⊢
  simp only at hb he h2 h3 h4 ⊢
  have b4 := St.u_back (s := s3.2) (k := 1) (by omega) (by omega) (by rw [show ((1 : Nat) : Int) = 1 from rfl, hs4]; simpa using hb)
  rw [show ((1 : Nat) : Int) = 1 from rfl, hs4] at b4
  have b3 := St.u_back (s := s2.2) (k := 1) (by omega) (by omega) (by rw [show ((1 : Nat) : Int) = 1 from rfl, hs3]; exact b4.1)
  rw [show ((1 : Nat) : Int) = 1 from rfl, hs3] at b3
  have b2 := St.u_back (s := s1.2) (k := 4) (by omega) (by omega) (by rw [show ((4 : Nat) : Int) = 4 from rfl, hs2]; exact b3.1)
  rw [show ((4 : Nat) : Int) = 4 from rfl, hs2] at b2
  have b1 := St.u_back (s := ⟨l, false⟩) (k := 1) (by omega) (by omega) (by rw [show ((1 : Nat) : Int) = 1 from rfl, hs1]; exact b2.1)
  rw [show ((1 : Nat) : Int) = 1 from rfl, hs1] at b1
  have hnil : s4.2.l = [] := by simpa using he
  refine ⟨?_, by have := b2.2.2; omega⟩
  have h5 := b1.2.1
  simp only at h5
  rw [h5, b2.2.1, b3.2.1, b4.2.1, hnil, h2]
  unfold poolL RdP.p
  simp only [Int.toNat_natCast, List.append_nil]
  have : bitO (decide (s4.1 = 1)) = s4.1 := by
    unfold bitO
    by_cases h1 : s4.1 = 1
    · rw [if_pos (by simpa using h1)]; omega
    · rw [if_neg (by simpa using h1)]; omega
  rw [this]
  rfl
end Go.Proofs.Ytcepknjcgknidaa
