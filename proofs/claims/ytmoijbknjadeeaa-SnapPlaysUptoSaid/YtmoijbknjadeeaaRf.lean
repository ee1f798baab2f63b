
/- Chapter 6: the document's disk in memory; New, find, Find, without, write, Arm, Read. -/
import Derived.Test.YtmoijbknjadeeaaDkOps
namespace Go.Proofs.Ytmoijbknjadeeaa
set_option linter.unusedVariables false
set_option linter.unusedSimpArgs false
open Go.RowKit
theorem info_rfile : (Try.prog.info? 52).map (fun i => (i.zero, i.size, i.bytes)) = some (some (Value.agg #[.string ⟨#[]⟩, .string ⟨#[]⟩, .int .i64 0]), 3, 40) := by kernel_rfl
abbrev RdF (w : World) (B : Nat) (A : Option Addr) (n c : Nat) (l : List Fi) : Prop := Rd w B 3 A n c (l.flatMap Fi.row)
def OwnRF (w : World) (B : Nat) (A : Option Addr) (n c : Nat) (l : List Fi) : Prop := w.ownsRow B 52 3 (.slice A n c) n (l.flatMap Fi.row)
theorem fi_one (x : Fi) : ∀ u ∈ x.row, u.oneCell' = true := by intro u hu; simp [Fi.row] at hu; rcases hu with rfl | rfl | rfl <;> rfl
theorem fis_one (l : List Fi) : ∀ u ∈ l.flatMap Fi.row, u.oneCell' = true := by
  intro u hu
  obtain ⟨x, _, h⟩ := List.mem_flatMap.1 hu
  exact fi_one x u h
theorem OwnRF.len {w : World} {B n c : Nat} {A : Option Addr} {l : List Fi} (h : OwnRF w B A n c l) : n = l.length := by have := h.1; rw [flat_length Fi.row_length] at this; omega
theorem OwnRF.step {w w' : World} {B n c : Nat} {A : Option Addr} {l : List Fi} (h : OwnRF w B A n c l) (hb : Below w.heap.size w w') : OwnRF w' B A n c l := own_below h hb
theorem OwnRF.rd {w : World} {B n c : Nat} {A : Option Addr} {l : List Fi} (h : OwnRF w B A n c l) : RdF w w.heap.size A n c l := Rd.of_own h
/-- append(s, x) of the document's files -/
theorem app_rf {ops : Array Oper} {rest : List Oper} {o : Oper} {a : Act} {w : World} {Q : Exit → Act → World → Prop} (hgd : o.guard = none) (s x : Operand)
    (ho : o.op = .call { callee := .builtin .append, args := #[s, x], argTypes := #[46, 46] })
    {base : Nat} {A' : Option Addr} {n c' : Nat} {l : List Fi} (hs : a.eval s = .slice A' n c') (hown : OwnRF w base A' n c' l)
    {B : Nat} {A : Option Addr} {m c : Nat} (y : List Fi) (hx : a.eval x = .slice A m c) (hr : RdF w B A m c y) (hbase : base ≤ w.heap.size) (hsz : n + m ≤ 1099511627776)
    (h : ∀ A2 c2 w', OwnRF w' base A2 (n + m) c2 (l ++ y) → w.grownBy w' (Value.slice A' n c').ownBlock → Below base w w' → wpList Try.prog ops Q rest (a.put o.dst (.slice A2 (n + m) c2)) w') : wpList Try.prog ops Q (o :: rest) a w := by
  obtain ⟨i0, hi0, hz0, hz1, hz2⟩ := info_parts info_rfile
  refine wpList_app w hgd s x _ ho base 52 i0 _ 3 40 Try.underlying46 hi0 hz0 hz1 hz2 rfl (by omega) A' n c' _ hs hown B A m c _ hx hr (fis_one y) ?_ (by omega) (by simp only [maxLen]; omega) hbase
  intro A2 c2 w' h1 h2 _ _
  exact h A2 c2 w' (by unfold OwnRF; rw [List.flatMap_append]; exact h1) h2 (below_of_app hown h2 hbase)
/-- the document's disk -/
structure IsRf (w : World) (g : Nat) (l : List Fi) (gone : Bool) (left : Int) : Prop where
  ex : ∃ A c, At w g 48 [.slice A l.length c, .bool gone, .int .i64 left] ∧ OwnRF w 0 A l.length c l
section
variable {w w' : World} {g : Nat} {l : List Fi} {gone : Bool} {left : Int}
theorem IsRf.lt (h : IsRf w g l gone left) : g < w.heap.size := by obtain ⟨A, c, h1, _⟩ := h.ex; exact h1.lt
theorem IsRf.step (h : IsRf w g l gone left) (hb : Below w.heap.size w w') : IsRf w' g l gone left := by
  obtain ⟨A, c, h1, h2⟩ := h.ex
  exact ⟨A, c, h1.below hb, h2.step hb⟩
theorem IsRf.drew (h : IsRf w g l gone left) : IsRf w.drew g l gone left := h.step (Below.drew (Below.refl _ _))
/-- fields are turned -/
theorem IsRf.turn {l' : List Fi} {gone' : Bool} {left' : Int} {A : Option Addr} {c : Nat} (hx : At w g 48 [.slice A l.length c, .bool gone, .int .i64 left]) {A' : Option Addr} {c' : Nat} (ho : OwnRF w 0 A' l'.length c' l')
    (hG : w.grownBy w' (some g)) (ha : At w' g 48 [.slice A' l'.length c', .bool gone', .int .i64 left']) : IsRf w' g l' gone' left' :=
  ⟨A', c', ha, own_mod (show World.ownsRow _ _ _ _ _ _ _ from ho) (grown_mod hG) (fun i o ho _ hit e => isT_at hx ho hit (by decide) (Option.some.inj e).symm)⟩
theorem rnew_any (w : World) : Calls Try.prog 21 #[] w fun x w' => ∃ g, x = .returned (.pointer (some ⟨g, 0, none⟩)) ∧ IsRf w' g [] false (-1) ∧ w.heap.size ≤ g ∧ Below w.heap.size w w' := by
  go_enter Try.func21, Try.ntmps21
  go_wp2_with fail
  go_ret
  obtain ⟨h2, hb2⟩ := one_at w 48 [.slice none 0 0, .bool false, .int .i64 (-1)]
  exact ⟨w.heap.size, rfl, ⟨none, 0, h2, World.ownsRow_nil _ _ _ _⟩, Nat.le_refl _, hb2⟩
theorem findF_cut {l : List Fi} {k : ByteArray} {j : Nat} (hj : j < l.length) (hb : ∀ i (h : i < j), (l[i]'(by omega)).k ≠ k) (hk : (l[j]).k = k) : findF l k = some l[j] := by
  have e : l = l.take j ++ (l[j] :: l.drop (j + 1)) := by rw [← List.drop_eq_getElem_cons hj, List.take_append_drop]
  have hn : findF (l.take j) k = none := by
    refine findF_ne fun c hc => ?_
    obtain ⟨i, hi, rfl⟩ := List.getElem_of_mem hc
    rw [List.length_take] at hi
    rw [List.getElem_take]
    exact hb i (by omega)
  calc findF l k = findF (l.take j ++ (l[j] :: l.drop (j + 1))) k := by rw [← e]
    _ = some l[j] := by rw [findF_append, hn, Option.none_or]; unfold findF; rw [List.find?_cons, decide_eq_true hk]
set_option maxRecDepth 100000 in
set_option maxHeartbeats 2000000 in
theorem rfindx_any (k : ByteArray) (w : World) (h : IsRf w g l gone left) :
    Calls Try.prog 84 #[.pointer (some ⟨g, 0, none⟩), .string k] w fun x w' => (∃ i, x = .returned (.int .i64 i) ∧ ((i = -1 ∧ findF l k = none) ∨ ∃ (j : Nat), i = (j : Int) ∧ ∃ (hj : j < l.length), findF l k = some l[j])) ∧ Below w.heap.size w w' := by
  obtain ⟨A, c, h1, h2⟩ := h.ex
  have hr := h2.rd
  have hmax := hr.max
  have hle := hr.le
  unfold maxLen at hmax
  have HR := Lib.hid hr
  obtain ⟨⟨x0, x1, x2⟩, xf⟩ := at3 h1
  clear h hr h1 h2
  go_enter Try.func84, Try.ntmps84
  go_wp2_with fail
  clear x0 x1 x2 xf
  go_loopw [12] (fun i wr => ∃ j : Nat, i = .int .i64 (j : Int) ∧ j ≤ l.length ∧ (∀ i (h : i < j) (h2 : i < l.length), (l[i]).k ≠ k) ∧ Below w.heap.size w wr) (fun i _ => l.length - (intOf i).toNat)
  case atStart => exact ⟨0, rfl, Nat.zero_le _, fun i h => absurd h (by omega), Below.refl _ _⟩
  case round =>
    obtain ⟨j, rfl, hj, hall, hb⟩ := hrel
    have hsz := hb.size
    by_cases hlt : j < l.length
    · obtain ⟨gs, off, e, hg, he⟩ := HR.out.elem Fi.row_length (by omega) (k := j) hlt
      subst e
      have hbc := bcell (Below.mono (B := w.heap.size) hb (Nat.le_refl _))
      have e0 := (hbc.1 _ _ hg).trans (he 0 _ rfl)
      have e1 := (hbc.1 _ _ hg).trans (he 1 _ rfl)
      have e2 := (hbc.1 _ _ hg).trans (he 2 _ rfl)
      rw [Nat.add_zero] at e0
      have HC := Lib.hid (fun hk => findF_cut hlt (fun i h => hall i h (by omega)) hk)
      have HN := Lib.hid (show (l[j]).k ≠ k → ∀ i (h : i < j + 1) (h2 : i < l.length), (l[i]).k ≠ k from fun hk i h h2 => by
        rcases Nat.lt_succ_iff_lt_or_eq.1 h with h' | h'
        · exact hall i h' h2
        · subst h'; exact hk)
      have HEX := Lib.hid (show ∀ y, findF l k = some y → y = l[j] → ∃ (j' : Nat), (j : Int) = (j' : Int) ∧ ∃ (hj : j' < l.length), findF l k = some l[j'] from fun y hy e => ⟨j, rfl, hlt, by rw [hy, e]⟩)
      clear he hbc hall
      generalize l[j] = y at *
      obtain ⟨yk, yb, yA, yn, yc, ys⟩ := y
      simp only at e0 e1 e2
      have HB := Lib.hid (chain hb (one_at wr 52 [.string yk, .string ⟨yb.toArray⟩, .int .i64 ys]).2)
      clear hb
      by_cases hk : yk = k
      · have hkb : (yk.toList == k.toList) = true := by rw [ba_beq]; exact decide_eq_true hk
        have hfin := HEX.out _ (HC.out hk) rfl
        have HFIN := Lib.hid hfin
        clear hfin hk
        go_wp2_with fail
        go_ret
        exact ⟨⟨_, rfl, .inr HFIN.out⟩, HB.out⟩
      · have hkb : (yk.toList == k.toList) = false := by rw [ba_beq]; exact decide_eq_false hk
        have HN2 := Lib.hid (HN.out hk)
        clear hk
        go_wp2_with fail
        go_roundw
        case rel => exact ⟨j + 1, by go_num, by omega, HN2.out, HB.out⟩
        case measure => simp [intOf]; omega
    · have hn : findF l k = none := findF_ne fun c hc => by
        obtain ⟨i, hi, rfl⟩ := List.getElem_of_mem hc
        exact hall i (by omega) hi
      have HN := Lib.hid hn
      have HB := Lib.hid hb
      clear hn hall hb
      go_wp2_with fail
      go_ret
      exact ⟨⟨-1, rfl, .inl ⟨rfl, HN.out⟩⟩, HB.out⟩
theorem getF_some {l : List Fi} {k : ByteArray} {y : Fi} (h : findF l k = some y) : getF l k = y := by unfold getF; rw [h]; rfl
theorem getF_none {l : List Fi} {k : ByteArray} (h : findF l k = none) : getF l k = Fi.zero := by unfold getF; rw [h]; rfl
def foundV (l : List Fi) (k : ByteArray) : Value := .tuple #[.agg #[.string (getF l k).k, .string ⟨(getF l k).b.toArray⟩, .int .i64 (getF l k).s], .bool (findF l k).isSome]
set_option maxRecDepth 100000 in
set_option maxHeartbeats 2000000 in
theorem rFind_any (k : ByteArray) (w : World) (h : IsRf w g l gone left) :
    Calls Try.prog 59 #[.pointer (some ⟨g, 0, none⟩), .string k] w fun x w' => x = .returned (foundV l k) ∧ Below w.heap.size w w' := by
  obtain ⟨h4, hb4⟩ := one_at w 52 [.string ⟨#[]⟩, .string ⟨#[]⟩, .int .i64 0]
  have hgl := h.lt
  have h := h.step hb4
  have H := Lib.hid h
  obtain ⟨fv, hfv⟩ : ∃ fv, foundV l k = fv := ⟨_, rfl⟩
  rw [hfv]
  have HFV := Lib.hid hfv
  clear hfv
  go_enter Try.func59, Try.ntmps59
  go_upto_region 1 with fail
  generalize World.alloc w _ = w1 at *
  obtain ⟨gz, hgz⟩ : ∃ gz, w.heap.size = gz := ⟨_, rfl⟩
  rw [hgz] at h4 hb4 hgl ⊢
  have HB := Lib.hid hb4
  have hg4 := h4.lt
  have HFX := rfindx_any k w1 h
  clear h hb4
  go_upto_region 2 with (((with_reducible refine (HFX).mono ?_); rintro z w2 ⟨⟨i, rfl, hi⟩, hb2⟩))
  have h := H.out.step hb2
  replace h4 := h4.step hb2
  clear HFX H
  rcases hi with ⟨rfl, hn⟩ | ⟨j, rfl, hj, hs⟩
  ·
    have hres : fv = .tuple #[.agg #[.string ⟨#[]⟩, .string ⟨#[]⟩, .int .i64 0], .bool false] := by rw [← HFV.out]; unfold foundV; rw [getF_none hn, hn]; rfl
    have HRES := Lib.hid hres
    clear hres hn h
    obtain ⟨⟨z0, z1, z2⟩, zf0, zf1, zf2⟩ := at3 h4
    obtain ⟨hat, hG⟩ := At.many [(0, .string ⟨#[]⟩), (1, .string ⟨#[]⟩), (2, .int .i64 0)] h4
    dsimp only [setMany, setL, List.set] at hat hG
    have hfin := HB.out.trans ((hb2.mono (Nat.le_of_lt hg4)).grown hG (Nat.le_of_lt h4.lt) (by intro i hi; injection hi with hi; omega))
    obtain ⟨⟨z0, z1, z2⟩, zf0, zf1, zf2⟩ := at3 h4
    have HG := Lib.hid (show ∀ v, Below gz w v → Below w.heap.size w v from fun v h => by rw [hgz]; exact h)
    have HFIN := Lib.hid hfin
    clear hfin hG hb2 h4 hgz
    obtain ⟨⟨q0, q1, q2⟩, _⟩ := at3 hat
    go_wp2_with fail
    exact bodyPost_ret (v := .tuple #[.agg #[.string ⟨#[]⟩, .string ⟨#[]⟩, .int .i64 0], .bool false]) (by simp [results, Try.results59, go_sem, q0, q1, q2]) rfl ⟨by rw [HRES.out], HG.out _ HFIN.out⟩
  ·
    obtain ⟨A, c, hd, ho⟩ := h.ex
    obtain ⟨⟨x0, x1, x2⟩, xf⟩ := at3 hd
    obtain ⟨gs, off, e, hg, he⟩ := ho.rd.elem Fi.row_length (by omega) (k := j) hj
    have hle := ho.rd.le
    have hmax := ho.rd.max
    unfold maxLen at hmax
    subst e
    have e0 := he 0 _ rfl
    have e1 := he 1 _ rfl
    have e2 := he 2 _ rfl
    rw [Nat.add_zero] at e0
    have hres : fv = .tuple #[.agg #[.string (l[j]).k, .string ⟨(l[j]).b.toArray⟩, .int .i64 (l[j]).s], .bool true] := by rw [← HFV.out]; unfold foundV; rw [getF_some hs, hs]; rfl
    have HRES := Lib.hid hres
    clear hres hs he h hd ho
    generalize l[j] = y at *
    obtain ⟨yk, yb, yA, yn, yc, ys⟩ := y
    simp only at e0 e1 e2 HRES
    have hneg : decide ((j : Int) < 0) = false := decide_eq_false (by omega)
    obtain ⟨⟨z0, z1, z2⟩, zf0, zf1, zf2⟩ := at3 h4
    obtain ⟨hat, hG⟩ := At.many [(0, .string yk), (1, .string ⟨yb.toArray⟩), (2, .int .i64 ys)] h4
    dsimp only [setMany, setL, List.set] at hat hG
    have hfin := HB.out.trans ((hb2.mono (Nat.le_of_lt hg4)).grown hG (Nat.le_of_lt h4.lt) (by intro i hi; injection hi with hi; omega))
    obtain ⟨⟨z0, z1, z2⟩, zf0, zf1, zf2⟩ := at3 h4
    have HG := Lib.hid (show ∀ v, Below gz w v → Below w.heap.size w v from fun v h => by rw [hgz]; exact h)
    have HFIN := Lib.hid hfin
    clear hfin hG hb2 h4 hgz
    obtain ⟨⟨q0, q1, q2⟩, _⟩ := at3 hat
    go_wp2_with fail
    exact bodyPost_ret (v := .tuple #[.agg #[.string yk, .string ⟨yb.toArray⟩, .int .i64 ys], .bool true]) (by simp [results, Try.results59, go_sem, q0, q1, q2]) rfl ⟨by rw [HRES.out], HG.out _ HFIN.out⟩
/-- files but one -/
def withoutF (l : List Fi) (k : ByteArray) : List Fi := l.filter fun x => !decide (x.k = k)
set_option maxRecDepth 100000 in
set_option maxHeartbeats 2000000 in
theorem rwithout_any (k : ByteArray) (w : World) (h : IsRf w g l gone left) (hn : l.length ≤ 1000000) :
    Calls Try.prog 83 #[.pointer (some ⟨g, 0, none⟩), .string k] w fun x w' => ∃ A c, x = .returned (.slice A (withoutF l k).length c) ∧ OwnRF w' w.heap.size A (withoutF l k).length c (withoutF l k) ∧ Below w.heap.size w w' := by
  obtain ⟨A, c, h1, h2⟩ := h.ex
  have hr := h2.rd
  have hmax := hr.max
  have hle := hr.le
  unfold maxLen at hmax
  have HR := Lib.hid hr
  obtain ⟨⟨x0, x1, x2⟩, xf⟩ := at3 h1
  clear h hr h1 h2
  go_enter Try.func83, Try.ntmps83
  go_wp2_with fail
  clear x0 x1 x2 xf
  go_loopw [5, 13] (fun v i wr => ∃ (j c1 : Nat) (A1 : Option Addr) (q : List Fi), i = .int .i64 (j : Int) ∧ v = .slice A1 q.length c1 ∧ j ≤ l.length ∧ q = withoutF (l.take j) k ∧ q.length ≤ j ∧ OwnRF wr w.heap.size A1 q.length c1 q ∧ Below w.heap.size w wr) (fun _ i _ => l.length - (intOf i).toNat)
  case atStart => exact ⟨0, 0, none, [], rfl, rfl, Nat.zero_le _, rfl, Nat.le_refl _, World.ownsRow_nil _ _ _ _, Below.refl _ _⟩
  case round =>
    obtain ⟨j, c1, A1, q, rfl, rfl, hj, hq, hql, hown, hb⟩ := hrel
    have hsz := hb.size
    by_cases hlt : j < l.length
    · obtain ⟨gs, off, e, hg, he⟩ := HR.out.elem Fi.row_length (by omega) (k := j) hlt
      subst e
      have hbc := bcell (Below.mono (B := w.heap.size) hb (Nat.le_refl _))
      have e0 := (hbc.1 _ _ hg).trans (he 0 _ rfl)
      have e1 := (hbc.1 _ _ hg).trans (he 1 _ rfl)
      have e2 := (hbc.1 _ _ hg).trans (he 2 _ rfl)
      rw [Nat.add_zero] at e0
      have hw : withoutF (l.take (j + 1)) k = q ++ (if (l[j]).k = k then [] else [l[j]]) := by
        rw [hq]
        unfold withoutF
        rw [List.take_succ_eq_append_getElem hlt, List.filter_append]
        congr 1
        simp only [List.filter_cons, List.filter_nil]
        by_cases hk : (l[j]).k = k <;> simp [hk]
      clear he hbc hq
      generalize l[j] = y at *
      obtain ⟨yk, yb, yA, yn, yc, ys⟩ := y
      simp only at e0 e1 e2 hw
      have HW := Lib.hid hw
      have HB := Lib.hid hb
      have HO := Lib.hid hown
      clear hw hb hown
      go_upto_region 5 with fail
      obtain ⟨hy, hb2⟩ := one_at wr 52 [.string yk, .string ⟨yb.toArray⟩, .int .i64 ys]
      have HB := Lib.hid (chain HB.out hb2)
      have HO := Lib.hid (HO.out.step hb2)
      have hz2 := Nat.le_trans hsz hb2.size
      clear hb2 e0 e1 e2
      generalize World.alloc wr _ = w2 at *
      obtain ⟨gy, hgy⟩ : ∃ gy, wr.heap.size = gy := ⟨_, rfl⟩
      rw [hgy] at hy ⊢
      clear hgy
      obtain ⟨⟨y0, y1, y2⟩, yf⟩ := at3 hy
      by_cases hk : yk = k
      · have hkb : (yk.toList == k.toList) = true := by rw [ba_beq]; exact decide_eq_true hk
        have hfin : q = withoutF (l.take (j + 1)) k := by rw [HW.out, if_pos hk, List.append_nil]
        have HF := Lib.hid hfin
        clear hfin hk HW
        go_wp2_with fail
        go_roundw
        case rel => exact ⟨j + 1, c1, A1, q, by go_num, rfl, by omega, HF.out, by omega, HO.out, HB.out⟩
        case measure => simp [intOf]; omega
      · have hkb : (yk.toList == k.toList) = false := by rw [ba_beq]; exact decide_eq_false hk
        have hfin : q ++ [⟨yk, yb, yA, yn, yc, ys⟩] = withoutF (l.take (j + 1)) k := by rw [HW.out, if_neg hk]
        have HF := Lib.hid hfin
        have hbn := (one_at w2 52 [.string yk, .string ⟨yb.toArray⟩, .int .i64 ys]).2
        have HN := Lib.hid (Rd.lit (w := w2) (t := 52) (n := 1) (cs := [.string yk, .string ⟨yb.toArray⟩, .int .i64 ys]) rfl (by simp [maxLen]) (by omega : 0 < 3))
        have HO2 := Lib.hid (HO.out.step hbn)
        have HB2 := Lib.hid (chain HB.out hbn)
        have hz3 := Nat.le_trans hz2 hbn.size
        clear hfin hk HW hbn
        go_wp2_with (at_builtin; refine app_rf rfl (.tmp 21) (.tmp 23) rfl rfl HO2.out [⟨yk, yb, yA, yn, yc, ys⟩] rfl HN.out hz3 (by omega) ?_; intro A3 c3 w4 hW4 hG4 hB4)
        have HO4 := Lib.hid hW4
        have HB4 := Lib.hid (HB2.out.trans hB4)
        clear hW4 hG4 hB4 y0 y1 y2 yf hy
        go_roundw
        case rel => exact ⟨j + 1, c3, A3, q ++ [⟨yk, yb, yA, yn, yc, ys⟩], by go_num, by rw [List.length_append]; rfl, by omega, HF.out, by rw [List.length_append, List.length_singleton]; omega, by rw [List.length_append]; exact HO4.out, HB4.out⟩
        case measure => simp [intOf]; omega
    · obtain rfl : j = l.length := by omega
      rw [List.take_length] at hq
      subst hq
      have HO := Lib.hid hown
      have HB := Lib.hid hb
      clear hown hb
      go_wp2_with fail
      go_ret
      exact ⟨A1, c1, rfl, HO.out, HB.out⟩
end
end Go.Proofs.Ytmoijbknjadeeaa
