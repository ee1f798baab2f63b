
/- Chapter 6: Names. -/
import Derived.Test.YtmoijbknjadeeaaDkOps
import Derived.Test.YtmoijbknjadeeaaSorts
import Derived.Sort.KeysCollected
import Derived.Sort.OwnSorted
import Derived.Maps.RangeWalk
namespace Go.Proofs.Ytmoijbknjadeeaa
set_option linter.unusedVariables false
set_option linter.unusedSimpArgs false
open Go.RowKit Go.Maps Go.Sort
theorem fiR_some {v : Value} {y : DataW Unit × List MemPlace} (h : fiR v = some y) : ∃ x : Fi, v = x.val := by
  unfold fiR at h
  split at h
  · rename_i cs
    split at h
    · rename_i n c s hcs
      exact ⟨⟨⟨#[]⟩, [], none, n, c, s⟩, congrArg Value.agg (Array.toList_inj.1 (by rw [hcs]; rfl))⟩
    · rename_i g off n c s hcs
      exact ⟨⟨⟨#[]⟩, [], some (g, off), n, c, s⟩, congrArg Value.agg (Array.toList_inj.1 (by rw [hcs]; rfl))⟩
    · cases h
  · cases h
theorem ascF_keys {l : List Fi} (h : AscF l) : (l.map fun x => x.k.toList).Pairwise fun a b => a < b := by
  rw [List.pairwise_map]
  exact h.imp fun hab => (kless_iff _ _).1 hab
theorem RepF.sorted {w : World} {b N : Nat} {D : DataW Unit} {l : List Fi} (h : RepF D l) (ho : w.ownsMap Try.prog 9 fiR b N D) {ss : List (List UInt8)} (hs : ss.Perm (strKeys D)) : ss.mergeSort leB = l.map fun x => x.k.toList := by
  have hasc := ascF_keys h.asc
  have hp : (l.map fun x => x.k.toList).Perm (strKeys D) := by
    obtain ⟨es, he, hp⟩ := h.tidy
    have hks := ho.keysOf
    obtain ⟨es', he', hk⟩ := hks
    rw [he] at he'
    injection he' with he'
    subst he'
    rw [he]
    refine perm_strKeys hp (fun p hp' => ?_) (hasc.imp fun hab e => by rw [e] at hab; exact List.lt_irrefl _ hab) fun x => ?_
    · obtain ⟨key, hkey⟩ := hk p hp'
      obtain ⟨x, _, hx, _⟩ := Maps.keyOf_str Try.underlying9 hkey
      exact ⟨x, hx⟩
    · have hh := h.has ⟨x.toArray⟩
      rw [Lib.toList_data] at hh
      simp only at hh
      rw [he] at hh
      rw [hh]
      unfold findF
      rw [List.find?_isSome, List.mem_map]
      constructor
      · rintro ⟨y, hy, e⟩
        refine ⟨y, hy, ?_⟩
        rw [decide_eq_true_iff]
        apply ba_ext
        rw [e, Lib.toList_data]
      · rintro ⟨y, hy, e⟩
        rw [decide_eq_true_iff] at e
        exact ⟨y, hy, by rw [e, Lib.toList_data]⟩
  rw [mergeSort_of_perm (hs.trans hp.symm)]
  refine List.mergeSort_of_pairwise (hasc.imp fun hab => ?_)
  simp only [leB, decide_eq_true_eq]
  exact List.le_of_lt hab
theorem info_string : (Try.prog.info? 9).map (fun i => (i.zero, i.size, i.bytes)) = some (some (Value.string ⟨#[]⟩), 1, 16) := by kernel_rfl
def OwnTx (w : World) (B : Nat) (A : Option Addr) (n c : Nat) (ss : List (List UInt8)) : Prop := w.ownsRow B 9 1 (.slice A n c) n (ss.map encStr)
theorem encStr_one (x : List UInt8) : ∀ u ∈ [encStr x], u.oneCell' = true := by intro u hu; simp at hu; subst hu; rfl
/-- append(s, x) of texts -/
theorem app_tx {ops : Array Oper} {rest : List Oper} {o : Oper} {a : Act} {w : World} {Q : Exit → Act → World → Prop} (hgd : o.guard = none) (s x : Operand)
    (ho : o.op = .call { callee := .builtin .append, args := #[s, x], argTypes := #[49, 49] })
    {base : Nat} {A' : Option Addr} {n c' : Nat} {ss : List (List UInt8)} (hs : a.eval s = .slice A' n c') (hown : OwnTx w base A' n c' ss)
    {B : Nat} {A : Option Addr} {c : Nat} (y : List UInt8) (hx : a.eval x = .slice A 1 c) (hr : Rd w B 1 A 1 c [encStr y]) (hbase : base ≤ w.heap.size) (hsz : n ≤ 1000000)
    (h : ∀ A2 c2 w', OwnTx w' base A2 (n + 1) c2 (ss ++ [y]) → w.grownBy w' (Value.slice A' n c').ownBlock → Below base w w' → wpList Try.prog ops Q rest (a.put o.dst (.slice A2 (n + 1) c2)) w') : wpList Try.prog ops Q (o :: rest) a w := by
  obtain ⟨i0, hi0, hz0, hz1, hz2⟩ := info_parts info_string
  refine wpList_app w hgd s x _ ho base 9 i0 _ 1 16 Try.underlying49 hi0 hz0 hz1 hz2 rfl (by omega) A' n c' _ hs hown B A 1 c _ hx hr (encStr_one y) ?_ (by omega) (by simp only [maxLen]; omega) hbase
  intro A2 c2 w' h1 h2 _ _
  exact h A2 c2 w' (by unfold OwnTx; rw [List.map_append]; exact h1) h2 (below_of_app hown h2 hbase)
section
variable {g b N : Nat} {l : List Fi} {lost armed : Bool} {left : Int}
theorem names_nil (w : World) : Calls Try.prog 26 #[.pointer none] w fun x w' => x = .returned (.slice none 0 0) ∧ w = w' := by
  go_enter Try.func26, Try.ntmps26
  go_wp2_with fail
  go_ret
  exact ⟨rfl, rfl⟩
def namesL (l : List Fi) : List Value := l.map fun x => .string x.k
set_option maxRecDepth 100000 in
set_option maxHeartbeats 2000000 in
theorem names_any (w : World) (h : IsDk w g b N l lost armed left) (hN : N ≤ 1000000) :
    Calls Try.prog 26 #[.pointer (some ⟨g, 0, none⟩)] w fun x w' => ∃ A c, x = .returned (.slice A l.length c) ∧ w'.ownsRow w.heap.size 9 1 (.slice A l.length c) l.length (namesL l) ∧ Below w.heap.size w w' := by
  obtain ⟨⟨x0, x1, x2, x3⟩, xf⟩ := at4 h.at_
  obtain ⟨D, hown, hrep⟩ := h.mp
  have hbl := hown.lt
  have hsize : Maps.size D ≤ 1000000 := Nat.le_trans hown.size_le hN
  clear h
  go_enter Try.func26, Try.ntmps26
  go_wp2_with (first
    | (at_range; refine wpList_range_own _ rfl _ 88 rfl 9 94 keyed6 Try.underlying88 _ b N _ rfl hown ?_; intro w0 hrg0 hg0 hs0)
    | go_in)
  go_frame
  go_loopw [3] (fun v wr => ∃ (left : Lit → Bool) (cnt : Nat) (ss : List (List UInt8)) (A1 : Option Addr) (c1 : Nat), v = .slice A1 ss.length c1 ∧ wr.ranges Try.prog 9 fiR b w.heap.size N D left cnt ∧ ss.length + cnt ≤ Maps.size D ∧
      OwnTx wr w.heap.size A1 ss.length c1 ss ∧ Collected D left ss ∧ Below w.heap.size w wr) (fun _ wr => wr.rangeLeft b w.heap.size)
  case atStart =>
    exact ⟨_, _, [], none, 0, rfl, hrg0, by simp, World.ownsRow_nil _ _ _ _, Collected.start D, (Below.refl _ _).grown hg0 (Nat.le_refl _) (fun j hj => by cases hj)⟩
  case round =>
    clear hrg0 hg0 hs0
    obtain ⟨left, cnt, ss, A1, c1, rfl, hrg, hcs, hrow, hC, hnx⟩ := hrel
    go_wp2_with (first
      | (at_next; refine wpList_next_ranges _ rfl _ rfl 9 keyed6 fiR encStr Fi.val (fun key kl hk => by obtain ⟨x, hx, _⟩ := Maps.keyOf_str Try.underlying9 hk; exact ⟨x, hx⟩) (fun v y hv => fiR_some hv) b w.heap.size N _ _ _ rfl hrg ?_ ?_)
      | go_in)
    · intro hc0 hl0
      have hperm := hC.perm hown keyed6 Try.underlying9 hl0
      have hso := hrep.sorted hown hperm
      have hlen : ss.length = l.length := by
        have := congrArg List.length hso
        rw [List.length_mergeSort, List.length_map] at this
        exact this
      have hss : ss.length ≤ 1000000 := by omega
      have hrow0 : OwnTx wr w.heap.size A1 ss.length c1 ss := hrow
      unfold OwnTx at hrow
      rcases hrow.2 with ⟨hnil, h0⟩ | ⟨gr, cap, cur, e, hbase, hb, h1, h2, h3, h4⟩
      · injection hnil with e1 e2 e3
        have hl0' : l = [] := List.eq_nil_of_length_eq_zero (by omega)
        subst hl0'
        rw [hlen, e1, e3] at *
        have HS := sort_none none 0 wr
        have HB := Lib.hid hnx
        clear hrow hrow0 hC hrg hnx hso hperm
        simp only [List.length_nil] at *
        go_wp2_with (((with_reducible refine calls_id ?_); refine HS.mono ?_; rintro z w2 ⟨rfl, rfl⟩))
        go_ret
        exact ⟨none, 0, rfl, World.ownsRow_nil _ _ _ _, HB.out⟩
      · injection e with e1 e2 e3
        subst e1 e3
        have hH : Holds encStr wr gr 0 ss.toArray := holds_of_block hb (by simpa using h4)
        have hgl : gr < wr.heap.size := (Array.getElem?_eq_some_iff.1 hb).1
        have HS := sort_strings gr 0 c1 ss wr hH hgl (by omega)
        have HB := Lib.hid hnx
        have HL := Lib.hid hlen
        have HSO := Lib.hid hso
        have HBB := Lib.hid hb
        clear hrow hrow0 hC hrg hnx hso hperm hlen hH
        go_wp2_with (((with_reducible refine calls_id ?_); refine HS.mono ?_; rintro z w2 ⟨rfl, nn, os, rfl⟩))
        go_ret
        refine ⟨some ⟨gr, 0, none⟩, c1, by rw [← HL.out]; rfl, ?_, HB.out.grown (grownBy_sorted _) HB.out.size (fun j hj => by cases hj; exact hbase)⟩
        have hfin := ownsRow_sorted (n := nn) (os := os) (ts := ss.mergeSort fun x y => decide (x ≤ y)) (by simp) hbase HBB.out h1 h2 h3
        have hmap : ((ss.mergeSort fun x y => decide (x ≤ y)).map encStr) = namesL l := by
          have e := HSO.out
          unfold leB at e
          rw [e, List.map_map]
          unfold namesL
          refine List.map_congr_left fun x _ => ?_
          simp only [Function.comp, encStr]
          rw [show (⟨x.k.toList.toArray⟩ : ByteArray) = x.k from ba_ext (by rw [Lib.toList_data])]
        rw [hmap, HL.out] at hfin
        exact hfin
    · intro x c kl yd yp w2 cnt2 hkey hlk hv hat hrg2 hlt hg2 hs2 hen
      obtain ⟨x', ex, rfl, _⟩ := Maps.keyOf_str Try.underlying9 hkey
      obtain rfl : x = x' := encStr_inj ex
      have hrow2 := hrow.kept hg2 (Or.inr (row_ne_iter hrow hrg).symm)
      have hnx2 := hnx.grown hg2 hnx.size (fun j hj => by cases hj; exact Nat.le_refl _)
      have hz2 : w.heap.size ≤ w2.heap.size := hnx2.size
      clear hs2
      have hbn := (one_at w2 9 [encStr x]).2
      have HN := Lib.hid (Rd.lit (w := w2) (t := 9) (n := 1) (cs := [encStr x]) rfl (by simp [maxLen]) (by omega : 0 < 1))
      have HO := Lib.hid (show OwnTx (World.alloc w2 (.cells [encStr x].toArray 9)) w.heap.size A1 ss.length c1 ss from own_below hrow2 hbn)
      have HBN := Lib.hid (chain hnx2 hbn)
      have hz3 := Nat.le_trans hz2 hbn.size
      have hrg3 := hrg2.kept (grown_below hbn none) (by simp) (by simp)
      have hR2 := Lib.hid hrow2
      have HR3 := Lib.hid hrg3
      have HC := Lib.hid (hC.step hlk hat)
      have hssl : ss.length ≤ 1000000 := by omega
      clear hbn hrow2 hrg3 hnx2
      go_wp2_with (first
        | (at_builtin; refine app_tx rfl (.tmp 16) (.tmp 18) rfl rfl HO.out x rfl HN.out hz3 hssl ?_; intro A3 c3 w4 hW4 hG4 hB4)
        | go_in)
      have hrg4 := HR3.out.kept hG4 (row_ne_low (show World.ownsRow _ _ _ _ _ _ _ from HO.out) (by omega)) (row_ne_iter (show World.ownsRow _ _ _ _ _ _ _ from HO.out) HR3.out)
      have hfin := HBN.out.trans hB4
      go_roundw
      case rel => exact ⟨_, cnt2, ss ++ [x], A3, c3, by rw [List.length_append]; rfl, hrg4, by rw [List.length_append, List.length_singleton]; omega, by rw [List.length_append]; exact hW4, HC.out, hfin⟩
      case measure => rw [hrg4.left_eq, hrg.left_eq]; exact hlt
end
end Go.Proofs.Ytmoijbknjadeeaa
