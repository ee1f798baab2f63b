
/- Chapter 7: what is opened behind a crash. -/
import Derived.Test.YtmoijbknjadeeaaWalAwake
namespace Go.Proofs.Ytmoijbknjadeeaa
set_option linter.unusedVariables false
set_option linter.unusedSimpArgs false
open Go.RowKit
/-- a disk that has these records, all sure -/
def Sdk (ws : List (List UInt8)) (left : Int) : PD := if ws = [] then pd0 false true left else pd1 wF (framesL ws) ((framesL ws).length : Nat) false true left
theorem Sdk.nil (left : Int) : Sdk [] left = pd0 false true left := if_pos rfl
theorem Sdk.some {ws : List (List UInt8)} (left : Int) (h : ws ≠ []) : Sdk ws left = pd1 wF (framesL ws) ((framesL ws).length : Nat) false true left := if_neg h
theorem Sdk.ok {ws : List (List UInt8)} {left : Int} (hl : 0 ≤ left ∧ left < 9223372036854775808) : (Sdk ws left).Ok (framesL ws).length 1 := by
  by_cases h : ws = []
  · subst h; rw [Sdk.nil]; exact (ok_pd0 hl).mono (Nat.zero_le _) (by omega)
  · rw [Sdk.some left h]; exact ok_pd1 wF_hi ⟨by omega, Int.le_refl _⟩ hl
/-- what is behind a lost one -/
def Fdk (ws : List (List UInt8)) (p : List UInt8) (left : Int) : PD := pd1 wF (framesL (ws ++ [p])) ((framesL ws).length : Nat) true true left
theorem Sdk.add (ws : List (List UInt8)) (left : Int) (p : List UInt8) : ∃ left', ((laO (Sdk ws left) wF p).code = 0 ∧ (Sdk ws left).out (laO (Sdk ws left) wF p) = Sdk (ws ++ [p]) left') ∨ ((laO (Sdk ws left) wF p).code = 12 ∧ (Sdk ws left).out (laO (Sdk ws left) wF p) = Fdk ws p left') := by
  have hne : ws ++ [p] ≠ [] := by simp
  by_cases h : ws = []
  · subst h
    rw [Sdk.nil]
    obtain ⟨l', h1⟩ := la_pd0 (armed := true) (left := left) wF_lo p
    refine ⟨l', ?_⟩
    rw [Sdk.some l' hne]
    unfold Fdk
    rw [framesL_snoc]
    rcases h1 with ⟨h1, _, h2⟩ | ⟨h1, _, h2⟩
    · exact .inl ⟨h1, h2⟩
    · exact .inr ⟨h1, h2⟩
  · rw [Sdk.some left h]
    obtain ⟨l', h1⟩ := la_pd1 (b := framesL ws) (s := ((framesL ws).length : Nat)) (armed := true) (left := left) wF_lo p
    refine ⟨l', ?_⟩
    rw [Sdk.some l' hne]
    unfold Fdk
    rw [framesL_snoc]
    rcases h1 with ⟨h1, _, h2⟩ | ⟨h1, _, h2⟩
    · exact .inl ⟨h1, h2⟩
    · exact .inr ⟨h1, h2⟩
theorem Sdk.left (ws : List (List UInt8)) (left : Int) : (Sdk ws left).left = left := by unfold Sdk; split <;> rfl
theorem Sdk.okD {w : World} {gd bd N : Nat} {ws : List (List UInt8)} {left : Int} (h : IsD w gd bd N (Sdk ws left)) : (Sdk ws left).Ok (framesL ws).length 1 := by
  have := h.left0
  rw [Sdk.left] at this
  exact Sdk.ok this
/-- a row that is appended to is no disk -/
theorem IsD.row {w w' : World} {gd bd N : Nat} {d : PD} {base s n : Nat} {e : TypeId} {v : Value} {xs : List Value} (h : IsD w gd bd N d) (hown : w.ownsRow base e s v n xs) (he : e ≠ 90) (he2 : e ≠ 5) (hG : w.grownBy w' v.ownBlock) : IsD w' gd bd N d := by
  obtain ⟨l, h1, h2⟩ := h
  have hm := grown_mod hG
  have hno : ∀ i o, w.heap[i]? = some o → v.ownBlock = some i → ¬ (i = gd ∨ i = bd) := fun i o ho hi => h2.free ho (own_isT hown hi ho).2 he
  exact ⟨l, h1, hm.at h2.at_ (fun e => hno _ _ h2.at_ e (.inl rfl)), h2.mp.mod hm (fun _ _ e => hno bd _ (Array.getElem?_eq_getElem h2.lt.2) e (.inr rfl)), fun x hx => ⟨own_mod (show World.ownsRow _ _ _ _ _ _ _ from (h2.own x hx).1) hm (fun i o ho _ hit e => he2 (isT_uniq (own_isT hown e ho).2 hit)), (h2.own x hx).2⟩, h2.ne, h2.left0⟩
theorem IsW.row {w w' : World} {gl gd bd N : Nat} {nm : ByteArray} {q : WL} {base s n : Nat} {e : TypeId} {v : Value} {xs : List Value} (h : IsW w gl gd bd N nm q) (hown : w.ownsRow base e s v n xs) (he : e ≠ 90) (he2 : e ≠ 5) (he3 : e ≠ 101) (hG : w.grownBy w' v.ownBlock) : IsW w' gl gd bd N nm q :=
  ⟨At.own h.lg hown hG (fun e => he3 e.symm), h.dk.row hown he he2 hG⟩
theorem IsW.step {w w' : World} {gl gd bd N : Nat} {nm : ByteArray} {q : WL} (h : IsW w gl gd bd N nm q) (hb : Below w.heap.size w w') : IsW w' gl gd bd N nm q := ⟨At.step h.lg hb, h.dk.step hb⟩
theorem IsW.own {w w' : World} {gl gd bd N : Nat} {nm : ByteArray} {q : WL} {base s n : Nat} {e : TypeId} {v : Value} {xs : List Value} (h : IsW w gl gd bd N nm q) (hown : w.ownsRow base e s v n xs) (he : e ≠ 90) (he3 : e ≠ 101) (hm : Mod (fun i _ => i = gl ∨ i = gd ∨ i = bd) w w') : w'.ownsRow base e s v n xs :=
  own_mod hown hm (fun i o ho _ hit e => by
    rcases e with e | e
    · exact isT_at h.lg ho hit he3 e
    · exact h.dk.free ho hit he e)
theorem torn_ge : ∀ (ws rs : List (List UInt8)) (cut : Nat), (framesL ws).length ≤ cut → ws.length ≤ (tornN (ws ++ rs) cut).1
  | [], rs, cut, h => Nat.zero_le _
  | p :: ws, rs, cut, h => by
    have e1 : framesL (p :: ws) = frameL p ++ framesL ws := rfl
    rw [e1, List.length_append, frameL_length] at h
    rw [List.cons_append]
    unfold tornN
    rw [if_pos (by omega)]
    have := torn_ge ws rs (cut - (8 + p.length)) (by omega)
    simp only [List.length_cons]
    omega
section
variable {gd bd N : Nat} {ws : List (List UInt8)} {left : Int} {ks : List Nat}
theorem reopen_all (hp : ∀ p ∈ ws, 1 ≤ p.length ∧ p.length ≤ 1048576) (hb : (framesL ws).length ≤ 1048576) (w : World) (h : IsD w gd bd N ((Sdk ws left).crash ks)) (hN : N < 900000) :
    Calls Try.prog 31 #[.pointer (some ⟨gd, 0, none⟩), .string wF] w fun x w' => ∃ gl A c ys, x = .returned (.tuple #[.pointer (some ⟨gl, 0, none⟩), .slice A ys.length c, .int .i64 0]) ∧ RecO w' w.heap.size A ys.length c ys ∧ Mod (fun i _ => i = gd ∨ i = bd) w w' ∧ ys.map Bsl.l = ws := by
  by_cases he : ws = []
  · subst he
    rw [Sdk.nil, cr_pd0] at h
    refine (wopen_pd0 (by omega) w h hN).mono ?_
    rintro x w' ⟨gl, rfl, _, _, hb⟩
    exact ⟨gl, none, 0, [], rfl, RecO.nil, (Mod.refl _ w).below hb, rfl⟩
  · rw [Sdk.some left he] at h
    obtain ⟨m, h1, h2, h3⟩ := cr_pd1 (nm := wF) (b := framesL ws) (s := ((framesL ws).length : Nat)) (lost := false) (armed := true) (left := left) ks ⟨by omega, Int.le_refl _⟩
    obtain rfl : m = (framesL ws).length := by omega
    rw [h3, List.take_length] at h
    refine (wopen_pd1 (all_frames ws hp) ⟨by omega, Int.le_refl _⟩ hb w h hN).mono ?_
    rintro x w' ⟨gl, A, c, ys, hys, rfl, _, _, hrs, hm, _⟩
    exact ⟨gl, A, c, ys, rfl, hrs, hm, hys.symm⟩
theorem reopen_lost {p : List UInt8} (hp : ∀ q ∈ ws ++ [p], 1 ≤ q.length ∧ q.length ≤ 1048576) (hb : (framesL (ws ++ [p])).length ≤ 1048576) (w : World) (h : IsD w gd bd N ((Fdk ws p left).crash ks)) (hN : N < 900000) :
    Calls Try.prog 31 #[.pointer (some ⟨gd, 0, none⟩), .string wF] w fun x w' => ∃ gl A c ys, x = .returned (.tuple #[.pointer (some ⟨gl, 0, none⟩), .slice A ys.length c, .int .i64 0]) ∧ RecO w' w.heap.size A ys.length c ys ∧ Mod (fun i _ => i = gd ∨ i = bd) w w' ∧ (ys.map Bsl.l = ws ∨ ys.map Bsl.l = ws ++ [p]) := by
  unfold Fdk at h
  have hle : (framesL ws).length ≤ (framesL (ws ++ [p])).length := by rw [framesL_snoc, List.length_append]; omega
  obtain ⟨m, h1, h2, h3⟩ := cr_pd1 (nm := wF) (b := framesL (ws ++ [p])) (s := ((framesL ws).length : Nat)) (lost := true) (armed := true) (left := left) ks ⟨by omega, by omega⟩
  rw [h3] at h
  have hml : ((framesL (ws ++ [p])).take m).length = m := by rw [List.length_take]; omega
  refine (wopen_pd1 (all_torn (ws ++ [p]) m hp h2) ⟨by omega, by omega⟩ (by omega) w h hN).mono ?_
  rintro x w' ⟨gl, A, c, ys, hys, rfl, _, _, hrs, hm, _⟩
  refine ⟨gl, A, c, ys, rfl, hrs, hm, ?_⟩
  rw [← hys]
  have g1 := torn_ge ws [p] m (by omega)
  have g2 := (tornN_le (ws ++ [p]) m).1
  rw [List.length_append, List.length_singleton] at g2
  by_cases hq : (tornN (ws ++ [p]) m).1 = ws.length
  · rw [hq]; exact .inl (List.take_left' rfl)
  · exact .inr (List.take_of_length_le (by rw [List.length_append, List.length_singleton]; omega))
end
end Go.Proofs.Ytmoijbknjadeeaa
