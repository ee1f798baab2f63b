
/- The law KvNil: the Go function returns true, whatever is asked. -/
import Derived.Test.YtcpkaolfafeojaaKvAwake
namespace Go.Proofs.Ytcpkaolfafeojaa
set_option linter.unusedVariables false
set_option linter.unusedSimpArgs false
open Go.RowKit
theorem field_code (a b c d : Value) (w : World) : (Instr.field 49 (.agg #[a, b, c, d]) 0).run Try.prog w = .ok a w := by
  simp [Instr.field, run_underlying Try.underlying49, asAgg, part, Try.isAgg46, go_sem]
theorem rev_nil (w : World) : Calls Try.prog 39 #[.pointer none] w fun r w' => r = .returned (.int .i64 0) ∧ w = w' := by
  go_enter Try.func39, Try.ntmps39
  go_wp2_with fail
  go_ret
  exact ⟨rfl, rfl⟩
theorem len_nil (w : World) : Calls Try.prog 48 #[.pointer none] w fun r w' => r = .returned (.int .i64 0) ∧ w = w' := by
  go_enter Try.func48, Try.ntmps48
  go_wp2_with fail
  go_ret
  exact ⟨rfl, rfl⟩
theorem begin_nil (a : ByteArray) (w : World) : Calls Try.prog 72 #[.pointer none, .string a] w fun r w' => r = .returned (.slice none 0 0) ∧ w = w' := by
  go_enter Try.func72, Try.ntmps72
  go_wp2_with fail
  go_ret
  exact ⟨rfl, rfl⟩
theorem all_nil (w : World) : Calls Try.prog 46 #[.pointer none] w fun r w' => r = .returned (.slice none 0 0) ∧ w = w' := by
  have H := Lib.hid (begin_nil ⟨#[]⟩ w)
  go_enter Try.func46, Try.ntmps46
  go_wp2_with (((with_reducible refine calls_id ?_); refine H.out.mono ?_; rintro r w2 ⟨rfl, rfl⟩))
  go_ret
  exact ⟨rfl, rfl⟩
theorem apply_nil (k v : ByteArray) (r : Int) (eg : Bool) (w : World) : Calls Try.prog 49 #[.pointer none, .agg #[.string k, .string v, .int .i64 r, .bool eg]] w fun x w' => x = .returned (.int .i64 2) ∧ Below w.heap.size w w' := by
  go_enter Try.func49, Try.ntmps49
  go_wp2_with fail
  go_ret
  exact ⟨rfl, (Below.refl _ _).alloc (Nat.le_refl _) _⟩
set_option maxRecDepth 100000 in
set_option maxHeartbeats 4000000 in
theorem plan_nil (o : Ask) (w : World) : Calls Try.prog 47 #[.pointer none, o.v] w fun x w' => x = .returned (.tuple #[.agg #[.int .i64 2, .int .i64 0, .string ⟨#[]⟩, .slice none 0 0], .agg #[.string ⟨#[]⟩, .string ⟨#[]⟩, .int .i64 0, .bool false], .bool false]) ∧ Below w.heap.size w w' := by
  obtain ⟨ki, k, v, r, i, j⟩ := o
  unfold Ask.v Ask.cells
  simp only
  obtain ⟨h0, h1, h2, hb⟩ := three_at w 37 [.int .i64 ki, .string k, .string v, .int .i64 r, .string i, .int .i64 j] 49 [.int .i64 0, .int .i64 0, .string ⟨#[]⟩, .slice none 0 0] 60 [.string ⟨#[]⟩, .string ⟨#[]⟩, .int .i64 0, .bool false]
  go_enter Try.func47, Try.ntmps47
  go_upto_region 1 with fail
  generalize World.alloc (World.alloc (World.alloc w _) _) _ = w1 at *
  obtain ⟨⟨u0, u1, u2, u3⟩, v0, v1, v2, v3⟩ := at4 h1
  obtain ⟨⟨p0, p1, p2, p3⟩, q0, q1, q2, q3⟩ := at4 h2
  go_wp2_with fail
  obtain ⟨hm1, hG1⟩ := At.many [(0, .int .i64 2), (1, .int .i64 0), (2, .string ⟨#[]⟩), (3, .slice none 0 0)] h1
  have h2' := h2.only hG1 (by omega)
  obtain ⟨hm2, hG2⟩ := At.many [(0, .string ⟨#[]⟩), (1, .string ⟨#[]⟩), (2, .int .i64 0), (3, .bool false)] h2'
  have hm1' := hm1.only hG2 (by omega)
  have hb' := (hb.trans ((Below.refl w.heap.size _).grown hG1 hb.size (by intro i hi; injection hi with hi; omega))).trans ((Below.refl w.heap.size _).grown hG2 (Nat.le_trans hb.size hG1.size) (by intro i hi; injection hi with hi; omega))
  dsimp only [setMany, setL, List.set] at hm1' hm2 hb'
  clear u0 u1 u2 u3 v0 v1 v2 v3 p0 p1 p2 p3 q0 q1 q2 q3 hG1 hG2 hm1 h1 h2 h2' hb
  generalize World.setCell _ _ _ = w5 at *
  obtain ⟨⟨u0, u1, u2, u3⟩, _⟩ := at4 hm1'
  obtain ⟨⟨p0, p1, p2, p3⟩, _⟩ := at4 hm2
  exact bodyPost_ret (v := .tuple #[.agg #[.int .i64 2, .int .i64 0, .string ⟨#[]⟩, .slice none 0 0], .agg #[.string ⟨#[]⟩, .string ⟨#[]⟩, .int .i64 0, .bool false], .bool false]) (by simp [results, Try.results47, go_sem, u0, u1, u2, u3, p0, p1, p2, p3]) rfl ⟨rfl, hb'⟩
set_option maxRecDepth 100000 in
set_option maxHeartbeats 4000000 in
theorem do_nil (o : Ask) (w : World) : Calls Try.prog 38 #[.pointer none, o.v] w fun x w' => x = .returned (.agg #[.int .i64 2, .int .i64 0, .string ⟨#[]⟩, .slice none 0 0]) ∧ Below w.heap.size w w' := by
  have HPL := Lib.hid (fun w => plan_nil o w)
  obtain ⟨ki, k, v, r, i, j⟩ := o
  unfold Ask.v Ask.cells at *
  simp only at HPL ⊢
  obtain ⟨h0, h1, hb⟩ := two_at w 37 [.int .i64 ki, .string k, .string v, .int .i64 r, .string i, .int .i64 j] 49 [.int .i64 0, .int .i64 0, .string ⟨#[]⟩, .slice none 0 0]
  go_enter Try.func38, Try.ntmps38
  go_upto_region 1 with fail
  generalize World.alloc (World.alloc w _) _ = w1 at *
  obtain ⟨⟨x0, x1, x2, x3, x4, x5⟩, xf⟩ := at6 h0
  go_upto_region 2 with (((with_reducible refine calls_id ?_); refine (HPL.out w1).mono ?_; rintro y w2 ⟨rfl, hb2⟩))
  obtain ⟨h5, h6, hb3⟩ := two_at w2 49 [.int .i64 2, .int .i64 0, .string ⟨#[]⟩, .slice none 0 0] 60 [.string ⟨#[]⟩, .string ⟨#[]⟩, .int .i64 0, .bool false]
  replace h1 := (h1.below hb2).below hb3
  replace hb := chain (chain hb hb2) hb3
  clear hb2 hb3 x0 x1 x2 x3 x4 x5 xf h0
  generalize World.alloc (World.alloc w2 _) _ = w3 at *
  generalize w2.heap.size = g5 at *
  obtain ⟨⟨y0, y1, y2, y3⟩, yf⟩ := at4 h5
  obtain ⟨⟨u0, u1, u2, u3⟩, v0, v1, v2, v3⟩ := at4 h1
  have HH1 := Lib.hid h1
  have HB := Lib.hid hb
  clear h1 hb h5 h6
  go_wp2_with fail
  obtain ⟨hm1, hG1⟩ := At.many [(0, .int .i64 2), (1, .int .i64 0), (2, .string ⟨#[]⟩), (3, .slice none 0 0)] HH1.out
  have hb5 := HB.out.trans ((Below.refl w.heap.size _).grown hG1 HB.out.size (by intro i hi; injection hi with hi; omega))
  dsimp only [setMany, setL, List.set] at hm1 hb5
  clear y0 y1 y2 y3 yf u0 u1 u2 u3 v0 v1 v2 v3 hG1
  generalize World.setCell _ _ _ = w5 at *
  obtain ⟨⟨u0, u1, u2, u3⟩, _⟩ := at4 hm1
  exact bodyPost_ret (v := .agg #[.int .i64 2, .int .i64 0, .string ⟨#[]⟩, .slice none 0 0]) (by simp [results, Try.results38, go_sem, u0, u1, u2, u3]) rfl ⟨rfl, hb5⟩
set_option maxRecDepth 100000 in
set_option maxHeartbeats 4000000 in
theorem kvNil_walk {o : Ask} (w : World) : Calls Try.prog 11 #[o.v] w fun r w' => r = .returned (.bool true) ∧ Below w.heap.size w w' := by
  have HOU := Lib.hid (fun w => ours9_any o w)
  have HPL := Lib.hid (fun w => plan_nil (cutA o) w)
  have HDO := Lib.hid (fun w => do_nil (cutA o) w)
  have HAP := Lib.hid (fun w => apply_nil ⟨#[]⟩ ⟨#[]⟩ 0 false w)
  generalize cutA o = p at *
  obtain ⟨ki, k, v, r, i, j⟩ := o
  obtain ⟨pki, pk, pv, pr, pi, pj⟩ := p
  unfold Ask.v Ask.cells at *
  simp only at HOU HPL HDO ⊢
  obtain ⟨h0, hb⟩ := one_at w 40 [.int .i64 ki, .string k, .string v, .int .i64 r, .string i, .int .i64 j]
  go_enter Try.func11, Try.ntmps11
  go_upto_region 1 with fail
  generalize World.alloc w _ = w1 at *
  obtain ⟨⟨x0, x1, x2, x3, x4, x5⟩, xf⟩ := at6 h0
  go_upto_region 3 with (((with_reducible refine calls_id ?_); refine (HOU.out w1).mono ?_; rintro y w2 ⟨rfl, hb2⟩))
  obtain ⟨h4, h5, hb3⟩ := two_at w2 37 [.int .i64 pki, .string pk, .string pv, .int .i64 pr, .string pi, .int .i64 pj] 40 [.int .i64 pki, .string pk, .string pv, .int .i64 pr, .string pi, .int .i64 pj]
  replace hb := chain (chain hb hb2) hb3
  clear hb2 hb3 x0 x1 x2 x3 x4 x5 xf h0 HOU h5
  generalize World.alloc (World.alloc w2 _) _ = w3 at *
  generalize w2.heap.size = g4 at *
  obtain ⟨⟨x0, x1, x2, x3, x4, x5⟩, xf⟩ := at6 h4
  go_upto_region 4 with (((with_reducible refine calls_id ?_); refine (HPL.out w3).mono ?_; rintro y w4 ⟨rfl, hb4⟩))
  obtain ⟨h6, h7, hb5⟩ := two_at w4 49 [.int .i64 2, .int .i64 0, .string ⟨#[]⟩, .slice none 0 0] 60 [.string ⟨#[]⟩, .string ⟨#[]⟩, .int .i64 0, .bool false]
  replace h4 := (h4.step hb4).step hb5
  have HB := Lib.hid (chain (chain hb hb4) hb5)
  clear hb4 hb5 x0 x1 x2 x3 x4 x5 xf HPL hb
  generalize World.alloc (World.alloc w4 _) _ = w5 at *
  generalize w4.heap.size = g6 at *
  obtain ⟨⟨x0, x1, x2, x3, x4, x5⟩, xf⟩ := at6 h4
  obtain ⟨⟨y0, y1, y2, y3⟩, yf⟩ := at4 h6
  have hfc := field_code
  go_wp2_with (first
    | (((with_reducible refine calls_id ?_); refine (HDO.out _).mono ?_; rintro r w6 ⟨rfl, hb6⟩); replace HB := Lib.hid (chain HB.out hb6))
    | (((with_reducible refine calls_id ?_); refine (HAP.out _).mono ?_; rintro r w7 ⟨rfl, hb7⟩); replace HB := Lib.hid (chain HB.out hb7))
    | (((with_reducible refine calls_id ?_); refine (rev_nil _).mono ?_; rintro r w8 ⟨rfl, rfl⟩))
    | (((with_reducible refine calls_id ?_); refine (len_nil _).mono ?_; rintro r w9 ⟨rfl, rfl⟩))
    | (((with_reducible refine calls_id ?_); refine (all_nil _).mono ?_; rintro r w10 ⟨rfl, rfl⟩))
    | (((with_reducible refine calls_id ?_); refine (awake9_any _).mono ?_; rintro r w11 ⟨rfl, hb11⟩); replace HB := Lib.hid (chain HB.out hb11)))
  go_ret
  exact ⟨rfl, HB.out⟩
end Go.Proofs.Ytcpkaolfafeojaa
