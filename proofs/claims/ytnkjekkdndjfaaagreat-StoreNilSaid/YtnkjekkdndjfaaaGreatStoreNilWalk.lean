
/- The law StoreNil: the Go function returns true, whatever is asked. -/
import Derived.Test.YtnkjekkdndjfaaaGreatStoreF
namespace Go.Proofs.YtnkjekkdndjfaaaGreat
set_option linter.unusedVariables false
set_option linter.unusedSimpArgs false
open Go.RowKit
theorem field_c11 (a b c d : Value) (w : World) : (Instr.field 58 (.agg #[a, b, c, d]) 0).run Tryz.prog w = .ok a w := by kernel_rfl
theorem sdead_nil (w : World) : Calls Tryz.prog 25 #[.pointer none] w fun x w' => x = .returned (.bool true) ∧ w = w' := by
  go_enter Tryz.func25, Tryz.ntmps25
  go_wp2_with fail
  go_ret
  exact ⟨rfl, rfl⟩
theorem srev_nil (w : World) : Calls Tryz.prog 13 #[.pointer none] w fun x w' => x = .returned (.int .i64 0) ∧ w = w' := by
  go_enter Tryz.func13, Tryz.ntmps13
  go_wp2_with fail
  go_ret
  exact ⟨rfl, rfl⟩
theorem sall_nil (w : World) : Calls Tryz.prog 12 #[.pointer none] w fun x w' => x = .returned (.slice none 0 0) ∧ w = w' := by
  go_enter Tryz.func12, Tryz.ntmps12
  go_wp2_with fail
  go_ret
  exact ⟨rfl, rfl⟩
theorem slog_nil (w : World) : Calls Tryz.prog 24 #[.pointer none] w fun x w' => x = .returned (.int .i64 0) ∧ w = w' := by
  go_enter Tryz.func24, Tryz.ntmps24
  go_wp2_with fail
  go_ret
  exact ⟨rfl, rfl⟩
theorem scompact_nil (w : World) : Calls Tryz.prog 22 #[.pointer none] w fun x w' => x = .returned (.int .i64 2) ∧ w = w' := by
  go_enter Tryz.func22, Tryz.ntmps22
  go_wp2_with fail
  go_ret
  exact ⟨rfl, rfl⟩
theorem sdo_nil (o : Ask) (w : World) : Calls Tryz.prog 18 #[.pointer none, o.v] w fun x w' => x = .returned (.agg #[.int .i64 2, .int .i64 0, .string ⟨#[]⟩, .slice none 0 0]) ∧ Below w.heap.size w w' := by
  obtain ⟨ki, k, v, r, i, j⟩ := o
  unfold Ask.v Ask.cells
  simp only
  obtain ⟨h0, h1, hb⟩ := two_at w 49 [.int .i64 ki, .string k, .string v, .int .i64 r, .string i, .int .i64 j] 58 [.int .i64 0, .int .i64 0, .string ⟨#[]⟩, .slice none 0 0]
  go_enter Tryz.func18, Tryz.ntmps18
  go_upto_region 1 with fail
  generalize World.alloc (World.alloc w _) _ = w1 at *
  obtain ⟨⟨u0, u1, u2, u3⟩, v0, v1, v2, v3⟩ := at4 h1
  have HH1 := Lib.hid h1
  have HB := Lib.hid hb
  clear h1 hb h0
  go_wp2_with fail
  obtain ⟨hm1, hG1⟩ := At.many [(0, .int .i64 2), (1, .int .i64 0), (2, .string ⟨#[]⟩), (3, .slice none 0 0)] HH1.out
  have hb5 := HB.out.trans ((Below.refl w.heap.size _).grown hG1 HB.out.size (by intro i hi; injection hi with hi; omega))
  dsimp only [setMany, setL, List.set] at hm1 hb5
  clear u0 u1 u2 u3 v0 v1 v2 v3 hG1
  generalize World.setCell _ _ _ = w5 at *
  obtain ⟨⟨u0, u1, u2, u3⟩, _⟩ := at4 hm1
  exact bodyPost_ret (v := .agg #[.int .i64 2, .int .i64 0, .string ⟨#[]⟩, .slice none 0 0]) (by simp [results, Tryz.results18, go_sem, u0, u1, u2, u3]) rfl ⟨rfl, hb5⟩
set_option maxRecDepth 100000 in
set_option maxHeartbeats 4000000 in
theorem storeNil_walk {o : Ask} (w : World) : Calls Tryz.prog 6 #[o.v] w fun r w' => r = .returned (.bool true) ∧ Below w.heap.size w w' := by
  have HOU := Lib.hid (fun w => ours9_any o w)
  have HDO := Lib.hid (fun w => sdo_nil (cutA o) w)
  generalize cutA o = p at *
  obtain ⟨ki, k, v, r, i, j⟩ := o
  obtain ⟨pki, pk, pv, pr, pi, pj⟩ := p
  unfold Ask.v Ask.cells at *
  simp only at HOU HDO ⊢
  obtain ⟨h0, hb⟩ := one_at w 50 [.int .i64 ki, .string k, .string v, .int .i64 r, .string i, .int .i64 j]
  go_enter Tryz.func6, Tryz.ntmps6
  go_upto_region 1 with fail
  generalize World.alloc w _ = w1 at *
  obtain ⟨⟨x0, x1, x2, x3, x4, x5⟩, xf⟩ := at6 h0
  go_upto_region 3 with (((with_reducible refine calls_id ?_); refine (HOU.out w1).mono ?_; rintro y w2 ⟨rfl, hb2⟩))
  obtain ⟨h4, h5, hb3⟩ := two_at w2 49 [.int .i64 pki, .string pk, .string pv, .int .i64 pr, .string pi, .int .i64 pj] 50 [.int .i64 pki, .string pk, .string pv, .int .i64 pr, .string pi, .int .i64 pj]
  have HB := Lib.hid (chain (chain hb hb2) hb3)
  clear hb hb2 hb3 x0 x1 x2 x3 x4 x5 xf h0 HOU h5
  generalize World.alloc (World.alloc w2 _) _ = w3 at *
  generalize w2.heap.size = g4 at *
  obtain ⟨⟨x0, x1, x2, x3, x4, x5⟩, xf⟩ := at6 h4
  clear h4
  go_upto_region 4 with (((with_reducible refine ((sopen_nil 1 w3)).mono ?_); rintro z w4 ⟨rfl, rfl⟩))
  have hfc := field_c11
  go_wp2_with (first
    | (((with_reducible refine calls_id ?_); refine (HDO.out _).mono ?_; rintro r w6 ⟨rfl, hb6⟩); replace HB := Lib.hid (chain HB.out hb6))
    | (((with_reducible refine ((scompact_nil _)).mono ?_); rintro r w7 ⟨rfl, rfl⟩))
    | (((with_reducible refine ((srev_nil _)).mono ?_); rintro r w8 ⟨rfl, rfl⟩))
    | (((with_reducible refine ((sall_nil _)).mono ?_); rintro r w9 ⟨rfl, rfl⟩))
    | (((with_reducible refine ((sdead_nil _)).mono ?_); rintro r w10 ⟨rfl, rfl⟩))
    | (((with_reducible refine ((slog_nil _)).mono ?_); rintro r w11 ⟨rfl, rfl⟩))
    | (((with_reducible refine ((awake11 _)).mono ?_); rintro r w12 ⟨rfl, hb12⟩)))
  go_ret
  exact ⟨rfl, chain HB.out hb12⟩
end Go.Proofs.YtnkjekkdndjfaaaGreat
