/- SpaceBegins: for every input the law returns true, and each argument reads behind the call as it read before. No condition. -/
import Derived.Test.YtpmknffollpnaaaGreatMh
import Derived.Test.YtpmknffollpnaaaGreatMj
set_option linter.unusedVariables false
set_option linter.unusedSimpArgs false
namespace Go.Proofs.YtpmknffollpnaaaGreat
open Go Go.VS Go.ChangeShapes Go.WideShapes Go.ChangeAt Go.RowKit
set_option maxRecDepth 100000 in
theorem spaceBegins_lifted (os : Os) (started : os.Started) (H : Type) (enc : TypeId × Value → H) :
    ReturnsInHanded {} Tryz.checked os 6 .any (Rows.spaceBeginsSpec.pre6 enc Tryz.prog Tryz.f6 Rows.spaceBeginsRow.domain false) (Rows.spaceBeginsSpec.post enc Tryz.prog Tryz.f6 false true false false) := by
  refine returnsInHanded_of_change_sized (C := Tryz.checked) Try.ownE started (by kernel_rfl) Tryz.func6
    (ChangeSpec.witness6 (enc := enc) (C := Tryz.checked) false ⟨#[], #[.agg #[.slice none 0 0, .slice none 0 0, .slice none 0 0, .slice none 0 0, .int .i64 0, .int .i64 0], .int .i64 0, .bool false, .slice none 0 0, .int .i64 0], []⟩ 8 (by kernel_rfl) (by kernel_rfl) (by kernel_rfl) (by kernel_rfl)) ?_
  intro W base args ds gs before hval0 hW _ hsz0 _
  have hsz : (DataW.weightsEach Tryz.prog ([25, 3, 4, 26, 3] ++ []) (ds ++ gs)).all (· ≤ reachBytes) = true := hsz0
  clear hsz0
  have hval : ∀ (j : Nat) t v, Tryz.f6.params[j]? = some t → args[j]? = some v → Value.okWide Tryz.prog W .any base t v := hval0
  have hW' := hW
  obtain ⟨p, q, hA0, hV, hpq, _, _⟩ := hW
  have hA : DataW.TrodAll enc Tryz.prog W 0 (fun _ => true) true [25, 3, 4, 26, 3] args.toList ds p := hA0
  obtain ⟨hgs, _⟩ := trodVars_none hV
  subst hgs
  obtain ⟨v0, vs0, d0, ds0, a0, b0, hv0, rfl, rfl, t0, hA1⟩ := trodAll_cons hA
  obtain ⟨v1, vs1, d1, ds1, a1, b1, rfl, rfl, rfl, t1, hA2⟩ := trodAll_cons hA1
  obtain ⟨v2, vs2, d2, ds2, a2, b2, rfl, rfl, rfl, t2, hA3⟩ := trodAll_cons hA2
  obtain ⟨v3, vs3, d3, ds3, a3, b3, rfl, rfl, rfl, t3, hA4⟩ := trodAll_cons hA3
  obtain ⟨v4, vs4, d4, ds4, a4, b4, rfl, rfl, rfl, t4, hA5⟩ := trodAll_cons hA4
  obtain ⟨rfl, rfl, _⟩ := trodAll_nil hA5
  obtain rfl : args = #[v0, v1, v2, v3, v4] := by
    obtain ⟨l⟩ := args
    simp at hv0
    rw [hv0]
  have hwt : ∀ (j : Nat) (t : TypeId) (d : DataW H), [25, 3, 4, 26, 3][j]? = some t → [d0, d1, d2, d3, d4][j]? = some d → ∀ n ∈ d.weights Tryz.prog t, n ≤ reachBytes := fun j t d ht hd n hn => by
    have := List.all_eq_true.1 hsz n (DataW.weights_mem_each (j := j) (by simpa using ht) (by simpa using hd) n hn)
    simpa using this
  obtain ⟨fs, hu25, _⟩ := struct_of s25
  obtain ⟨x, rx, px⟩ := arg_agg hu25 rd_sp (hval 0 25 v0 rfl rfl) t0 (hwt 0 25 d0 rfl rfl)
  obtain ⟨n1, rfl, hd1, _, _⟩ := open_int u3 (hval 1 3 v1 rfl rfl) t1
  obtain ⟨fl, rfl, hd2, _⟩ := open_bool u4 (hval 2 4 v2 rfl rfl) t2
  obtain ⟨l, rl, pl⟩ := arg_of rd_frs (cells_sl u26 (hval 3 26 v3 rfl rfl)) t3 (hwt 3 26 d3 rfl rfl)
  obtain ⟨n4, rfl, hd4, _, _⟩ := open_int u3 (hval 4 3 v4 rfl rfl) t4
  have hc := spaceBegins_c x n1 fl l n4 st0 (fun p hp => okFl_of (px.2.1 p hp).2) (okFl_of pl)
  refine (hc.2 W gh0 #[v0, .int .i64 n1, .bool fl, v3, .int .i64 n4] (st0_rel W) rfl (fun j hj => ?_)).mono fun e W' he => ?_
  · match j, hj with
    | 0, _ => exact rx
    | 1, _ => exact .v _
    | 2, _ => exact .v _
    | 3, _ => exact rl
    | 4, _ => exact .v _
  · cases e with
    | returned v =>
      obtain ⟨c, s', g', _, hstep, hR, rfl, rfl⟩ := he
      have hv := hR.v_eq
      subst hv
      exact ⟨_, rfl, post_law (ds := [d0, d1, d2, d3, d4]) Try.kids Try.full rfl hW' (by intro t ht; have : t ∈ [25, 3, 4, 26, 3] := ht; revert t; decide +kernel) hstep (fun _ _ _ => trodAll_mk1 (shut_bool u4 true)) rfl rfl (ok_one (by kernel_rfl) rfl (okWide_bool_mk u4 true))⟩
    | panicked ch => obtain ⟨_, _, _, _, h⟩ := he; exact h.elim
    | outgrown => exact he.elim
set_option maxRecDepth 100000 in
theorem spaceBegins_holds : Rows.SpaceBeginsSaid :=
  OpenClaim.holds_of_wide 6 Tryz.f6 rfl rfl rfl rfl rfl rfl rfl ⟨rfl, rfl, rfl, rfl, rfl⟩ rfl rfl rfl rfl rfl (by kernel_rfl) Tryz.func6 (by kernel_rfl)
    (of_decide_eq_true (by kernel_rfl)) (by unfold Func.isWrapper; rw [if_neg (of_decide_eq_false (by kernel_rfl))]; exact ⟨rfl, rfl⟩)
    (fun os started H enc _ => spaceBegins_lifted os started H enc)
#print axioms spaceBegins_holds
end Go.Proofs.YtpmknffollpnaaaGreat
