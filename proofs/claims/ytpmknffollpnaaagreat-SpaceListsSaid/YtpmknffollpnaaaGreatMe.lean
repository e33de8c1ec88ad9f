/- SpaceLists: for every input the law returns true, and each argument reads behind the call as it read before. No condition. -/
import Derived.Test.YtpmknffollpnaaaGreatRows
import Derived.Test.YtpmknffollpnaaaGreatMd
set_option linter.unusedVariables false
set_option linter.unusedSimpArgs false
namespace Go.Proofs.YtpmknffollpnaaaGreat
open Go Go.VS Go.ChangeShapes Go.WideShapes Go.ChangeAt Go.RowKit
theorem Try.own : ownKnob Tryz.prog.godebug = none := by kernel_rfl
theorem maxLen_le {n : Nat} (h : n ≤ reachBytes) : n ≤ 281474976710656 := by unfold reachBytes at h; omega
set_option maxRecDepth 100000 in
theorem cells_slice {e : TypeId} {w : World} {r : Reach} {b : Nat} {t : TypeId} {v : Value} (ht : Tryz.prog.underlying t = some (.slice e)) (h : Value.okWide Tryz.prog w r b t v) : v.cells.toList = [v] := by
  obtain ⟨a, l, c, rfl⟩ := okWide_slice ht h
  simp [Value.cells]
set_option maxRecDepth 100000 in
theorem spaceLists_lifted (os : Os) (started : os.Started) (H : Type) (enc : TypeId × Value → H) :
    ReturnsInHanded {} Tryz.checked os 4 .any (Rows.spaceListsSpec.pre6 enc Tryz.prog Tryz.f4 Rows.spaceListsRow.domain false) (Rows.spaceListsSpec.post enc Tryz.prog Tryz.f4 false true false false) := by
  refine returnsInHanded_of_change_sized (C := Tryz.checked) Try.own started (by kernel_rfl) Tryz.func4
    (ChangeSpec.witness6 (enc := enc) (C := Tryz.checked) false ⟨#[], #[.slice none 0 0, .slice none 0 0, .int .i64 0, .int .i64 0], []⟩ 8 (by kernel_rfl) (by kernel_rfl) (by kernel_rfl) (by kernel_rfl)) ?_
  intro W base args ds gs before hval0 hW _ hsz0 _
  have hsz : (DataW.weightsEach Tryz.prog ([26, 26, 3, 3] ++ []) (ds ++ gs)).all (· ≤ reachBytes) = true := hsz0
  clear hsz0
  have hval : ∀ (j : Nat) t v, Tryz.f4.params[j]? = some t → args[j]? = some v → Value.okWide Tryz.prog W .any base t v := hval0
  have hW' := hW
  obtain ⟨p, q, hA0, hV, hpq, _, _⟩ := hW
  have hA : DataW.TrodAll enc Tryz.prog W 0 (fun _ => true) true [26, 26, 3, 3] args.toList ds p := hA0
  obtain ⟨hgs, _⟩ := trodVars_none hV
  subst hgs
  obtain ⟨v0, vs0, d0, ds0, a0, b0, hv0, rfl, rfl, t0, hA1⟩ := trodAll_cons hA
  obtain ⟨v1, vs1, d1, ds1, a1, b1, rfl, rfl, rfl, t1, hA2⟩ := trodAll_cons hA1
  obtain ⟨v2, vs2, d2, ds2, a2, b2, rfl, rfl, rfl, t2, hA3⟩ := trodAll_cons hA2
  obtain ⟨v3, vs3, d3, ds3, a3, b3, rfl, rfl, rfl, t3, hA4⟩ := trodAll_cons hA3
  obtain ⟨rfl, rfl, _⟩ := trodAll_nil hA4
  obtain rfl : args = #[v0, v1, v2, v3] := by
    obtain ⟨l⟩ := args
    simp at hv0
    rw [hv0]
  have hwt : ∀ (j : Nat) (t : TypeId) (d : DataW H), [26, 26, 3, 3][j]? = some t → [d0, d1, d2, d3][j]? = some d → ∀ n ∈ d.weights Tryz.prog t, n ≤ reachBytes := fun j t d ht hd n hn => by
    have := List.all_eq_true.1 hsz n (DataW.weights_mem_each (j := j) (by simpa using ht) (by simpa using hd) n hn)
    simpa using this
  obtain ⟨a, ra, pa⟩ := arg_of rd_frs (cells_slice u26 (hval 0 26 v0 rfl rfl)) t0 (hwt 0 26 d0 rfl rfl)
  obtain ⟨b, rb, pb⟩ := arg_of rd_frs (cells_slice u26 (hval 1 26 v1 rfl rfl)) t1 (hwt 1 26 d1 rfl rfl)
  obtain ⟨n2, rfl, hd2, _, _⟩ := open_int u3 (hval 2 3 v2 rfl rfl) t2
  obtain ⟨n3, rfl, hd3, _, _⟩ := open_int u3 (hval 3 3 v3 rfl rfl) t3
  have hc := spaceLists_c a b n2 n3 st0 ⟨maxLen_le pa.1, fun f hf => maxLen_le (pa.2 f hf)⟩ ⟨maxLen_le pb.1, fun f hf => maxLen_le (pb.2 f hf)⟩
  refine (hc.2 W gh0 #[v0, v1, .int .i64 n2, .int .i64 n3] (st0_rel W) rfl (fun j hj => ?_)).mono fun e W' he => ?_
  · match j, hj with
    | 0, _ => exact ra
    | 1, _ => exact rb
    | 2, _ => exact .v _
    | 3, _ => exact .v _
  · cases e with
    | returned v =>
      obtain ⟨c, s', g', _, hstep, hR, rfl, rfl⟩ := he
      have hv := hR.v_eq
      subst hv
      exact ⟨_, rfl, post_law (ds := [d0, d1, d2, d3]) Try.kids Try.full rfl hW' (by intro t ht; have : t ∈ [26, 26, 3, 3] := ht; revert t; decide +kernel) hstep (fun _ _ _ => trodAll_mk1 (shut_bool u4 true)) rfl rfl (ok_one (by kernel_rfl) rfl (okWide_bool_mk u4 true))⟩
    | panicked ch => obtain ⟨_, _, _, _, h⟩ := he; exact h.elim
    | outgrown => exact he.elim
set_option maxRecDepth 100000 in
theorem spaceLists_holds : Rows.SpaceListsSaid :=
  OpenClaim.holds_of_wide 4 Tryz.f4 rfl rfl rfl rfl rfl rfl rfl ⟨rfl, rfl, rfl, rfl, rfl⟩ rfl rfl rfl rfl rfl (by kernel_rfl) Tryz.func4 (by kernel_rfl)
    (of_decide_eq_true (by kernel_rfl)) (by unfold Func.isWrapper; rw [if_neg (of_decide_eq_false (by kernel_rfl))]; exact ⟨rfl, rfl⟩)
    (fun os started H enc _ => spaceLists_lifted os started H enc)
#print axioms spaceLists_holds
end Go.Proofs.YtpmknffollpnaaaGreat
