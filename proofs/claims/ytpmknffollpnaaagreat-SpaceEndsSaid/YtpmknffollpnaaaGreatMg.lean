/- SpaceEnds: for every input the law returns true, and each argument reads behind the call as it read before. No condition. -/
import Derived.Test.YtpmknffollpnaaaGreatRows
import Derived.Test.YtpmknffollpnaaaGreatMf
set_option linter.unusedVariables false
set_option linter.unusedSimpArgs false
namespace Go.Proofs.YtpmknffollpnaaaGreat
open Go Go.VS Go.ChangeShapes Go.WideShapes Go.ChangeAt Go.RowKit
theorem Try.ownE : ownKnob Tryz.prog.godebug = none := by kernel_rfl
theorem maxLen_leE {n : Nat} (h : n ≤ reachBytes) : n ≤ 281474976710656 := by unfold reachBytes at h; omega
theorem okFl_of {l : List Fr} (h : okFs l) : okFl l := ⟨maxLen_leE h.1, fun f hf => maxLen_leE (h.2 f hf)⟩
set_option maxRecDepth 100000 in
theorem cells_sl {e : TypeId} {w : World} {r : Reach} {b : Nat} {t : TypeId} {v : Value} (ht : Tryz.prog.underlying t = some (.slice e)) (h : Value.okWide Tryz.prog w r b t v) : v.cells.toList = [v] := by
  obtain ⟨a, l, c, rfl⟩ := okWide_slice ht h
  simp [Value.cells]
set_option maxRecDepth 100000 in
/-- An argument that is a struct. -/
theorem arg_agg {H : Type} {enc : TypeId × Value → H} {w : World} {base : Nat} {sp : Nat → Bool} {hd : Bool} {t : TypeId} {fs : Array Field} {α : Type} {f : α → List C} {p : α → Prop} {v : Value} {d : DataW H} {ps : List MemPlace} {r : Reach} {b : Nat} (hu : Tryz.prog.underlying t = some (.struct fs))
    (h : Rd enc Tryz.prog w base sp hd t f p) (hv : Value.okWide Tryz.prog w r b t v) (hd' : DataW.Trod enc Tryz.prog w base sp hd t v d ps) (hw : ∀ n ∈ d.weights Tryz.prog t, n ≤ reachBytes) : ∃ q, VS.R w st0 gh0 (.agg (f q)) v ∧ p q := by
  obtain ⟨cs, rfl, _⟩ := okWide_struct hu hv
  obtain ⟨n, hn⟩ := hd'
  obtain ⟨q, h1, h2, h3⟩ := h _ _ _ hn hw
  have hc : (Value.agg cs).cells.toList = cs.toList := by simp [Value.cells]
  rw [hc] at h1
  have hcl : cs.toList.length = cs.size := by simp
  refine ⟨q, VR.agg (f q) cs (by omega) (fun j hj => ?_), h3⟩
  have := (h2 j hj (by rw [hc]; omega)).1
  simpa [Value.cells] using this
set_option maxRecDepth 100000 in
theorem spaceEnds_lifted (os : Os) (started : os.Started) (H : Type) (enc : TypeId × Value → H) :
    ReturnsInHanded {} Tryz.checked os 3 .any (Rows.spaceEndsSpec.pre6 enc Tryz.prog Tryz.f3 Rows.spaceEndsRow.domain false) (Rows.spaceEndsSpec.post enc Tryz.prog Tryz.f3 false true false false) := by
  refine returnsInHanded_of_change_sized (C := Tryz.checked) Try.ownE started (by kernel_rfl) Tryz.func3
    (ChangeSpec.witness6 (enc := enc) (C := Tryz.checked) false ⟨#[], #[.agg #[.slice none 0 0, .slice none 0 0, .slice none 0 0, .slice none 0 0, .int .i64 0, .int .i64 0], .slice none 0 0, .bool false, .slice none 0 0, .int .i64 0], []⟩ 8 (by kernel_rfl) (by kernel_rfl) (by kernel_rfl) (by kernel_rfl)) ?_
  intro W base args ds gs before hval0 hW _ hsz0 _
  have hsz : (DataW.weightsEach Tryz.prog ([25, 26, 4, 23, 3] ++ []) (ds ++ gs)).all (· ≤ reachBytes) = true := hsz0
  clear hsz0
  have hval : ∀ (j : Nat) t v, Tryz.f3.params[j]? = some t → args[j]? = some v → Value.okWide Tryz.prog W .any base t v := hval0
  have hW' := hW
  obtain ⟨p, q, hA0, hV, hpq, _, _⟩ := hW
  have hA : DataW.TrodAll enc Tryz.prog W 0 (fun _ => true) true [25, 26, 4, 23, 3] args.toList ds p := hA0
  obtain ⟨hgs, _⟩ := trodVars_none hV
  subst hgs
  obtain ⟨v0, vs0, d0, ds0, a0, b0, hv0, rfl, rfl, t0, hA1⟩ := trodAll_cons hA
  obtain ⟨v1, vs1, d1, ds1, a1, b1, rfl, rfl, rfl, t1, hA2⟩ := trodAll_cons hA1
  obtain ⟨v2, vs2, d2, ds2, a2, b2, rfl, rfl, rfl, t2, hA3⟩ := trodAll_cons hA2
  obtain ⟨v3, vs3, d3, ds3, a3, b3, rfl, rfl, rfl, t3, hA4⟩ := trodAll_cons hA3
  obtain ⟨v4, vs4, d4, ds4, a4, b4, rfl, rfl, rfl, t4, hA5⟩ := trodAll_cons hA4
  obtain ⟨rfl, rfl, _⟩ := trodAll_nil hA5
  obtain rfl : args = #[v0, v1, v2, v3, v4] := by
    obtain ⟨l⟩ := args
    simp at hv0
    rw [hv0]
  have hwt : ∀ (j : Nat) (t : TypeId) (d : DataW H), [25, 26, 4, 23, 3][j]? = some t → [d0, d1, d2, d3, d4][j]? = some d → ∀ n ∈ d.weights Tryz.prog t, n ≤ reachBytes := fun j t d ht hd n hn => by
    have := List.all_eq_true.1 hsz n (DataW.weights_mem_each (j := j) (by simpa using ht) (by simpa using hd) n hn)
    simpa using this
  obtain ⟨fs, hu25, _⟩ := struct_of s25
  obtain ⟨x, rx, px⟩ := arg_agg hu25 rd_sp (hval 0 25 v0 rfl rfl) t0 (hwt 0 25 d0 rfl rfl)
  obtain ⟨l, rl, pl⟩ := arg_of rd_frs (cells_sl u26 (hval 1 26 v1 rfl rfl)) t1 (hwt 1 26 d1 rfl rfl)
  obtain ⟨sh, rfl, hd2, _⟩ := open_bool u4 (hval 2 4 v2 rfl rfl) t2
  obtain ⟨us, ru, pu⟩ := arg_of rd_ints (cells_sl u23 (hval 3 23 v3 rfl rfl)) t3 (hwt 3 23 d3 rfl rfl)
  obtain ⟨n4, rfl, hd4, _, _⟩ := open_int u3 (hval 4 3 v4 rfl rfl) t4
  have hc := spaceEnds_c x l sh us n4 st0 (fun p hp => okFl_of (px.2.1 p hp).2) (okFl_of pl) (maxLen_leE pu)
  refine (hc.2 W gh0 #[v0, v1, .bool sh, v3, .int .i64 n4] (st0_rel W) rfl (fun j hj => ?_)).mono fun e W' he => ?_
  · match j, hj with
    | 0, _ => exact rx
    | 1, _ => exact rl
    | 2, _ => exact .v _
    | 3, _ => exact ru
    | 4, _ => exact .v _
  · cases e with
    | returned v =>
      obtain ⟨c, s', g', _, hstep, hR, rfl, rfl⟩ := he
      have hv := hR.v_eq
      subst hv
      exact ⟨_, rfl, post_law (ds := [d0, d1, d2, d3, d4]) Try.kids Try.full rfl hW' (by intro t ht; have : t ∈ [25, 26, 4, 23, 3] := ht; revert t; decide +kernel) hstep (fun _ _ _ => trodAll_mk1 (shut_bool u4 true)) rfl rfl (ok_one (by kernel_rfl) rfl (okWide_bool_mk u4 true))⟩
    | panicked ch => obtain ⟨_, _, _, _, h⟩ := he; exact h.elim
    | outgrown => exact he.elim
set_option maxRecDepth 100000 in
theorem spaceEnds_holds : Rows.SpaceEndsSaid :=
  OpenClaim.holds_of_wide 3 Tryz.f3 rfl rfl rfl rfl rfl rfl rfl ⟨rfl, rfl, rfl, rfl, rfl⟩ rfl rfl rfl rfl rfl (by kernel_rfl) Tryz.func3 (by kernel_rfl)
    (of_decide_eq_true (by kernel_rfl)) (by unfold Func.isWrapper; rw [if_neg (of_decide_eq_false (by kernel_rfl))]; exact ⟨rfl, rfl⟩)
    (fun os started H enc _ => spaceEnds_lifted os started H enc)
#print axioms spaceEnds_holds
end Go.Proofs.YtpmknffollpnaaaGreat
