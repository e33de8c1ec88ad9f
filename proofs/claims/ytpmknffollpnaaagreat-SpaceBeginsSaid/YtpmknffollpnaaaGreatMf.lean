/- Rules for regions that make a variable, and for structs compared; contracts of the functions that SpaceEnds reaches; spaces as they came in. No condition. -/
import Derived.Test.YtpmknffollpnaaaGreatMb
import Derived.Test.YtpmknffollpnaaaGreatMd
import Derived.Laws.StructEq
import Derived.OpenShut
set_option linter.unusedVariables false
set_option linter.unusedSimpArgs false
namespace Go.VS
open Go
def addO (s : St) (b : Nat) (cs : List C) : St := { s with objs := (b, cs) :: s.objs }
section
variable {P : Program} {w w1 w' : World} {s s1 s' : St} {g g1 g' : Gh} {E E1 : Env} {N : NR} {a : Act} {Q Q' : Ends}
theorem look_addO {b k : Nat} {cs x : List C} (hb : Fresh b s) (h : look s.objs k = some x) : look (addO s b cs).objs k = some x := by
  unfold addO
  simp only [look]
  split
  · rename_i e; subst e; rw [hb.1] at h; cases h
  · exact h
theorem evRd_addO {op : Op} {f : Nat → C} {c : C} {b : Nat} {cs : List C} (hb : Fresh b s) (h : evRd P op f s = some c) : evRd P op f (addO s b cs) = some c := by
  cases op with
  | load t x =>
    simp only [evRd] at h ⊢
    cases ht : tagg P t with
    | none => rw [ht] at h; cases h
    | some ag =>
      rw [ht] at h
      simp only at h ⊢
      split at h
      · split at h
        · rename_i cs' hl
          rw [look_addO hb hl]
          exact h
        · cases h
      · exact h
      · exact h
      · cases h
  | makeFunc fn x y => cases fn <;> exact h
  | slice t x lo hi mx => cases mx <;> exact h
  | typeAssert x t u ok => cases ok <;> exact h
  | call c =>
    obtain ⟨callee, args, tys⟩ := c
    cases callee with
    | builtin b => cases b <;> exact h
    | _ => exact h
  | _ => exact h
theorem Q1.addO {o : Ro} {c : C} {b : Nat} {cs : List C} (h : Q1 P N s o E c) (hb : Fresh b s) : Q1 P N (VS.addO s b cs) o E c := by
  induction h with
  | rd h => exact .rd (evRd_addO hb h)
  | call hf h => exact .call hf h
  | on hk h ih => exact .on hk ih
  | off hk => exact .off hk
theorem alloc_op {t d : Nat} {ty : TypeId} {cs : List C} {ops : Array Oper} {o : Oper} {i : Nat} {K : Act → World → Prop} {Q2 : Exit → Act → World → Prop} (hz : tzero P t = some cs) (hd : d < N) (hc : conv ops o = ⟨some d, .alloc t, ty, .no⟩)
    (hr : Rel w s g E N a) (hi : ops[i]? = some o) (hK : ∀ a' w' g' b, Fresh b s → Rel w' (VS.addO s b cs) g' (E.set (some d) (.v (.pointer (some ⟨b, 0, none⟩)))) N a' → Step w s g w' (VS.addO s b cs) g' → K a' w') : wpOpIn (rf N.r) 0 P ops Q2 i K a w := by
  have h1 := WL_alloc (P := P) (N := N) (E := E) (s := s) (ty := ty) (rest := []) (Q := fun x E' s' => x = .normal ∧ ∃ b, Fresh b s ∧ E' = E.set (some d) (.v (.pointer (some ⟨b, 0, none⟩))) ∧ s' = VS.addO s b cs) hz hd (fun b hb => WL_nil ⟨rfl, b, hb, rfl, rfl⟩) ops [o] (by simp [hc]) w g a hr
  have hn : ∀ a' w', wpListIn (rf N.r) 0 P ops (Post w s g N fun x E' s' => x = .normal ∧ ∃ b, Fresh b s ∧ E' = E.set (some d) (.v (.pointer (some ⟨b, 0, none⟩))) ∧ s' = VS.addO s b cs) [] a' w' → K a' w' := by
    rintro a' w' ⟨E', s', g', q1, q2, _, b, hb, rfl, rfl⟩
    exact hK a' w' g' b hb q1 q2
  unfold wpOpIn
  simp only [hi]
  unfold wpListIn at h1
  split
  · rename_i hw
    rw [if_pos hw] at h1
    refine Oper.wp_mono3 hn (fun ch a w hp => ?_) (fun hp => (LetsOut_Post hp).elim) h1
    obtain ⟨_, _, _, _, _, h3, _⟩ := hp
    cases h3
  · rename_i hw
    rw [if_neg hw] at h1
    exact ⟨fun _ _ => rf_fn _ _, hn _ _ h1.2⟩
def lroA (ops : Array Oper) (i : Nat) : Ro := match ops[i]? with
  | some o => conv ops o
  | none => ⟨none, .panic (.const undef), 0, .bad⟩
def drawOkA (ops : Array Oper) (p q d : Nat) : Bool := drawOk ops p && decide (q < p) && ((List.range p).all fun i => i == q || match ops[i]? with
  | some o => (looks (conv ops o)).all fun t => t != d
  | none => true)
structure PartA (P : Program) (N : NR) (s : St) (ops : Array Oper) (p q d : Nat) (cs : List C) (E0 Ef : Env) (w0 : World) (g0 : Gh) (S : Array Bool) (a : Act) (w : World) : Prop where
  tail : ∀ m, p ≤ m → m < ops.size → ¬ isL S m
  env : ∃ E g sx b, ((¬ isL S q ∧ sx = s) ∨ (isL S q ∧ Fresh b s ∧ sx = addO s b cs ∧ E.f d = .v (.pointer (some ⟨b, 0, none⟩)))) ∧ Rel w sx g E N a ∧ Step w0 s g0 w sx g ∧ E.ds = E0.ds ∧
    ∀ t, t ≠ d → ((∃ i, i < p ∧ isL S i ∧ dstOf ops i = some t) → E.f t = Ef.f t) ∧ ((¬ ∃ i, i < p ∧ isL S i ∧ dstOf ops i = some t) → E.f t = E0.f t)
theorem draw_coreA {ops : Array Oper} {p q d t0 : Nat} {cs : List C} {ty : TypeId} (hok : drawOkA ops p q d = true) (hdN : d < N) (hz : tzero P t0 = some cs) (hqo : lroA ops q = ⟨some d, .alloc t0, ty, .no⟩) {E0 Ef : Env} (hds : Ef.ds = E0.ds)
    (hq : ∀ i o, i < p → i ≠ q → ops[i]? = some o → ∃ c Ei, Q1 P N s (conv ops o) Ei c ∧ dOk N o.dst = true ∧ Ei.ds = E0.ds ∧ (∀ d, o.dst = some d → Ef.f d = c) ∧
      ∀ t ∈ looks (conv ops o), ((∃ j, j < p ∧ dstOf ops j = some t) → Ei.f t = Ef.f t) ∧ ((¬ ∃ j, j < p ∧ dstOf ops j = some t) → Ei.f t = E0.f t))
    (hEf : ∀ t, (¬ ∃ j, j < p ∧ dstOf ops j = some t) → Ef.f t = E0.f t) {w0 : World} {g0 : Gh} (Q2 : Exit → Act → World → Prop)
    (hfin : ∀ w g a b, Fresh b s → Rel w (addO s b cs) g (Ef.set (some d) (.v (.pointer (some ⟨b, 0, none⟩)))) N a → Step w0 s g0 w (addO s b cs) g → wpListIn (rf N.r) 0 P ops Q2 (ops.toList.drop p) a w) :
    ∀ (fuel : Nat) (S : Array Bool) (a : Act) (w : World), S.size = ops.size → unl S = fuel → Closed ops S →
      ((PartA P N s ops p q d cs E0 Ef w0 g0 S a w ∧ ∃ i, i < p ∧ ¬ isL S i) ∨ ∃ m, p ≤ m ∧ m ≤ ops.size ∧ (∀ i, i < ops.size → (isL S i ↔ i < m)) ∧ wpListIn (rf N.r) 0 P ops Q2 (ops.toList.drop m) a w) →
      wpAnyIn (rf N.r) 0 P .any ops Q2 fuel S a w := by
  simp only [drawOkA, drawOk, Bool.and_eq_true, decide_eq_true_eq, List.all_eq_true, List.mem_range, Bool.or_eq_true, beq_iff_eq, Option.isNone_iff_eq_none, bne_iff_ne, ne_eq] at hok
  obtain ⟨⟨⟨⟨⟨⟨hp, hdown⟩, hdist⟩, hdata⟩, htail⟩, hqp⟩, hlk⟩ := hok
  have hqsz : q < ops.size := by omega
  have hqget : ops[q]? = some ops[q] := Array.getElem?_eq_getElem hqsz
  have hqd : dstOf ops q = some d := by
    have h1 := congrArg Ro.dst hqo
    simp only [lroA, hqget] at h1
    simp only [dstOf, hqget, Option.bind_some]
    exact h1
  have hready : ∀ S : Array Bool, S.size = ops.size → ∀ i, i ∈ Region.ready .any ops S → i < ops.size ∧ ¬ isL S i ∧ ∀ o e, ops[i]? = some o → e ∈ o.after → Region.binds .any e = true → isL S e.on := by
    intro S hsz i hi
    obtain ⟨h1, o, ho, h2⟩ := mem_ready.1 hi
    have hlt : i < ops.size := (Array.getElem?_eq_some_iff.1 ho).1
    refine ⟨hlt, fun h => ?_, fun o' e ho' he hb => ?_⟩
    · unfold isL at h
      simp [hsz, hlt] at h h1
      rw [h1] at h
      cases h
    · rw [ho] at ho'
      cases ho'
      exact h2 e he hb
  have hprog : ∀ S : Array Bool, S.size = ops.size → (∃ i, i < ops.size ∧ ¬ isL S i) → Region.ready .any ops S ≠ [] := by
    intro S hsz hex hnil
    obtain ⟨n, hn⟩ := hex
    obtain ⟨m, ⟨hm1, hm2⟩, hm3⟩ := least_of (p := fun i => i < ops.size ∧ ¬ isL S i) n hn
    have : m ∈ Region.ready .any ops S := by
      rw [mem_ready]
      have hget : ops[m]? = some ops[m] := Array.getElem?_eq_getElem hm1
      refine ⟨?_, ops[m], hget, fun e he hb => ?_⟩
      · unfold isL at hm2
        simp [hsz, hm1] at hm2 ⊢
        exact hm2
      · have hd := hdown
        unfold down at hd
        simp only [List.all_eq_true, List.mem_range] at hd
        have := hd m hm1
        rw [hget] at this
        simp only at this
        have h1 := Array.all_eq_true_iff_forall_mem.1 this e he
        simp only [hb, Bool.not_true, Bool.false_or, decide_eq_true_eq] at h1
        rcases Classical.em (isL S e.on) with h2 | h2
        · exact h2
        · exact absurd ⟨by omega, h2⟩ (hm3 e.on h1)
    rw [hnil] at this
    cases this
  have htl : ∀ S : Array Bool, Closed ops S → ∀ i, i < ops.size → p ≤ i → (∀ o e, ops[i]? = some o → e ∈ o.after → Region.binds .any e = true → isL S e.on) → ∀ j, j < i → isL S j := by
    intro S hc i hi hpi hpre j hj
    have := htail i hi
    rcases this with h | h
    · omega
    · exact reach_listed hc ops.size i j hpre (h j hj)
  have hclosed : ∀ S : Array Bool, S.size = ops.size → Closed ops S → ∀ i, i < ops.size → (∀ o e, ops[i]? = some o → e ∈ o.after → Region.binds .any e = true → isL S e.on) → Closed ops (S.setIfInBounds i true) := by
    intro S hsz hc i hi hpre j o e ho hj he hb
    rw [isL_set (by omega)] at hj ⊢
    rcases hj with rfl | hj
    · exact .inr (hpre o e ho he hb)
    · exact .inr (hc j o e ho hj he hb)
  intro fuel
  induction fuel with
  | zero =>
    intro S a w hsz hunl hc h
    have hall := fun i (hi : i < ops.size) => all_listed hunl i (by omega)
    refine ⟨?_, ?_⟩
    · cases hr : Region.ready .any ops S with
      | nil => rfl
      | cons x xs =>
        obtain ⟨h1, h2, _⟩ := hready S hsz x (by rw [hr]; simp)
        exact absurd (hall x h1) h2
    · rcases h with ⟨_, i, hi, hni⟩ | ⟨m, h1, h2, h3, h4⟩
      · exact absurd (hall i (by omega)) hni
      · have hm : m = ops.size := by
          rcases Nat.lt_or_ge m ops.size with h | h
          · have := (h3 m h).1 (hall m h); omega
          · omega
        rw [hm, List.drop_eq_nil_of_le (by simp)] at h4
        exact h4
  | succ fuel ih =>
    intro S a w hsz hunl hc h
    have hex : ∃ i, i < ops.size ∧ ¬ isL S i := by
      rcases Classical.em (∃ i, i < ops.size ∧ ¬ isL S i) with h' | h'
      · exact h'
      · exfalso
        have hall : ∀ b ∈ S.toList, b = true := fun b hb => by
          obtain ⟨i, hi, rfl⟩ := List.getElem_of_mem hb
          have hi' : i < ops.size := by simp at hi; omega
          rcases Classical.em (isL S i) with h1 | h1
          · unfold isL at h1
            simp [hsz, hi'] at h1
            simpa using h1
          · exact absurd ⟨i, hi', h1⟩ h'
        have : unl S = 0 := by
          unfold unl
          rw [List.length_eq_zero_iff, List.filter_eq_nil_iff]
          intro b hb
          simp [hall b hb]
        omega
    refine ⟨fun hnil => absurd hnil (hprog S hsz hex), fun i hi => ?_⟩
    obtain ⟨hi1, hi2, hi3⟩ := hready S hsz i hi
    have hsz' : (S.setIfInBounds i true).size = ops.size := by simpa using hsz
    have hunl' : unl (S.setIfInBounds i true) = fuel := by have := unl_set S i (by omega) hi2; omega
    have hc' := hclosed S hsz hc i hi1 hi3
    rcases h with ⟨hA, j0, hj0, hj0n⟩ | ⟨m, h1, h2, h3, h4⟩
    · have hip : i < p := by
        rcases Nat.lt_or_ge i p with h | h
        · exact h
        · exact absurd (htl S hc i hi1 h hi3 j0 (by omega)) hj0n
      have hget : ops[i]? = some ops[i] := Array.getElem?_eq_getElem hi1
      obtain ⟨E, g, sx, b, hsx, hr, hst, hEds, hEf2⟩ := hA.env
      have hdst : dstOf ops i = (ops[i]).dst := by simp [dstOf, hget]
      have htail' : ∀ m, p ≤ m → m < ops.size → ¬ isL (S.setIfInBounds i true) m := fun m hm hm2 hh => by
        rcases (isL_set (by omega)).1 hh with rfl | hh
        · omega
        · exact hA.tail m hm hm2 hh
      have hend : ∀ (a' : Act) (w' : World) (g' : Gh) (E' : Env) (sx' : St) (b' : Nat), ((¬ isL (S.setIfInBounds i true) q ∧ sx' = s) ∨ (isL (S.setIfInBounds i true) q ∧ Fresh b' s ∧ sx' = addO s b' cs ∧ E'.f d = .v (.pointer (some ⟨b', 0, none⟩)))) →
          Rel w' sx' g' E' N a' → Step w0 s g0 w' sx' g' → E'.ds = E0.ds →
          (∀ t, t ≠ d → ((∃ j, j < p ∧ isL (S.setIfInBounds i true) j ∧ dstOf ops j = some t) → E'.f t = Ef.f t) ∧ ((¬ ∃ j, j < p ∧ isL (S.setIfInBounds i true) j ∧ dstOf ops j = some t) → E'.f t = E0.f t)) →
          wpAnyIn (rf N.r) 0 P .any ops Q2 fuel (S.setIfInBounds i true) a' w' := by
        intro a' w' g' E' sx' b' hsx' hr' hst2 hds' hE'
        refine ih _ a' w' hsz' hunl' hc' ?_
        rcases Classical.em (∃ k, k < p ∧ ¬ isL (S.setIfInBounds i true) k) with hk | hk
        · exact .inl ⟨⟨htail', E', g', sx', b', hsx', hr', hst2, hds', hE'⟩, hk⟩
        · have hfull : ∀ k, k < p → isL (S.setIfInBounds i true) k := fun k hkp => by
            rcases Classical.em (isL (S.setIfInBounds i true) k) with h | h
            · exact h
            · exact absurd ⟨k, hkp, h⟩ hk
          rcases hsx' with ⟨h, _⟩ | ⟨_, hfr, rfl, hEd⟩
          · exact absurd (hfull q hqp) h
          refine .inr ⟨p, Nat.le_refl _, hp, fun k hk2 => ⟨fun hh => ?_, hfull k⟩, hfin w' g' a' b' hfr ?_ hst2⟩
          · rcases Nat.lt_or_ge k p with h | h
            · exact h
            · exact absurd hh (htail' k h hk2)
          · have heq : E' = Ef.set (some d) (.v (.pointer (some ⟨b', 0, none⟩))) := by
              have hf : E'.f = (Ef.set (some d) (.v (.pointer (some ⟨b', 0, none⟩)))).f := funext fun t => by
                rw [set_f]
                split
                · rename_i ht; rw [ht]; exact hEd
                · rename_i ht
                  rcases Classical.em (∃ j, j < p ∧ dstOf ops j = some t) with ⟨j, hj, hjt⟩ | hno
                  · exact (hE' t ht).1 ⟨j, hj, hfull j hj, hjt⟩
                  · rw [(hE' t ht).2 fun ⟨j, hj, _, hjt⟩ => hno ⟨j, hj, hjt⟩, hEf t hno]
              have hd2 : E'.ds = (Ef.set (some d) (.v (.pointer (some ⟨b', 0, none⟩)))).ds := by rw [hds', set_ds, hds]
              generalize Ef.set (some d) (.v (.pointer (some ⟨b', 0, none⟩))) = E2 at *
              cases E'
              cases E2
              simp only at hf hd2
              rw [hf, hd2]
            rw [heq] at hr'
            exact hr'
      by_cases hiq : i = q
      · subst hiq
        rcases hsx with ⟨_, rfl⟩ | ⟨h, _⟩
        · have hco : conv ops ops[i] = ⟨some d, .alloc t0, ty, .no⟩ := by
            have h1 := hqo
            simp only [lroA, hqget] at h1
            exact h1
          refine alloc_op hz hdN hco hr hget fun a' w' g' b' hfr hr' hst' => hend a' w' g' _ _ b' (.inr ⟨(isL_set (by omega)).2 (.inl rfl), hfr, rfl, by rw [set_f, if_pos rfl]⟩) hr' (hst.trans hst') (by rw [set_ds]; exact hEds) fun t ht => ?_
          rw [set_f, if_neg ht]
          refine ⟨fun ⟨j, hj, hjl, hjt⟩ => (hEf2 t ht).1 ?_, fun h => (hEf2 t ht).2 fun ⟨j, hj, hjl, hjt⟩ => h ⟨j, hj, (isL_set (by omega)).2 (.inr hjl), hjt⟩⟩
          rcases (isL_set (by omega)).1 hjl with rfl | hjl
          · rw [hqd] at hjt; exact absurd (Option.some.inj hjt).symm ht
          · exact ⟨j, hj, hjl, hjt⟩
        · exact absurd h hi2
      · obtain ⟨c, Ei, q1, q2, q0, q3, q4⟩ := hq i ops[i] hip hiq hget
        have hnd : ∀ t ∈ looks (conv ops ops[i]), t ≠ d := fun t ht e => by
          subst e
          rcases hlk i hip with h | h
          · exact hiq h
          · rw [hget] at h
            have := List.all_eq_true.1 h t ht
            simp at this
        have hagree : ∀ t ∈ looks (conv ops ops[i]), Ei.f t = E.f t := fun t ht => by
          rcases Classical.em (∃ j, j < p ∧ dstOf ops j = some t) with ⟨j, hj, hjt⟩ | hno
          · rw [(q4 t ht).1 ⟨j, hj, hjt⟩]
            have h5 := hdata i hip
            rw [hget] at h5
            simp only [List.all_eq_true, List.mem_range, Bool.or_eq_true, Bool.and_eq_true, decide_eq_true_eq, bne_iff_ne, ne_eq] at h5
            rcases h5 t ht j hj with h6 | ⟨h6, h7⟩
            · exact absurd hjt h6
            · obtain ⟨o, e, ho, he, hb, rfl⟩ := edge_spec h7
              exact ((hEf2 t (hnd t ht)).1 ⟨e.on, hj, hi3 o e ho he hb, hjt⟩).symm
          · rw [(q4 t ht).2 hno]
            exact ((hEf2 t (hnd t ht)).2 (fun ⟨j, hj, _, hjt⟩ => hno ⟨j, hj, hjt⟩)).symm
        have hdne : (ops[i]).dst ≠ some d := fun e => by
          rcases hdist i hip q hqp with (h1 | h1) | h1
          · exact hiq h1
          · rw [hdst, e] at h1; cases h1
          · exact h1 (by rw [hdst, e, hqd])
        have q1' : Q1 P N sx (conv ops ops[i]) E c := by
          rcases hsx with ⟨_, rfl⟩ | ⟨_, hfr, rfl, _⟩
          · exact q1.congr hagree
          · exact (q1.congr hagree).addO hfr
        refine q1'.op rfl q2 hr hget fun a' w' g' hr' hst' => hend a' w' g' _ sx b ?_ hr' (hst.trans hst') (by rw [set_ds, hEds]) fun t htd => ?_
        · rcases hsx with ⟨h, hs⟩ | ⟨h1, h2, h3, h4⟩
          · refine .inl ⟨fun h' => ?_, hs⟩
            rcases (isL_set (by omega)).1 h' with h' | h'
            · exact hiq h'.symm
            · exact h h'
          · refine .inr ⟨(isL_set (by omega)).2 (.inr h1), h2, h3, ?_⟩
            show (E.set (ops[i]).dst c).f d = _
            cases hd' : (ops[i]).dst with
            | none => exact h4
            | some d2 => rw [set_f, if_neg]; exact h4; intro e; exact hdne (by rw [hd', e])
        · have hcd : (conv ops ops[i]).dst = (ops[i]).dst := rfl
          rw [hcd]
          rcases Classical.em ((ops[i]).dst = some t) with hd | hd
          · rw [hd]
            refine ⟨fun _ => ?_, fun h => absurd ⟨i, hip, (isL_set (by omega)).2 (.inl rfl), by rw [hdst, hd]⟩ h⟩
            simp only [set_f, if_true]
            exact (q3 t hd).symm
          · have hset : (E.set (ops[i]).dst c).f t = E.f t := by
              cases hd' : (ops[i]).dst with
              | none => rfl
              | some d => rw [set_f, if_neg]; intro e; exact hd (by rw [hd', e])
            rw [hset]
            refine ⟨fun ⟨j, hj, hjl, hjt⟩ => (hEf2 t htd).1 ?_, fun h => (hEf2 t htd).2 fun ⟨j, hj, hjl, hjt⟩ => h ⟨j, hj, (isL_set (by omega)).2 (.inr hjl), hjt⟩⟩
            rcases (isL_set (by omega)).1 hjl with rfl | hjl
            · exact absurd (by rw [← hdst]; exact hjt) hd
            · exact ⟨j, hj, hjl, hjt⟩
    · have him : i = m := by
        have hge : ¬ i < m := fun h => hi2 ((h3 i hi1).2 h)
        rcases Nat.lt_or_ge m i with h | h
        · have := (h3 m (by omega)).1 (htl S hc i hi1 (by omega) hi3 m h); omega
        · omega
      subst him
      have hget : ops[i]? = some ops[i] := Array.getElem?_eq_getElem hi1
      have hdrop : ops.toList.drop i = ops[i] :: ops.toList.drop (i + 1) := by
        rw [List.drop_eq_getElem_cons (by simpa using hi1)]
        simp
      rw [hdrop] at h4
      have hnext : ∀ a' w', wpListIn (rf N.r) 0 P ops Q2 (ops.toList.drop (i + 1)) a' w' → wpAnyIn (rf N.r) 0 P .any ops Q2 fuel (S.setIfInBounds i true) a' w' := fun a' w' h5 =>
        ih _ a' w' hsz' hunl' hc' (.inr ⟨i + 1, by omega, hi1, fun k hk => by
          rw [isL_set (by omega)]
          constructor
          · rintro (rfl | h)
            · omega
            · have := (h3 k hk).1 h; omega
          · intro h
            rcases Nat.lt_or_ge k i with h' | h'
            · exact .inr ((h3 k hk).2 h')
            · exact .inl (by omega), h5⟩)
      unfold wpOpIn
      simp only [hget]
      unfold wpListIn at h4
      split
      · rename_i hw
        rw [if_pos hw] at h4
        exact Oper.wpIn_mono hnext h4
      · rename_i hw
        rw [if_neg hw] at h4
        exact ⟨fun _ _ => rf_fn _ _, hnext _ _ h4.2⟩

inductive TrA (P : Program) (N : NR) (s : St) (q : Nat) : Nat → List Ro → Env → Env → Prop
  | nil (k : Nat) (E : Env) : TrA P N s q k [] E E
  | quiet {k o l E E' c} (hk : k ≠ q) (h : Q1 P N s o E c) (hd : dOk N o.dst = true) (t : TrA P N s q (k + 1) l (E.set o.dst c) E') : TrA P N s q k (o :: l) E E'
  | skip {k o l E E'} (hk : k = q) (t : TrA P N s q (k + 1) l (E.set o.dst .junk) E') : TrA P N s q k (o :: l) E E'
theorem TrA.fn {q k : Nat} {l : List Ro} {E Ef : Env} (h : TrA P N s q k l E Ef) : ∃ (Es : Nat → Env) (cs : Nat → C), Es 0 = E ∧ Es l.length = Ef ∧
    ∀ i (hi : i < l.length), Es (i + 1) = (Es i).set (l[i]).dst (cs i) ∧ (k + i ≠ q → Q1 P N s (l[i]) (Es i) (cs i) ∧ dOk N (l[i]).dst = true) := by
  induction h with
  | nil k E => exact ⟨fun _ => E, fun _ => .junk, rfl, rfl, fun i hi => absurd hi (by simp)⟩
  | @quiet k o l E E' c hk h hd t ih =>
    obtain ⟨Es, cs, h0, h1, h2⟩ := ih
    refine ⟨fun i => match i with | 0 => E | i + 1 => Es i, fun i => match i with | 0 => c | i + 1 => cs i, rfl, h1, fun i hi => ?_⟩
    cases i with
    | zero => exact ⟨h0, fun _ => ⟨h, hd⟩⟩
    | succ i =>
      have := h2 i (by simpa using hi)
      exact ⟨this.1, fun hne => this.2 (by omega)⟩
  | @skip k o l E E' hk t ih =>
    obtain ⟨Es, cs, h0, h1, h2⟩ := ih
    refine ⟨fun i => match i with | 0 => E | i + 1 => Es i, fun i => match i with | 0 => .junk | i + 1 => cs i, rfl, h1, fun i hi => ?_⟩
    cases i with
    | zero => exact ⟨h0, fun hne => absurd hk hne⟩
    | succ i =>
      have := h2 i (by simpa using hi)
      exact ⟨this.1, fun hne => this.2 (by omega)⟩
/-- A REGION WHOSE ORDER IS OPEN: 'p' operations that only read, in whatever order, but for one that makes a variable. -/
theorem W_drawA {id : Nat} {ops : Array Oper} {Ef : Env} {d t0 : Nat} {cs : List C} {ty : TypeId} (p q : Nat) (hm : P.follows .mixedOrders = true) (hok : drawOkA ops p q d = true) (hdN : d < N) (hz : tzero P t0 = some cs) (hqo : lroA ops q = ⟨some d, .alloc t0, ty, .no⟩) (htr : TrA P N s q 0 ((ops.toList.take p).map (conv ops)) E Ef)
    (hk : ∀ b, Fresh b s → WL P N ((ops.toList.drop p).map (conv ops)) (Ef.set (some d) (.v (.pointer (some ⟨b, 0, none⟩)))) (addO s b cs) Q) : W P N (.region id ops true) E s Q := by
  intro w g a hr
  refine wpIn_region_any hm ?_
  have hr' : Rel w.drew s g E N a := hr.drew
  have hok' := hok
  simp only [drawOkA, drawOk, Bool.and_eq_true, decide_eq_true_eq, List.all_eq_true, List.mem_range, Bool.or_eq_true, beq_iff_eq, Option.isNone_iff_eq_none, bne_iff_ne, ne_eq] at hok'
  obtain ⟨⟨⟨⟨⟨⟨hp, hdown⟩, hdist⟩, hdata⟩, htail⟩, hqp⟩, hlk⟩ := hok'
  obtain ⟨Es, cs2, h0, hlast, hstep⟩ := htr.fn
  have hlen : ((ops.toList.take p).map (conv ops)).length = p := by simp; omega
  rw [hlen] at hlast
  have hL : ∀ i (hi : i < p), ((ops.toList.take p).map (conv ops))[i]'(by omega) = conv ops (ops[i]'(by omega)) := fun i hi => by simp
  have hstep' : ∀ i (hi : i < p), Es (i + 1) = (Es i).set (ops[i]'(by omega)).dst (cs2 i) ∧ (i ≠ q → Q1 P N s (conv ops (ops[i]'(by omega))) (Es i) (cs2 i) ∧ dOk N (ops[i]'(by omega)).dst = true) := fun i hi => by
    have := hstep i (by omega)
    rw [hL i hi, Nat.zero_add] at this
    exact this
  have hdst : ∀ i (hi : i < p), dstOf ops i = (ops[i]'(by omega)).dst := fun i hi => by simp [dstOf, Array.getElem?_eq_getElem (show i < ops.size by omega)]
  -- a slot that none of some operations writes
  have hkeep : ∀ t i j, i ≤ j → j ≤ p → (∀ k, i ≤ k → k < j → dstOf ops k ≠ some t) → (Es j).f t = (Es i).f t := by
    intro t i j hij
    induction hij with
    | refl => intro _ _; rfl
    | @step j hij ih =>
      intro hj hno
      have hij' : i ≤ j := hij
      rw [(hstep' j (by omega)).1]
      have hne := hno j hij' (Nat.lt_succ_self _)
      rw [hdst j (by omega)] at hne
      have : ((Es j).set (ops[j]'(by omega)).dst (cs2 j)).f t = (Es j).f t := by
        cases hd : (ops[j]'(by omega)).dst with
        | none => rfl
        | some d => rw [set_f, if_neg]; intro e; exact hne (by rw [hd, e])
      rw [this]
      exact ih (by omega) fun k h1 h2 => hno k h1 (by omega)
  have hds : ∀ i, i ≤ p → (Es i).ds = E.ds := by
    intro i
    induction i with
    | zero => intro _; rw [h0]
    | succ i ih => intro hi; rw [(hstep' i (by omega)).1, set_ds]; exact ih (by omega)
  have hwrote : ∀ i (hi : i < p) d, (ops[i]'(by omega)).dst = some d → ∀ j, i < j → j ≤ p → (Es j).f d = cs2 i := by
    intro i hi d hd j hij hj
    rw [hkeep d (i + 1) j hij hj, (hstep' i hi).1, hd, set_f, if_pos rfl]
    intro k hk1 hk2 hkd
    rcases hdist i hi k (by omega) with (h1 | h1) | h1
    · omega
    · rw [hdst i hi, hd] at h1; cases h1
    · exact h1 (by rw [hdst i hi, hd, hkd])
  refine draw_coreA (N := N) (s := s) hok hdN hz hqo (E0 := E) (Ef := Ef) (w0 := w) (g0 := g) (by rw [← hlast]; exact hds p (Nat.le_refl _)) (fun i o hi hiq ho => ?_) (fun t hno => ?_) _ (fun w' g' a' b hfr hr2 hst2 => ?_) ops.size (Array.replicate ops.size false) a _ (by simp) (unl_rep _) (fun i o e _ h => absurd h (isL_rep _ _)) ?_
  · have ho' : o = ops[i]'(by omega) := by rw [Array.getElem?_eq_getElem (show i < ops.size by omega)] at ho; injection ho with ho; exact ho.symm
    subst ho'
    refine ⟨cs2 i, Es i, ((hstep' i hi).2 hiq).1, ((hstep' i hi).2 hiq).2, hds i (by omega), fun d hd => ?_, fun t ht => ⟨fun ⟨j, hj, hjt⟩ => ?_, fun hno => ?_⟩⟩
    · rw [← hlast]; exact hwrote i hi d hd p hi (Nat.le_refl _)
    · have h5 := hdata i hi
      rw [ho] at h5
      simp only [List.all_eq_true, List.mem_range, Bool.or_eq_true, Bool.and_eq_true, decide_eq_true_eq, bne_iff_ne, ne_eq] at h5
      rcases h5 t ht j hj with h6 | ⟨h6, _⟩
      · exact absurd hjt h6
      · have hjd : (ops[j]'(by omega)).dst = some t := by rw [← hdst j hj]; exact hjt
        rw [hwrote j hj t hjd i h6 (by omega), ← hlast, hwrote j hj t hjd p (by omega) (Nat.le_refl _)]
    · rw [hkeep t 0 i (Nat.zero_le _) (by omega) (fun k _ hk hkt => hno ⟨k, by omega, hkt⟩), h0]
  · rw [← hlast, hkeep t 0 p (Nat.zero_le _) (Nat.le_refl _) (fun k _ hk hkt => hno ⟨k, hk, hkt⟩), h0]
  · exact wpList_mono (fun e a w hp => Post.mono hst2 (fun _ _ _ h => h) hp) _ _ _ (hk b hfr ops _ rfl w' g' a' hr2)
  · have hnone := isL_rep ops.size
    exact .inl ⟨⟨fun m _ _ => hnone m, E, g, s, 0, .inl ⟨hnone q, rfl⟩, hr', Step.drew, rfl, fun t _ => ⟨fun ⟨i, _, hi, _⟩ => absurd hi (hnone i), fun _ => rfl⟩⟩, 0, by omega, hnone 0⟩
/-- What only reads, carried out, one index passed over. -/
def qa (P : Program) (N : NR) (q : Nat) : Nat → List Ro → Env → St → (Env → Prop) → Prop
  | _, [], E, _, K => K E
  | k, ⟨d, op, _, .no⟩ :: rest, E, s, K => if k = q then qa P N q (k + 1) rest (E.set d .junk) s K else stepQ P N d op E s fun E' => qa P N q (k + 1) rest E' s K
  | k, ⟨d, op, _, .on j b⟩ :: rest, E, s, K => if k = q then qa P N q (k + 1) rest (E.set d .junk) s K else onG (E.f j) b (stepQ P N d op E s fun E' => qa P N q (k + 1) rest E' s K) (thenC (if dOk N d = true then some (.v undef) else none) fun c => qa P N q (k + 1) rest (E.set d c) s K)
  | _, ⟨_, _, _, .bad⟩ :: _, _, _, _ => False
theorem qa_tr {q : Nat} : ∀ (l : List Ro) (k : Nat) (E : Env) (K : Env → Prop), qa P N q k l E s K → ∃ Ef, TrA P N s q k l E Ef ∧ K Ef := by
  intro l
  induction l with
  | nil => intro k E K h; exact ⟨E, .nil k E, h⟩
  | cons o rest ih =>
    intro k E K h
    obtain ⟨d, op, ty, gd⟩ := o
    cases gd with
    | no =>
      unfold qa at h
      split at h
      · rename_i hk
        obtain ⟨Ef, h4, h5⟩ := ih _ _ _ h
        exact ⟨Ef, .skip hk h4, h5⟩
      · rename_i hk
        obtain ⟨c, h1, h2, h3⟩ := stepQ_q (ty := ty) h
        obtain ⟨Ef, h4, h5⟩ := ih _ _ _ h3
        exact ⟨Ef, .quiet hk h1 h2 h4, h5⟩
    | on j b =>
      unfold qa at h
      split at h
      · rename_i hk
        obtain ⟨Ef, h4, h5⟩ := ih _ _ _ h
        exact ⟨Ef, .skip hk h4, h5⟩
      · rename_i hk
        unfold onG at h
        split at h
        · rename_i t ht
          split at h
          · rename_i htb
            subst htb
            obtain ⟨c, h1, h2, h3⟩ := stepQ_q (ty := ty) h
            obtain ⟨Ef, h4, h5⟩ := ih _ _ _ h3
            exact ⟨Ef, .quiet hk (.on ht h1) h2 h4, h5⟩
          · rename_i htb
            obtain ⟨c, h1, h2⟩ := thenC_elim h
            obtain ⟨h3, h4⟩ := ite_elim h1
            cases h4
            obtain ⟨Ef, h5, h6⟩ := ih _ _ _ h2
            exact ⟨Ef, .quiet hk (.off (by rw [ht]; simp [gdOff, htb])) h3 h5, h6⟩
        · rename_i ht
          obtain ⟨c, h1, h2⟩ := thenC_elim h
          obtain ⟨h3, h4⟩ := ite_elim h1
          cases h4
          obtain ⟨Ef, h5, h6⟩ := ih _ _ _ h2
          exact ⟨Ef, .quiet hk (.off (by rw [ht]; rfl)) h3 h5, h6⟩
        · exact h.elim
    | bad => exact h.elim
/-- What comes behind the region's first part. -/
def afterA (P : Program) (N : NR) (tail : List Ro) (d : Nat) (s : St) (cs : List C) (Q : Ends) (Ef : Env) : Prop := ∀ b, Fresh b s → run P N tail (Ef.set (some d) (.v (.pointer (some ⟨b, 0, none⟩)))) { s with objs := (b, cs) :: s.objs } Q
theorem afterA_app {tail : List Ro} {d : Nat} {cs : List C} {Ef : Env} : afterA P N tail d s cs Q Ef = ∀ b, Fresh b s → run P N tail (Ef.set (some d) (.v (.pointer (some ⟨b, 0, none⟩)))) { s with objs := (b, cs) :: s.objs } Q := id rfl
theorem W_drawa {id : Nat} {ops : Array Oper} {d t0 : Nat} {cs : List C} {ty : TypeId} (p q : Nat) (hm : P.follows .mixedOrders = true) (hok : drawOkA ops p q d = true) (hdN : d < N) (hz : tzero P t0 = some cs) (hqo : lroA ops q = ⟨some d, .alloc t0, ty, .no⟩)
    (h : qa P N q 0 ((ops.toList.take p).map (conv ops)) E s (afterA P N ((ops.toList.drop p).map (conv ops)) d s cs Q)) : W P N (.region id ops true) E s Q := by
  obtain ⟨Ef, h1, h2⟩ := qa_tr _ _ _ _ h
  exact W_drawA p q hm hok hdN hz hqo h1 fun b hb => WL_run _ _ _ (h2 b hb)
end
section
variable {P : Program} {s : St} {E : Env} {N : NR} {q k : Nat} {d : Option Nat} {op : Op} {ty : TypeId} {rest : List Ro} {K : Env → Prop}
def contT (x : Option C) (P : Program) (N : NR) (q k : Nat) (d : Option Nat) (rest : List Ro) (E : Env) (s : St) (K : Env → Prop) : Prop := thenC x fun c => qa P N q k rest (E.set d c) s K
def stpT (P : Program) (N : NR) (q k : Nat) (d : Option Nat) (op : Op) (rest : List Ro) (E : Env) (s : St) (K : Env → Prop) : Prop := stepQ P N d op E s fun E' => qa P N q k rest E' s K
def gcontT (x : C) (b : Bool) (P : Program) (N : NR) (q k : Nat) (d : Option Nat) (op : Op) (rest : List Ro) (E : Env) (s : St) (K : Env → Prop) : Prop :=
  onG x b (stpT P N q k d op rest E s K) (contT (if dOk N d = true then some (.v undef) else none) P N q k d rest E s K)
def callT (x : C) (P : Program) (N : NR) (q k : Nat) (d : Option Nat) (args : Array Operand) (rest : List Ro) (E : Env) (s : St) (K : Env → Prop) : Prop := match x with
  | .v (.func (.func f) first captured) => dOk N d = true ∧ ∃ r, Pure P f (argsC E.f first args captured) r ∧ qa P N q k rest (E.set d r) s K
  | _ => False
theorem qa_nil : qa P N q k [] E s K = K E := id rfl
theorem qa_no : qa P N q k (⟨d, op, ty, .no⟩ :: rest) E s K = if k = q then qa P N q (k + 1) rest (E.set d .junk) s K else stpT P N q (k + 1) d op rest E s K := id rfl
theorem qa_on {j : Nat} {b : Bool} : qa P N q k (⟨d, op, ty, .on j b⟩ :: rest) E s K = if k = q then qa P N q (k + 1) rest (E.set d .junk) s K else gcontT (E.f j) b P N q (k + 1) d op rest E s K := id rfl
theorem contT_some (c : C) : contT (some c) P N q k d rest E s K = qa P N q k rest (E.set d c) s K := id rfl
theorem gcontT_tt : gcontT (.v (.bool true)) true P N q k d op rest E s K = stpT P N q k d op rest E s K := id rfl
theorem gcontT_ff : gcontT (.v (.bool false)) false P N q k d op rest E s K = stpT P N q k d op rest E s K := id rfl
theorem gcontT_tf : gcontT (.v (.bool true)) false P N q k d op rest E s K = contT (if dOk N d = true then some (.v undef) else none) P N q k d rest E s K := id rfl
theorem gcontT_ft : gcontT (.v (.bool false)) true P N q k d op rest E s K = contT (if dOk N d = true then some (.v undef) else none) P N q k d rest E s K := id rfl
theorem gcontT_u (b : Bool) : gcontT (.v undef) b P N q k d op rest E s K = contT (if dOk N d = true then some (.v undef) else none) P N q k d rest E s K := id rfl
theorem stpT_call {fo : Operand} {args : Array Operand} {tys : Array TypeId} : stpT P N q k d (.call { callee := .value fo, args := args, argTypes := tys }) rest E s K = callT (evo E.f fo) P N q k d args rest E s K := id rfl
theorem callT_fn {f : FuncId} {first captured : Array Value} {args : Array Operand} : callT (.v (.func (.func f) first captured)) P N q k d args rest E s K = (dOk N d = true ∧ ∃ r, Pure P f (argsC E.f first args captured) r ∧ qa P N q k rest (E.set d r) s K) := id rfl
theorem stpT_move (x : Operand) : stpT P N q k d (.move x) rest E s K = contT (if dOk N d = true then evRd P (.move x) E.f s else none) P N q k d rest E s K := id rfl
theorem stpT_assign (x : Operand) : stpT P N q k d (.assign x) rest E s K = contT (if dOk N d = true then evRd P (.assign x) E.f s else none) P N q k d rest E s K := id rfl
theorem stpT_pick (c x y : Operand) : stpT P N q k d (.pick c x y) rest E s K = contT (if dOk N d = true then evRd P (.pick c x y) E.f s else none) P N q k d rest E s K := id rfl
theorem stpT_build (t : TypeId) (ps : Array (Nat × Operand)) : stpT P N q k d (.build t ps) rest E s K = contT (if dOk N d = true then evRd P (.build t ps) E.f s else none) P N q k d rest E s K := id rfl
theorem stpT_load (t : TypeId) (x : Operand) : stpT P N q k d (.load t x) rest E s K = contT (if dOk N d = true then evRd P (.load t x) E.f s else none) P N q k d rest E s K := id rfl
theorem stpT_fieldAddr (t : TypeId) (x : Operand) (i : Nat) : stpT P N q k d (.fieldAddr t x i) rest E s K = contT (if dOk N d = true then evRd P (.fieldAddr t x i) E.f s else none) P N q k d rest E s K := id rfl
theorem stpT_nilCheck (x : Operand) : stpT P N q k d (.nilCheck x) rest E s K = contT (if dOk N d = true then evRd P (.nilCheck x) E.f s else none) P N q k d rest E s K := id rfl
theorem stpT_indexAddr (t : TypeId) (x i : Operand) : stpT P N q k d (.indexAddr t x i) rest E s K = contT (if dOk N d = true then evRd P (.indexAddr t x i) E.f s else none) P N q k d rest E s K := id rfl
theorem stpT_slice (t : TypeId) (x : Operand) (lo hi mx : Option Operand) : stpT P N q k d (.slice t x lo hi mx) rest E s K = contT (if dOk N d = true then evRd P (.slice t x lo hi mx) E.f s else none) P N q k d rest E s K := id rfl
theorem stpT_binOp (b : BinOp) (t : TypeId) (x y : Operand) (u : TypeId) : stpT P N q k d (.binOp b t x y u) rest E s K = contT (if dOk N d = true then evRd P (.binOp b t x y u) E.f s else none) P N q k d rest E s K := id rfl
theorem stpT_unOp (u : UnOp) (t : TypeId) (x : Operand) : stpT P N q k d (.unOp u t x) rest E s K = contT (if dOk N d = true then evRd P (.unOp u t x) E.f s else none) P N q k d rest E s K := id rfl
theorem stpT_extract (x : Operand) (i : Nat) : stpT P N q k d (.extract x i) rest E s K = contT (if dOk N d = true then evRd P (.extract x i) E.f s else none) P N q k d rest E s K := id rfl
theorem stpT_makeFunc (fn : Fn) (fs cs : Array Operand) : stpT P N q k d (.makeFunc fn fs cs) rest E s K = contT (if dOk N d = true then evRd P (.makeFunc fn fs cs) E.f s else none) P N q k d rest E s K := id rfl
theorem stpT_makeInterface (t : TypeId) (x : Operand) : stpT P N q k d (.makeInterface t x) rest E s K = contT (if dOk N d = true then evRd P (.makeInterface t x) E.f s else none) P N q k d rest E s K := id rfl
theorem stpT_typeAssert (x : Operand) (t u : TypeId) (ok : Bool) : stpT P N q k d (.typeAssert x t u ok) rest E s K = contT (if dOk N d = true then evRd P (.typeAssert x t u ok) E.f s else none) P N q k d rest E s K := id rfl
theorem stpT_field (t : TypeId) (x : Operand) (i : Nat) : stpT P N q k d (.field t x i) rest E s K = contT (if dOk N d = true then evRd P (.field t x i) E.f s else none) P N q k d rest E s K := id rfl
theorem stpT_convert (t u : TypeId) (x : Operand) : stpT P N q k d (.convert t u x) rest E s K = contT (if dOk N d = true then evRd P (.convert t u x) E.f s else none) P N q k d rest E s K := id rfl
theorem stpT_min (args : Array Operand) (tys : Array TypeId) : stpT P N q k d (.call { callee := .builtin .min, args := args, argTypes := tys }) rest E s K = contT (if dOk N d = true then evRd P (.call { callee := .builtin .min, args := args, argTypes := tys }) E.f s else none) P N q k d rest E s K := id rfl
theorem stpT_max (args : Array Operand) (tys : Array TypeId) : stpT P N q k d (.call { callee := .builtin .max, args := args, argTypes := tys }) rest E s K = contT (if dOk N d = true then evRd P (.call { callee := .builtin .max, args := args, argTypes := tys }) E.f s else none) P N q k d rest E s K := id rfl
theorem stpT_len (args : Array Operand) (tys : Array TypeId) : stpT P N q k d (.call { callee := .builtin .len, args := args, argTypes := tys }) rest E s K = contT (if dOk N d = true then evRd P (.call { callee := .builtin .len, args := args, argTypes := tys }) E.f s else none) P N q k d rest E s K := id rfl
end
attribute [go_sem] afterA_app qa_nil qa_no qa_on contT_some gcontT_tt gcontT_ff gcontT_tf gcontT_ft gcontT_u stpT_call callT_fn stpT_move stpT_assign stpT_pick stpT_build stpT_load stpT_fieldAddr stpT_nilCheck stpT_indexAddr stpT_slice stpT_binOp stpT_unOp stpT_extract stpT_makeFunc stpT_makeInterface stpT_typeAssert stpT_field stpT_convert stpT_min stpT_max stpT_len
end Go.VS
namespace Go.Proofs.YtpmknffollpnaaaGreat
open Go Go.VS
theorem putF_putR {l : List Fr} {v : Int} {ps : List Int} (hl : Inc l) (hp : ps.Pairwise (· ≤ ·)) : putF l v ps = putR l v ps := by
  unfold putF
  by_cases h : ps = []
  · simp [h, putR]
  · rw [if_neg h, ← fold_put hl ⟨by simp, by simpa using h, by simpa using hp⟩]
    rfl
theorem good_one {v : Int} {ps : List Int} {pages : Int} (hv : 0 ≤ v ∧ v ≤ 1099511627776) (hp : ps ≠ []) (hi : incr ps pages = true) : Good [⟨v, ps⟩] pages := by
  obtain ⟨h1, h2⟩ := (incr_iff _ _).1 hi
  refine ⟨by simp, fun f hf => ?_, ?_⟩
  · simp at hf; subst hf
    exact ⟨hv.1, hv.2, hp, h1, h2⟩
  · rw [nums_cons, nums_nil, List.append_nil]
    exact h1.imp fun h => by omega
theorem putF_perm (l : List Fr) (v : Int) (ps : List Int) : (nums (putF l v ps)).Perm (nums l ++ ps) := by
  unfold putF
  by_cases h : ps = []
  · simp [h]
  · rw [if_neg h]
    refine (nums_merge _ _).trans ?_
    rw [nums_cons, nums_nil, List.append_nil]
theorem putF_good {l : List Fr} {v : Int} {ps : List Int} {pages : Int} (hl : Good l pages) (hv : 0 ≤ v ∧ v ≤ 1099511627776) (hi : incr ps pages = true) : Good (putF l v ps) pages ↔ (nums l ++ ps).Nodup := by
  by_cases h : ps = []
  · subst h
    simp only [putF, if_true, List.append_nil]
    exact ⟨fun h => h.nd, fun _ => hl⟩
  · have := merge_good hl (good_one hv h hi)
    rw [nums_cons, nums_nil, List.append_nil] at this
    unfold putF
    rw [if_neg h]
    exact this
/-- No page twice among three lists. -/
def apartB (a b : List Int) (l : List Fr) : Bool := decide ((a ++ b ++ nums l).Nodup)
theorem apart_good {rest : List Fr} {v : Int} {gone free : List Int} {pages : Int} (hl : Good rest pages) (hv : 0 ≤ v ∧ v ≤ 1099511627776) (hg : incr gone pages = true) (hf : incr free pages = true) :
    isB (putF (putF rest v gone) 0 free) pages = apartB gone free rest := by
  have hp : (nums (putF (putF rest v gone) 0 free)).Perm (gone ++ free ++ nums rest) := by
    refine (putF_perm _ _ _).trans (((putF_perm _ _ _).append_right _).trans ?_)
    rw [List.append_assoc]
    exact List.perm_append_comm
  cases h : apartB gone free rest
  · cases h2 : isB (putF (putF rest v gone) 0 free) pages with
    | false => rfl
    | true =>
      have := ((isB_iff _ _).1 h2).nd
      have h3 := hp.nodup_iff.1 this
      simp [apartB] at h
      exact absurd h3 (by simpa using h)
  · have h3 : (gone ++ free ++ nums rest).Nodup := of_decide_eq_true h
    refine (isB_iff _ _).2 ?_
    have h4 := hp.symm.nodup_iff.1 h3
    have h5 := (putF_perm (putF rest v gone) 0 free).nodup_iff.1 h4
    have h6 : Good (putF rest v gone) pages := (putF_good hl hv hg).2 ((putF_perm _ _ _).nodup_iff.1 (List.nodup_append.1 h5).1)
    exact (putF_good h6 ⟨by omega, by omega⟩ hf).2 h5
theorem put_put {rest : List Fr} {v : Int} {gone free : List Int} {pages : Int} (hl : Good rest pages) (hv : 0 ≤ v ∧ v ≤ 1099511627776) (hg : incr gone pages = true) (hf : incr free pages = true) (ha : apartB gone free rest = true) :
    putR (putR rest v gone) 0 free = putF (putF rest v gone) 0 free := by
  have h3 : (gone ++ free ++ nums rest).Nodup := of_decide_eq_true ha
  have hp : (nums rest ++ gone).Nodup := by
    have : (gone ++ (free ++ nums rest)).Nodup := by rw [← List.append_assoc]; exact h3
    obtain ⟨q1, q2, q3⟩ := List.nodup_append.1 this
    obtain ⟨p1, p2, p3⟩ := List.nodup_append.1 q2
    exact List.nodup_append.2 ⟨p2, q1, fun a ha b hb e => q3 b hb a (List.mem_append_right _ ha) e.symm⟩
  have h6 := (putF_good hl hv hg).2 hp
  have e1 := putF_putR (v := v) hl.inc (((incr_iff _ _).1 hg).1.imp fun h => Int.le_of_lt h)
  have e2 := putF_putR (v := 0) h6.inc (((incr_iff _ _).1 hf).1.imp fun h => Int.le_of_lt h)
  rw [e2, e1]
/-- The reference's tail: n = k + 2. -/
def tailRL (p : List Int) : Nat → Nat
  | 0 => 2
  | k + 1 => if ((k + 2 : Nat) : Int) ∈ p then tailRL p k else k + 3
def tailR (l : List Fr) (pages : Nat) : Nat := match l with
  | [] => pages
  | f :: _ => if f.v = 0 then tailRL f.p (pages - 2) else pages
theorem tailRL_trim (p' : List Int) : ∀ (q : List Int) (k : Nat), q.Pairwise (· > ·) → (∀ x ∈ q, 2 ≤ x ∧ x < ((k + 2 : Nat) : Int)) → (∀ m : Int, m < ((k + 2 : Nat) : Int) → (m ∈ p' ↔ m ∈ q)) → trim q ((k + 2 : Nat) : Int) = (tailRL p' k : Nat)
  | [], k, _, _, hm => by
    cases k with
    | zero => rfl
    | succ k =>
      have := hm ((k + 2 : Nat) : Int) (by omega)
      simp only [tailRL, trim]
      rw [if_neg (by rw [this]; simp)]
  | x :: r, k, hp, hr, hm => by
    have hpw := List.pairwise_cons.1 hp
    have hx := hr x (by simp)
    unfold trim
    split
    · rename_i e
      obtain ⟨k', rfl⟩ : ∃ k', k = k' + 1 := ⟨k - 1, by omega⟩
      have e2 : x = ((k' + 2 : Nat) : Int) := by omega
      simp only [tailRL]
      rw [if_pos ((hm _ (by omega)).2 (by simp [e2]))]
      have := tailRL_trim p' r k' hpw.2 (fun y hy => ⟨(hr y (by simp [hy])).1, by have := hpw.1 y hy; omega⟩) (fun m hmk => by
        rw [hm m (by omega), List.mem_cons]
        exact ⟨fun h => h.resolve_left (by omega), .inr⟩)
      rw [← this]
      congr 1
      omega
    · rename_i e
      cases k with
      | zero => omega
      | succ k =>
        simp only [tailRL]
        rw [if_neg]
        rw [hm _ (by omega), List.mem_cons]
        rintro (h | h)
        · omega
        · have := hpw.1 _ h; omega
theorem tail_law {l : List Fr} {pages : Nat} (h : Good l pages) (h2 : 2 ≤ pages) : tailP l pages = (tailR l pages : Nat) := by
  unfold tailP tailR
  cases l with
  | nil => rfl
  | cons f l =>
    simp only
    split
    · obtain ⟨_, _, _, q4, q5⟩ := h.ok f (by simp)
      have := tailRL_trim f.p f.p.reverse (pages - 2) (by rw [List.pairwise_reverse]; exact q4) (fun x hx => by have := q5 x (by simpa using hx); omega) (fun m _ => by simp)
      rw [← this]
      congr 1
      omega
    · rfl
theorem trim_mem : ∀ (q : List Int) (n m : Int), trim q n ≤ m → m < n → m ∈ q
  | [], n, m, h1, h2 => by simp only [trim] at h1; omega
  | x :: r, n, m, h1, h2 => by
    unfold trim at h1
    split at h1
    · by_cases e : m = n - 1
      · rename_i e2; simp [e, e2]
      · exact List.mem_cons_of_mem _ (trim_mem r (n - 1) m h1 (by omega))
    · omega
def cutR (l : List Fr) (pages : Int) : List Fr := (l.map fun f => (⟨f.v, f.p.filter fun n => decide (n < pages)⟩ : Fr)).filter fun f => decide (f.p ≠ [])
theorem cutR_cons (f : Fr) (l : List Fr) (pages : Int) : cutR (f :: l) pages = if f.p.filter (fun n => decide (n < pages)) = [] then cutR l pages else ⟨f.v, f.p.filter fun n => decide (n < pages)⟩ :: cutR l pages := by
  unfold cutR
  simp only [List.map_cons, List.filter_cons]
  split
  · rename_i h; rw [if_neg (by simpa using h)]
  · rename_i h; rw [if_pos (by simpa using h)]
theorem cutR_all {l : List Fr} {t : Int} (hne : ∀ f ∈ l, f.p ≠ []) (h : ∀ f ∈ l, ∀ n ∈ f.p, n < t) : cutR l t = l := by
  induction l with
  | nil => rfl
  | cons f l ih =>
    have e : f.p.filter (fun n => decide (n < t)) = f.p := List.filter_eq_self.2 fun n hn => by simpa using h f (by simp) n hn
    rw [cutR_cons, e, if_neg (hne f (by simp)), ih (fun g hg => hne g (by simp [hg])) (fun g hg => h g (by simp [hg]))]
theorem cut_law {l : List Fr} {pages : Nat} (h : Good l pages) : cutR l (tailP l pages) = keepP l (tailP l pages) := by
  cases l with
  | nil => rfl
  | cons f l =>
    have hne : ∀ g ∈ l, g.p ≠ [] := fun g hg => (h.ok g (by simp [hg])).2.2.1
    have hf : ∀ t : Int, f.p.filter (fun n => decide (n < t)) = f.p.filter fun n => !decide (t ≤ n) := fun t => List.filter_congr fun n _ => by
      rw [Bool.eq_iff_iff]; simp
    by_cases hv : f.v = 0
    · have hnd := h.nd
      rw [nums_cons] at hnd
      have ht : ∀ g ∈ l, ∀ n ∈ g.p, n < tailP (f :: l) pages := fun g hg n hn => by
        have hn2 := ((h.ok g (by simp [hg])).2.2.2.2 n hn).2
        rcases Int.lt_or_le n (tailP (f :: l) pages) with h1 | h1
        · exact h1
        · exfalso
          simp only [tailP, hv, if_true] at h1
          have := trim_mem _ _ n h1 (by omega)
          exact (List.nodup_append.1 hnd).2.2 n (by simpa using this) n (by rw [nums_mem]; exact ⟨g, hg, hn⟩) rfl
      generalize tailP (f :: l) pages = t at ht ⊢
      rw [cutR_cons, cutR_all hne ht, hf]
      unfold keepP
      simp only [hv, if_true]
    · have : tailP (f :: l) pages = pages := by simp [tailP, hv]
      rw [this, cutR_all (fun g hg => (h.ok g hg).2.2.1) (fun g hg n hn => by have := (h.ok g hg).2.2.2.2 n hn; omega)]
      simp [keepP, hv]
def TRel (p q : List (List C)) : Option (List (List C) × List Fr × List Int) → Option (List (List C) × List Fr × List Int) → Prop
  | some (p', l1, t1), some (q', l2, t2) => l1 = l2 ∧ t1 = t2 ∧ ∃ z, p' = p ++ List.replicate z zpage ∧ q' = q ++ List.replicate z zpage
  | none, none => True
  | _, _ => False
theorem TRel.more {p q : List (List C)} {x y : Option (List (List C) × List Fr × List Int)} (h : TRel (p ++ [zpage]) (q ++ [zpage]) x y) : TRel p q x y := by
  match x, y, h with
  | some (p', l1, t1), some (q', l2, t2), ⟨e1, e2, z, e3, e4⟩ => exact ⟨e1, e2, z + 1, by rw [e3, List.append_assoc]; rfl, by rw [e4, List.append_assoc]; rfl⟩
  | none, none, _ => trivial
theorem take_rel : ∀ (f : Nat) (p q : List (List C)) (l : List Fr) (tk : List Int), p.length = q.length → TRel p q (takeLoop f p l tk) (takeLoop f q l tk)
  | 0, p, q, l, tk, _ => trivial
  | f + 1, p, q, l, tk, h => by
    unfold takeLoop
    by_cases h1 : (partsP l).length ≤ tk.length
    · rw [if_pos h1, if_pos h1]
      exact ⟨rfl, rfl, 0, by simp, by simp⟩
    · rw [if_neg h1, if_neg h1]
      by_cases h2 : leastB l = true
      · rw [if_pos h2, if_pos h2]
        exact take_rel f p q _ _ h
      · rw [if_neg h2, if_neg h2]
        by_cases h4 : p.length < 4096
        · rw [if_pos h4, if_pos (by omega), ← h]
          exact (take_rel f (p ++ [zpage]) (q ++ [zpage]) l (tk ++ [(p.length : Int)]) (by simp [h])).more
        · rw [if_neg h4, if_neg (by omega)]
          trivial
theorem clear_law (z t : Nat) : ∀ (free : List Int) (pg : List (List C)), t ≤ pg.length → clearAt (pg.take t ++ List.replicate z zpage) free = (clearAt pg free).take t ++ List.replicate z zpage
  | [], pg, _ => rfl
  | x :: free, pg, ht => by
    have hl : (pg.take t).length = t := by simp; omega
    have : (pg.take t ++ List.replicate z zpage).set x.toNat zpage = (pg.set x.toNat zpage).take t ++ List.replicate z zpage := by
      rw [List.set_append, hl]
      split
      · rw [List.take_set]
      · rename_i h
        have e1 : (List.replicate z zpage).set (x.toNat - t) zpage = List.replicate z zpage := by
          apply List.ext_getElem
          · simp
          · intro i h1 h2
            simp [List.getElem_set]
        have e2 : (pg.set x.toNat zpage).take t = pg.take t := by
          rw [List.take_set, List.set_eq_of_length_le (by rw [hl]; omega)]
        rw [e1, e2]
    show clearAt ((pg.take t ++ List.replicate z zpage).set x.toNat zpage) free = _
    rw [this, clear_law z t free _ (by simpa using ht)]
    rfl
/-- What End makes: the pages, what is left of the list, what was taken; or the error. -/
def endV (sp : Sp) (rest : List Fr) (shrink : Bool) : Except Int (List (List C) × List Fr × List Int) :=
  if inV sp.ver && (decide (2 ≤ sp.pg.length) && decide (sp.pg.length ≤ 4096)) then
    if validB rest sp.pg.length && (incr sp.free sp.pg.length && incr sp.gone sp.pg.length) then
      if validB (putF (putF rest (sp.ver - 1) sp.gone) 0 sp.free) sp.pg.length then
        match takeLoop ((nums (if shrink then keepP (putF (putF rest (sp.ver - 1) sp.gone) 0 sp.free) (if shrink then tailP (putF (putF rest (sp.ver - 1) sp.gone) 0 sp.free) sp.pg.length else sp.pg.length) else (putF (putF rest (sp.ver - 1) sp.gone) 0 sp.free))).length + 1)
          (if shrink then (clearAt sp.pg sp.free).take (if shrink then tailP (putF (putF rest (sp.ver - 1) sp.gone) 0 sp.free) sp.pg.length else sp.pg.length).toNat else clearAt sp.pg sp.free)
          (if shrink then keepP (putF (putF rest (sp.ver - 1) sp.gone) 0 sp.free) (if shrink then tailP (putF (putF rest (sp.ver - 1) sp.gone) 0 sp.free) sp.pg.length else sp.pg.length) else (putF (putF rest (sp.ver - 1) sp.gone) 0 sp.free)) [] with
        | some r => .ok r
        | none => .error 7
      else .error 2
    else .error 2
  else .error 1
theorem endP_V (sp : Sp) (rest : List Fr) (shrink : Bool) : endP sp rest shrink = match endV sp rest shrink with
    | .ok r => endOk sp r
    | .error e => endErr e := by
  unfold endP endV
  split
  · split
    · simp only
      split
      · generalize takeLoop _ _ _ [] = z
        cases z <;> rfl
      · rfl
    · rfl
  · rfl
/-- What the reference's End makes. -/
def refEnd (sp : Sp) (rest : List Fr) (shrink : Bool) : Except Int (List (List C) × List Fr × List Int) :=
  if inV sp.ver && (decide (2 ≤ sp.pg.length) && decide (sp.pg.length ≤ 4096)) then
    if isB rest sp.pg.length && incr sp.gone sp.pg.length && incr sp.free sp.pg.length && apartB sp.gone sp.free rest then
      let l2 := putR (putR rest (sp.ver - 1) sp.gone) 0 sp.free
      let t := if shrink then tailR l2 sp.pg.length else sp.pg.length
      let l3 := if shrink then cutR l2 t else l2
      match takeLoop ((nums l3).length + 1) (sp.pg.take t) l3 [] with
      | some r => .ok (clearAt r.1 sp.free, r.2.1, r.2.2)
      | none => .error 7
    else .error 2
  else .error 1
theorem end_law (sp : Sp) (rest : List Fr) (shrink : Bool) : refEnd sp rest shrink = endV sp rest shrink := by
  unfold refEnd endV
  split
  · rename_i h0
    simp only [Bool.and_eq_true, decide_eq_true_eq] at h0
    obtain ⟨hv, hn2, hn4⟩ := h0
    have hn : (decide ((2 : Int) ≤ (sp.pg.length : Int)) && decide ((sp.pg.length : Int) ≤ 4096)) = true := by simp; omega
    have hver : 0 ≤ sp.ver - 1 ∧ sp.ver - 1 ≤ 1099511627776 := by simp [inV] at hv; omega
    simp only [validB_isB, hn, Bool.true_and]
    cases hB : isB rest sp.pg.length
    · simp
    cases hg : incr sp.gone sp.pg.length
    · simp
    cases hf : incr sp.free sp.pg.length
    · simp
    have hgood := (isB_iff _ _).1 hB
    simp only [Bool.and_self, Bool.true_and, if_true]
    rw [apart_good hgood hver hg hf]
    cases ha : apartB sp.gone sp.free rest
    · simp
    have hgood2 : Good (putF (putF rest (sp.ver - 1) sp.gone) 0 sp.free) sp.pg.length := (isB_iff _ _).1 ((apart_good hgood hver hg hf).trans ha)
    rw [put_put hgood hver hg hf ha]
    simp only [if_true]
    generalize putF (putF rest (sp.ver - 1) sp.gone) 0 sp.free = l2 at hgood2 ⊢
    have htr := tail_range hgood2 (by omega)
    have hcl := cut_law hgood2
    rw [tail_law hgood2 hn2] at htr hcl
    rw [tail_law hgood2 hn2]
    generalize tailR l2 sp.pg.length = t at htr hcl
    cases shrink
    · simp only [Bool.false_eq_true, if_false]
      have h1 := take_rel ((nums l2).length + 1) (sp.pg.take sp.pg.length) (clearAt sp.pg sp.free) l2 [] (by simp [clearAt_len])
      generalize e1 : takeLoop _ (List.take _ sp.pg) _ [] = x at h1 ⊢
      generalize e2 : takeLoop _ _ _ [] = y at h1 ⊢
      match x, y, h1 with
      | some (_, _, _), some (_, _, _), ⟨rfl, rfl, z, rfl, rfl⟩ =>
        have := clear_law z sp.pg.length sp.free sp.pg (Nat.le_refl _)
        simp only [this]
        rw [List.take_of_length_le (by rw [clearAt_len]; exact Nat.le_refl _)]
      | none, none, _ => rfl
    · simp only [if_true]
      rw [hcl]
      have h1 := take_rel ((nums (keepP l2 t)).length + 1) (sp.pg.take t) ((clearAt sp.pg sp.free).take ((t : Nat) : Int).toNat) (keepP l2 t) [] (by simp [clearAt_len])
      generalize e1 : takeLoop _ (List.take _ sp.pg) _ [] = x at h1 ⊢
      generalize e2 : takeLoop _ _ _ [] = y at h1 ⊢
      match x, y, h1 with
      | some (_, _, _), some (_, _, _), ⟨rfl, rfl, z, rfl, rfl⟩ =>
        have := clear_law z t sp.free sp.pg (by omega)
        simp only [this, Int.toNat_natCast]
      | none, none, _ => rfl
  · rfl
/-- The first element, without its first page. -/
theorem without_head {x : Int} {ps : List Int} (h : (x :: ps).Pairwise (· < ·)) : (x :: ps).filter (fun n => decide (n ≠ x)) = ps := by
  have := (List.pairwise_cons.1 h).1
  rw [List.filter_cons_of_neg (by simp), List.filter_eq_self.2]
  intro y hy
  have := this y hy
  simp; omega
/-! ### The parts of a list, as the reference makes them -/
def pRoom (now : List Fr) (room : Nat) (rem : List Fr) : List (List Fr) := if now = [] ∧ rem = [] then [] else (now ++ (cutP room rem).1) :: partsP (cutP room rem).2
theorem partsP_nil : partsP [] = [] := rfl
theorem pRoom_nil (now : List Fr) (room : Nat) : pRoom now room [] = if now = [] then [] else [now] := by
  unfold pRoom
  by_cases h : now = [] <;> simp [h, cutP, partsP_nil]
theorem pRoom_start {n : Nat} {l : List Fr} (hs : Sz n l) (hne : ∀ f ∈ l, f.p ≠ []) : pRoom [] 490 l = partsP l := by
  unfold pRoom
  cases l with
  | nil => rfl
  | cons f l =>
    rw [if_neg (by simp)]
    obtain ⟨q1, q2, q3, q4⟩ := cut_ok n (f :: l) 490 hs hne
    have h4 := q4 (by omega) (by simp)
    have hl := congrArg List.length q1
    rw [List.length_append] at hl
    obtain ⟨k, hk⟩ : ∃ k, (nums (f :: l)).length = k + 1 := ⟨(nums (f :: l)).length - 1, by omega⟩
    have e : partsP (f :: l) = (cutP 490 (f :: l)).1 :: partsF k (cutP 490 (f :: l)).2 := by
      unfold partsP
      rw [hk]
      simp only [partsF]
      rw [if_neg (by simp)]
    rw [e, partsF_mono n k _ q2 q3 (by omega)]
    rfl
theorem pRoom_full {n : Nat} {now rem : List Fr} {room : Nat} (hs : Sz n rem) (hne : ∀ f ∈ rem, f.p ≠ []) (hr : rem ≠ []) (h : room < 12) : pRoom now room rem = now :: pRoom [] 490 rem := by
  rw [pRoom_start hs hne]
  unfold pRoom
  rw [if_neg (by simp [hr])]
  cases rem with
  | nil => exact absurd rfl hr
  | cons f l =>
    have : cutP room (f :: l) = ([], f :: l) := by simp [cutP, h]
    rw [this, List.append_nil]
def remF (v : Int) (left : List Int) (l : List Fr) : List Fr := if left = [] then l else ⟨v, left⟩ :: l
theorem pRoom_step {now l : List Fr} {room : Nat} {v : Int} {left : List Int} (hl : left ≠ []) (h : 12 ≤ room) :
    pRoom now room (remF v left l) = pRoom (now ++ [⟨v, left.take (min ((room - 8) / 4) left.length)⟩]) (room - 8 - 4 * min ((room - 8) / 4) left.length) (remF v (left.drop (min ((room - 8) / 4) left.length)) l) := by
  have hlp := List.length_pos_iff.2 hl
  generalize hn : min ((room - 8) / 4) left.length = n
  unfold remF
  rw [if_neg hl]
  have h1 : ¬ (room < 12 ∨ n < 1) := by omega
  by_cases h2 : n < left.length
  · have hd : left.drop n ≠ [] := fun e => by have := congrArg List.length e; simp at this; omega
    rw [if_neg hd]
    have h3 : cutP room (⟨v, left⟩ :: l) = ([⟨v, left.take n⟩], ⟨v, left.drop n⟩ :: l) := by
      unfold cutP
      simp only [hn]
      rw [if_neg h1, if_pos h2]
    have h4 : cutP (room - 8 - 4 * n) (⟨v, left.drop n⟩ :: l) = ([], ⟨v, left.drop n⟩ :: l) := by
      unfold cutP
      rw [if_pos (by omega)]
    unfold pRoom
    rw [if_neg (by simp), if_neg (by simp), h3, h4, List.append_nil]
  · have hnl : n = left.length := by omega
    have hd : left.drop n = [] := by rw [hnl, List.drop_length]
    have ht : left.take n = left := by rw [hnl, List.take_length]
    rw [if_pos hd, ht]
    have h3 : cutP room (⟨v, left⟩ :: l) = (⟨v, left⟩ :: (cutP (room - 8 - 4 * n) l).1, (cutP (room - 8 - 4 * n) l).2) := by
      rw [cutP]
      simp only [hn]
      rw [if_neg h1, if_neg h2, show room - (8 + 4 * left.length) = room - 8 - 4 * n by omega]
    unfold pRoom
    rw [if_neg (by simp), if_neg (by simp), h3, List.append_assoc]
    rfl
end Go.Proofs.YtpmknffollpnaaaGreat
namespace Go.Proofs.YtpmknffollpnaaaGreat
open Go Go.VS
theorem isPage_c (n : Int) : Pure Tryz.prog 147 [I n] (Bo (numB n)) := by
  intro s
  refine CallC_of Tryz.func147 rfl (by rfl) Tryz.ntmps147 (by simp) ?_
  refine W_seq (W_reg ?_)
  simp [go_sem]
  refine W_seq (W_reg ?_)
  by_cases h : 2 ≤ n
  · simp [go_sem, h]
    refine W_ret ?_
    simp only [go_sem]
    refine ⟨trivial, _, rfl, s, Sub.refl _, ?_, rfl⟩
    have : decide (n < 4096) = decide (n ≤ 4095) := decide_eq_decide.2 (by omega)
    simp [go_sem, numB, h, this]
  · simp [go_sem, h]
    refine W_ret ?_
    simp only [go_sem]
    refine ⟨trivial, _, rfl, s, Sub.refl _, ?_, rfl⟩
    simp [go_sem, numB, h]
set_option maxRecDepth 4000 in
theorem once_c (l : List Int) (pages : Int) : Pure Tryz.prog 59 [LI l, I pages] (Bo (incr l pages)) := by
  intro s
  refine CallC_of Tryz.func59 rfl (by rfl) Tryz.ntmps59 (by simp) ?_
  refine W_seq (W_reg ?_)
  simp [go_sem]
  refine W_len 0 (tok := none) (es := intsE l) (by simp [go_sem]) fun hla => ?_
  rw [intsE_length] at hla
  refine W_seq (W_seq (W_reg ?_))
  simp [go_sem]
  refine W_for l.length (fun k L s' => L = [(0, LI l), (1, I pages), (5, I k)] ∧ s' = s ∧ ∀ j, j < k → badI l pages j = false) (l0 := [(0, LI l), (1, I pages), (5, I 0)]) (ds := []) ⟨rfl, rfl, fun j hj => by omega⟩ (by simp [go_sem]) rfl ?_
  rintro k _ s1 hk ⟨rfl, rfl, hall⟩ K hK
  refine W_reg ?_
  simp [go_sem, intsE_length]
  refine hK _ _ (decide (k < l.length)) [(0, LI l), (1, I pages), (5, I k)] (by simp [go_sem]) (by simp [go_sem]) (by simp [go_sem]) (fun hlt => ?_) (fun hge => ?_)
  · simp only [decide_eq_true_eq] at hlt
    refine ⟨hlt, W_seq_k fun K2 hK2 => W_drawr 29 Tryz.mixed (by kernel_rfl) ?_⟩
    have hw2 : IntKind.i64.wrap ((k : Int) + 1) = ((k + 1 : Nat) : Int) := by rw [wrap_in (by omega) (by omega)]; omega
    have key : ∀ E', Has E' [(40, Bo (badI l pages k)), (0, LI l), (1, I pages), (5, I k)] → E'.ds = [] → K2 E' s1 := fun E' h1 h2 => hK2 _ _ (W_keep _ h1 (by
      rw [h2]
      refine W_ifs (badI l pages k) (by simp [go_sem]) (fun h => W_seq (W_reg ?_)) (fun h => W_skip ?_)
      · simp [go_sem]
        refine W_ret ?_
        simp only [go_sem]
        refine ⟨trivial, _, rfl, _, Sub.refl _, ?_, rfl⟩
        rw [incr_false hlt h]
        rfl
      · simp [go_sem]
        refine W_reg ?_
        simp [go_sem, hw2]
        refine ⟨_, ⟨rfl, fun j hj => ?_⟩, by simp [go_sem]⟩
        rcases Nat.lt_succ_iff_lt_or_eq.1 hj with hj | hj
        · exact hall j hj
        · rw [hj]; exact h))
    have hkl : l.getD k 0 = l[k] := by simp [List.getD, hlt]
    have hb : badI l pages k = (!(decide (2 ≤ l[k]) && decide (l[k] ≤ pages - 1)) || (decide (0 < k) && decide (l.getD (k - 1) 0 ≥ l[k]))) := by simp only [badI, hkl]
    by_cases c1 : l[k] < 2
    · have n1 : ¬ 2 ≤ l[k] := by omega
      simp [go_sem, intsE_get, hlt, c1]
      exact key _ (by simp [go_sem, hb, n1]) (by simp [go_sem])
    · by_cases c2 : pages ≤ l[k]
      · have n1 : ¬ l[k] ≤ pages - 1 := by omega
        simp [go_sem, intsE_get, hlt, c1, c2]
        exact key _ (by simp [go_sem, hb, n1]) (by simp [go_sem])
      · have n0 : 2 ≤ l[k] := by omega
        have n1 : l[k] ≤ pages - 1 := by omega
        by_cases h0 : 0 < k
        · have e1 : IntKind.i64.wrap ((k : Int) - 1) = ((k - 1 : Nat) : Int) := by rw [wrap_in (by omega) (by omega)]; omega
          have hk1 : k - 1 < l.length := by omega
          have hkl1 : l.getD (k - 1) 0 = l[k - 1] := by simp [List.getD, hk1]
          rw [hkl1] at hb
          simp [go_sem, intsE_get, hlt, c1, c2, h0, e1, hk1]
          exact key _ (by simp [go_sem, hb, h0, n0, n1]) (by simp [go_sem])
        · simp [go_sem, intsE_get, hlt, c1, c2, h0]
          exact key _ (by simp [go_sem, hb, h0, n0, n1]) (by simp [go_sem])
  · simp only [decide_eq_false_iff_not] at hge
    simp only [go_sem]
    refine W_seq (W_reg ?_)
    simp [go_sem]
    refine W_ret ?_
    simp only [go_sem]
    refine ⟨trivial, _, rfl, _, Sub.refl _, ?_, rfl⟩
    rw [incr_true fun j hj => hall j (by omega)]
    rfl
theorem in_c (l : List Int) (n : Int) : Pure Tryz.prog 67 [LI l, I n] (Bo (decide (n ∈ l))) := by
  intro s
  refine CallC_of Tryz.func67 rfl (by rfl) Tryz.ntmps67 (by simp) ?_
  refine W_seq (W_reg ?_)
  simp [go_sem]
  refine W_len 0 (tok := none) (es := intsE l) (by simp [go_sem]) fun hla => ?_
  rw [intsE_length] at hla
  refine W_seq (W_seq (W_reg ?_))
  simp [go_sem]
  refine W_for l.length (fun k L s' => L = [(0, LI l), (1, I n), (5, I k)] ∧ s' = s ∧ n ∉ l.take k) (l0 := [(0, LI l), (1, I n), (5, I 0)]) (ds := []) ⟨rfl, rfl, by simp⟩ (by simp [go_sem]) rfl ?_
  rintro k _ s1 hk ⟨rfl, rfl, hall⟩ K hK
  refine W_reg ?_
  simp [go_sem, intsE_length]
  refine hK _ _ (decide (k < l.length)) [(0, LI l), (1, I n), (5, I k)] (by simp [go_sem]) (by simp [go_sem]) (by simp [go_sem]) (fun hlt => ?_) (fun hge => ?_)
  · simp only [decide_eq_true_eq] at hlt
    refine ⟨hlt, W_seq (W_reg ?_)⟩
    have hw2 : IntKind.i64.wrap ((k : Int) + 1) = ((k + 1 : Nat) : Int) := by rw [wrap_in (by omega) (by omega)]; omega
    simp [go_sem, intsE_get, hlt]
    refine W_ifs (l[k] == n) (by simp [go_sem]) (fun h => W_seq (W_reg ?_)) (fun h => W_skip ?_)
    · simp at h
      simp [go_sem]
      refine W_ret ?_
      simp only [go_sem]
      refine ⟨trivial, _, rfl, _, Sub.refl _, ?_, rfl⟩
      have : n ∈ l := h ▸ List.getElem_mem hlt
      simp [this, go_sem]
    · simp at h
      simp [go_sem]
      refine W_reg ?_
      simp [go_sem, hw2]
      refine ⟨_, ⟨rfl, fun hm => ?_⟩, by simp [go_sem]⟩
      rw [List.take_succ_eq_append_getElem hlt, List.mem_append] at hm
      rcases hm with h1 | h1
      · exact hall h1
      · simp at h1; exact h h1.symm
  · simp only [decide_eq_false_iff_not] at hge
    simp only [go_sem]
    rw [List.take_of_length_le (by omega)] at hall
    refine W_seq (W_reg ?_)
    simp [go_sem]
    refine W_ret ?_
    simp only [go_sem]
    exact ⟨trivial, _, rfl, _, Sub.refl _, by simp [hall, go_sem], rfl⟩
set_option maxRecDepth 4000 in
theorem refTail_c (l : List Fr) (pages : Nat) (h2 : 2 ≤ pages) (hp : pages ≤ 1000000000) : Pure Tryz.prog 21 [LF l, I pages] (I (tailR l pages : Nat)) := by
  intro s
  refine CallC_of Tryz.func21 rfl (by rfl) Tryz.ntmps21 (by simp) ?_
  refine W_seq (W_reg ?_)
  simp [go_sem]
  refine W_seq (W_seq_k fun K hK => W_reg ?_)
  have key : ∀ E' t, Has E' [(14, Bo t), (0, LF l), (1, I pages)] → E'.ds = [] → (t = true → tailR l pages = pages) → (t = false → ∃ f r, l = f :: r ∧ f.v = 0) → K E' s := fun E' t h1 h2 ht hf => hK _ _ (W_keep _ h1 (by
    rw [h2]
    refine W_ifs t (by simp [go_sem]) (fun h => W_seq (W_reg ?_)) (fun h => W_skip ?_)
    · simp [go_sem]
      refine W_ret ?_
      simp only [go_sem]
      exact ⟨trivial, _, rfl, s, Sub.refl _, by simp [ht h, go_sem], rfl⟩
    · obtain ⟨f, r, rfl, hv⟩ := hf h
      simp only [go_sem]
      refine W_keep [(0, LF (f :: r)), (1, I pages)] (by simp [go_sem]) ?_
      have hT : tailR (f :: r) pages = tailRL f.p (pages - 2) := by simp [tailR, hv]
      have hk0 : ((pages - 2 + 2 : Nat) : Int) = pages := by omega
      clear hK
      refine W_seq_k fun K hK => ?_
      refine W_while (pages - 2) (fun m L s' => s' = s ∧ ∃ k : Nat, m = k ∧ k + 2 ≤ pages ∧ L = [(0, LF (f :: r)), (1, I ((k + 2 : Nat) : Int))] ∧ tailRL f.p k = tailRL f.p (pages - 2)) (l0 := [(0, LF (f :: r)), (1, I pages)]) (ds := []) ⟨rfl, pages - 2, rfl, by omega, by rw [hk0], rfl⟩ (by simp [go_sem]) rfl ?_
      rintro k _ s1 ⟨rfl, k', hkk, hk, rfl, hkT⟩ K2 hK2
      subst hkk
      refine W_reg ?_
      have fin : ∀ E', E'.ds = [] → E'.f 26 = Bo false → Has E' [(0, LF (f :: r)), (1, I ((k + 2 : Nat) : Int))] → tailRL f.p k = k + 2 → K2 E' s1 := fun E' h1 h2 h3 h4 => hK2 _ _ false _ h1 h2 h3 (fun h => by cases h) (fun _ => hK _ _ (by
        refine W_seq (W_reg ?_)
        simp [go_sem]
        refine W_ret ?_
        simp only [go_sem]
        refine ⟨trivial, _, rfl, s1, Sub.refl _, ?_, rfl⟩
        rw [hT, ← hkT, h4]
        simp [go_sem]))
      cases k with
      | zero =>
        simp [go_sem]
        exact fin _ (by simp [go_sem]) (by simp [go_sem]) (by simp [go_sem]) rfl
      | succ k =>
        have hgt : ((k + 1 + 2 : Nat) : Int) > 2 := by omega
        have hw : IntKind.i64.wrap (((k + 1 + 2 : Nat) : Int) - 1) = ((k + 2 : Nat) : Int) := by rw [wrap_in (by omega) (by omega)]; omega
        generalize hN : ((k + 1 + 2 : Nat) : Int) = N at hgt hw fin ⊢
        generalize hM : ((k + 2 : Nat) : Int) = M at hw
        simp [go_sem, hgt, hw, frsE, frC]
        refine Pure.use (in_c _ _) ?_
        by_cases hm : M ∈ f.p
        · simp [go_sem, hm]
          refine hK2 _ _ true [(0, LF (f :: r)), (1, I N)] (by simp [go_sem]) (by simp [go_sem]) (by simp [go_sem]) (fun _ K3 hK3 => ?_) (fun h => by cases h)
          refine W_reg ?_
          simp [go_sem, hw]
          refine hK3 _ _ k [(0, LF (f :: r)), (1, I M)] (by omega) ⟨rfl, k, rfl, by omega, by rw [hM], ?_⟩ (by simp [go_sem]) (by simp [go_sem])
          rw [← hkT]
          simp only [tailRL]
          rw [hM, if_pos hm]
        · simp [go_sem, hm]
          refine fin _ (by simp [go_sem]) (by simp [go_sem]) (by simp [go_sem]) ?_
          simp only [tailRL]
          rw [hM, if_neg hm]))
  cases l with
  | nil =>
    simp [go_sem, frsE]
    exact key _ true (by simp [go_sem, frsE]) (by simp [go_sem]) (fun _ => rfl) (fun h => by cases h)
  | cons f r =>
    by_cases hv : f.v = 0
    · simp [go_sem, frsE, frC, hv]
      exact key _ false (by simp [go_sem, frsE, hv]; omega) (by simp [go_sem]) (fun h => by cases h) (fun _ => ⟨f, r, rfl, hv⟩)
    · simp [go_sem, frsE, frC, hv]
      exact key _ true (by simp [go_sem, frsE, hv]) (by simp [go_sem]) (fun _ => by simp [tailR, hv]) (fun h => by cases h)
end Go.Proofs.YtpmknffollpnaaaGreat
namespace Go.Proofs.YtpmknffollpnaaaGreat
open Go Go.VS
theorem wrap_succ {k n : Nat} (h : k < n) (hn : n ≤ 9223372036854775807) : IntKind.i64.wrap ((k : Int) + 1) = ((k + 1 : Nat) : Int) := by rw [wrap_in (by omega) (by omega)]; omega
theorem wrap_pred {k n : Nat} (h : k ≤ n) (hn : n ≤ 9223372036854775807) (h0 : 0 < k) : IntKind.i64.wrap ((k : Int) - 1) = ((k - 1 : Nat) : Int) := by rw [wrap_in (by omega) (by omega)]; omega
/-- A literal of one element, appended to what bears a token. -/
theorem WL_push {s0 s : St} {E : Env} {N : NR} {Q : VS.Ends} {d1 d t e r z : Nat} {ty1 ty2 : TypeId} {rest : List Ro} {x y : Operand} {es : List (List C)} {new : List C} (hT : TokI s0 s r z es.length) (ht : tel Tryz.prog t = some e) (hzi : (tzero Tryz.prog e).isSome)
    (hzs : ((tzero Tryz.prog e).map List.length) = some (tsz Tryz.prog e)) (hzt : z = tsz Tryz.prog e) (hz16 : 1 * tsz Tryz.prog e ≤ 16777216) (hb0 : 0 < tby Tryz.prog e) (hnew : cellsOf (evo E.f y) = new) (hx : ∀ c, evo (E.set (some d1) c).f x = .li (some r) es)
    (hnl : new.length = z) (hone : new.all VS.one = true) (hlen : ∀ q ∈ es, q.length = z) (hby : (es.length + 1) * tby Tryz.prog e ≤ 140737488355328) (hd1 : d1 < N) (hd : d < N)
    (h : ∀ s' : St, TokI s0 s' r z (es ++ [new]).length → s'.objs = s.objs → s'.rows = s.rows → s'.maps = s.maps → (∀ k v, VS.look s.toks k = some v → k ≠ r → VS.look s'.toks k = some v) → ∀ c1, WL Tryz.prog N rest ((E.set (some d1) c1).set (some d) (.li (some r) (es ++ [new]))) s' Q) :
    WL Tryz.prog N (⟨some d1, .buildSlice t 1 #[(0, y)], ty1, .no⟩ :: ⟨some d, .call { callee := .builtin .append, args := #[x, .tmp d1], argTypes := #[t, t] }, ty2, .no⟩ :: rest) E s Q := by
  refine WL_buildSlice ht hzi (by rfl) (by rfl) (by simp [partsC, hnew, hnl, hzt]) (by simpa [partsC, hnew] using hone) hz16 (by omega) hd1 fun r2 hr2 => ?_
  have hps : partsC E.f #[(0, y)].toList = [new] := by simp [partsC, hnew]
  rw [hps]
  refine WL_append (r := r) (z := z) (es := es) (es2 := [new]) ht hzi (hx _) (hT.lit hr2 _).tok hzt hb0 (by show elsC (if d1 = d1 then _ else _) = _; rw [if_pos rfl]; rfl) (by simpa using hnl) (by simpa using hby) hzs hd ?_
  have hT3 := (hT.lit hr2 (tsz Tryz.prog e, 1)).put (es ++ [new]).length
  refine h _ hT3 rfl rfl rfl (fun k v hk hkr => ?_) _
  show VS.look (putAt ((r2, _) :: s.toks) r _) k = some v
  rw [look_putAt, if_neg hkr]
  exact lookCons hr2 hk
theorem tz3 : (tzero Tryz.prog 3).isSome := by simp [go_sem]
set_option maxRecDepth 4000 in
theorem without_c (l : List Int) (n : Int) (hl : l.length ≤ 1000000000) : Pure Tryz.prog 109 [LI l, I n] (LI (l.filter fun x => decide (x ≠ n))) := by
  intro s
  refine CallC_of Tryz.func109 rfl (by rfl) Tryz.ntmps109 (by simp) ?_
  refine W_seq (W_reg ?_)
  simp [go_sem]
  refine W_seq (W_reg ?_)
  simp [go_sem]
  refine W_tok 5 1 (by simp [go_sem]) fun r hr => ?_
  have hT := TokI.init (z := 1) hr
  generalize ({ s with toks := (r, (1, 0)) :: s.toks } : St) = s1 at hT ⊢
  refine W_seq (W_seq (W_reg ?_))
  simp [go_sem]
  refine W_for l.length (fun k L s' => L = [(0, LI l), (1, I n), (6, I k), (5, .li (some r) (intsE ((l.take k).filter fun x => decide (x ≠ n))))] ∧ TokI s s' r 1 ((l.take k).filter fun x => decide (x ≠ n)).length)
    (l0 := [(0, LI l), (1, I n), (6, I 0), (5, .li (some r) [])]) (ds := []) ⟨by simp [intsE], by simpa using hT⟩ (by simp [go_sem]) rfl ?_
  rintro k _ s2 hk ⟨rfl, hT2⟩ K hK
  refine W_reg ?_
  simp [go_sem, intsE_length]
  generalize hF : ((l.take k).filter fun x => decide (x ≠ n)) = F at hT2
  have hFl : F.length ≤ k := by rw [← hF]; exact Nat.le_trans (List.length_filter_le _ _) (by simp; omega)
  have hF' : (List.filter (fun x => !decide (x = n)) (List.take k l)) = F := by rw [← hF]; simp
  rw [hF']
  refine hK _ _ (decide (k < l.length)) [(0, LI l), (1, I n), (6, I k), (5, .li (some r) (intsE F))] (by simp [go_sem]) (by simp [go_sem]) (by simp [go_sem]) (fun hlt => ?_) (fun hge => ?_)
  · simp only [decide_eq_true_eq] at hlt
    have hw := wrap_succ hlt (by omega)
    have hsn : ((l.take (k + 1)).filter fun x => decide (x ≠ n)) = F ++ if l[k] = n then [] else [l[k]] := by
      rw [List.take_succ_eq_append_getElem hlt, List.filter_append, hF]
      by_cases h : l[k] = n <;> simp [h]
    refine ⟨hlt, W_seq (W_reg ?_)⟩
    simp [go_sem, intsE_get, hlt]
    by_cases h : l[k] = n
    · rw [if_pos h, List.append_nil] at hsn
      refine W_ifs false (by simp [go_sem, h]) (fun h => by cases h) (fun _ => W_skip ?_)
      simp [go_sem]
      refine W_reg ?_
      simp [go_sem, hw]
      refine ⟨_, ⟨rfl, ?_⟩, ?_⟩
      · simpa [hF'] using (show TokI s s2 r 1 ((l.take (k + 1)).filter fun x => decide (x ≠ n)).length by rw [hsn]; exact hT2)
      · simp only [ne_eq, decide_not] at hsn
        simp [go_sem, hsn]
    · rw [if_neg h] at hsn
      refine W_ifs true (by simp [go_sem, h]) (fun _ => W_reg ?_) (fun h => by cases h)
      simp [go_sem, intsE_get, hlt]
      refine WL_push (s0 := s) (es := intsE F) (new := [I l[k]]) (by rw [intsE_length]; exact hT2) tel_23 (by simp [go_sem]) (by simp [go_sem]) (by simp [go_sem]) (by simp [go_sem]) (by simp [go_sem]) (by simp [go_sem]) (fun c => by simp [go_sem]) (by simp) (by simp [go_sem]) (fun q hq => intsE_len _ q hq) (by rw [intsE_length]; simp [go_sem]; omega) (by simp) (by simp) fun s3 hT3 _ _ _ _ c1 => WL_run _ _ _ ?_
      have he : intsE F ++ [[I l[k]]] = intsE (F ++ [l[k]]) := by rw [intsE_append]; rfl
      rw [he] at hT3 ⊢
      rw [intsE_length] at hT3
      simp [go_sem]
      refine W_reg ?_
      simp [go_sem, hw]
      refine ⟨_, ⟨rfl, ?_⟩, ?_⟩
      · simpa using (show TokI s s3 r 1 ((l.take (k + 1)).filter fun x => decide (x ≠ n)).length by rw [hsn]; exact hT3)
      · simp only [ne_eq, decide_not] at hsn
        simp [go_sem, hsn]
  · simp only [decide_eq_false_iff_not] at hge
    simp only [go_sem]
    have hkl : l.take k = l := List.take_of_length_le (by omega)
    rw [hkl] at hF
    refine W_seq (W_reg ?_)
    simp [go_sem]
    refine W_ret ?_
    simp only [go_sem]
    refine ⟨trivial, _, rfl, s, hT2.sub, ?_, rfl⟩
    rw [← hF]
    simp [go_sem]
set_option maxRecDepth 4000 in
theorem numberedR_c (l : List Int) (v : Int) (hnd : l.Nodup) : Pure Tryz.prog 110 [LI l, I v] (Bo (numsOk l v)) := by
  intro s
  refine CallC_of Tryz.func110 rfl (by rfl) Tryz.ntmps110 (by simp) ?_
  refine W_seq (W_reg ?_)
  simp [go_sem]
  refine W_len 0 (tok := none) (es := intsE l) (by simp [go_sem]) fun hla => ?_
  rw [intsE_length] at hla
  refine W_seq (W_seq (W_reg ?_))
  simp [go_sem]
  refine W_for l.length (fun k L s' => L = [(0, LI l), (1, I v), (5, I k)] ∧ s' = s ∧ ∀ j (hj : j < l.length), j < k → numB l[j] = true) (l0 := [(0, LI l), (1, I v), (5, I 0)]) (ds := []) ⟨rfl, rfl, fun j _ hj => by omega⟩ (by simp [go_sem]) rfl ?_
  rintro k _ s1 hk ⟨rfl, rfl, hall⟩ K hK
  refine W_reg ?_
  simp [go_sem, intsE_length]
  refine hK _ _ (decide (k < l.length)) [(0, LI l), (1, I v), (5, I k)] (by simp [go_sem]) (by simp [go_sem]) (by simp [go_sem]) (fun hlt => ?_) (fun hge => ?_)
  · simp only [decide_eq_true_eq] at hlt
    have hw := wrap_succ hlt (by omega)
    refine ⟨hlt, W_seq (W_seq (W_reg ?_))⟩
    simp [go_sem, intsE_get, hlt]
    refine Pure.use (isPage_c _) ?_
    cases hnb : numB l[k]
    · simp [go_sem]
      refine W_ifs true (by simp [go_sem]) (fun _ => W_seq (W_reg ?_)) (fun h => by cases h)
      simp [go_sem]
      refine W_ret ?_
      simp only [go_sem]
      refine ⟨trivial, _, rfl, _, Sub.refl _, ?_, rfl⟩
      have : (l.any fun n => !numB n) = true := List.any_eq_true.2 ⟨l[k], List.getElem_mem hlt, by rw [hnb]; rfl⟩
      simp [numsOk, this, go_sem]
    · simp [go_sem]
      refine W_ifs false (by simp [go_sem]) (fun h => by cases h) (fun _ => W_skip ?_)
      simp only [go_sem]
      refine W_keep [(0, LI l), (1, I v), (5, I k)] (by simp [go_sem]) ?_
      refine W_seq (W_reg ?_)
      simp [go_sem]
      refine W_for k (fun j L s' => L = [(0, LI l), (1, I v), (5, I k), (6, I j)] ∧ s' = s1) (l0 := [(0, LI l), (1, I v), (5, I k), (6, I 0)]) (ds := []) ⟨rfl, rfl⟩ (by simp [go_sem]) rfl ?_
      rintro j _ s2 hj ⟨rfl, rfl⟩ K2 hK2
      refine W_reg ?_
      simp [go_sem]
      refine hK2 _ _ (decide (j < k)) [(0, LI l), (1, I v), (5, I k), (6, I j)] (by simp [go_sem]) (by simp [go_sem]) (by simp [go_sem]) (fun hlt2 => ?_) (fun hge2 => ?_)
      · simp only [decide_eq_true_eq] at hlt2
        have hw2 := wrap_succ hlt2 (by omega)
        have hjl : j < l.length := by omega
        have hne : (l[j] == l[k]) = false := by
          have := (List.pairwise_iff_getElem.1 hnd) j k hjl hlt hlt2
          simpa using this
        refine ⟨hlt2, W_seq (W_drawr 9 Tryz.mixed (by kernel_rfl) ?_)⟩
        simp [go_sem, intsE_get, hlt, hjl, hne]
        refine W_ifs false (by simp [go_sem]) (fun h => by cases h) (fun _ => W_skip ?_)
        simp [go_sem]
        refine W_reg ?_
        simp [go_sem, hw2]
      · simp only [go_sem]
        refine W_reg ?_
        simp [go_sem, hw]
        refine ⟨_, ⟨rfl, fun i hi hik => ?_⟩, by simp [go_sem]⟩
        rcases Nat.lt_succ_iff_lt_or_eq.1 hik with h | h
        · exact hall i hi h
        · subst h; exact hnb
  · simp only [decide_eq_false_iff_not] at hge
    simp only [go_sem]
    have hany : (l.any fun n => !numB n) = false := by
      rw [List.any_eq_false]
      intro x hx
      obtain ⟨i, hi, rfl⟩ := List.getElem_of_mem hx
      rw [hall i hi (by omega)]
      simp
    refine W_seq (W_reg ?_)
    by_cases h0 : 0 ≤ v
    · simp [go_sem, h0]
      refine W_ret ?_
      simp only [go_sem]
      exact ⟨trivial, _, rfl, _, Sub.refl _, by simp [numsOk, hany, h0, go_sem], rfl⟩
    · simp [go_sem, h0]
      refine W_ret ?_
      simp only [go_sem]
      exact ⟨trivial, _, rfl, _, Sub.refl _, by simp [numsOk, hany, h0, go_sem], rfl⟩
end Go.Proofs.YtpmknffollpnaaaGreat
namespace Go.Proofs.YtpmknffollpnaaaGreat
open Go Go.VS
set_option maxRecDepth 4000 in
theorem freedR_c (n : Nat) (l : List Fr) (hs : Sz n l) (hn : n ≤ 1000000000) : Pure Tryz.prog 107 [LF l] (Bo (freedB l)) := by
  intro s
  refine CallC_of Tryz.func107 rfl (by rfl) Tryz.ntmps107 (by simp) ?_
  refine W_seq (W_reg ?_)
  simp [go_sem]
  refine W_seq (W_seq (W_reg ?_))
  simp [go_sem]
  have hsl := hs.len
  refine W_for l.length (fun k L s' => L = [(0, LF l), (3, I k)] ∧ Sub s' s ∧ ∀ j, j < k → badF l 4096 j = false) (l0 := [(0, LF l), (3, I 0)]) (ds := []) ⟨rfl, Sub.refl _, fun j hj => by omega⟩ (by simp [go_sem]) rfl ?_
  rintro k _ s1 hk ⟨rfl, hsub, hall⟩ K hK
  refine W_reg ?_
  simp [go_sem, frsE_length]
  refine hK _ _ (decide (k < l.length)) [(0, LF l), (3, I k)] (by simp [go_sem]) (by simp [go_sem]) (by simp [go_sem]) (fun hlt => ?_) (fun hge => ?_)
  · simp only [decide_eq_true_eq] at hlt
    have hw := wrap_succ hlt (by omega)
    refine ⟨hlt, W_seq (W_reg ?_)⟩
    simp [go_sem, frsE_get, hlt, frC]
    refine WL_alloc tzero_64 (by simp) fun bx hbx => WL_run _ _ _ ?_
    simp [go_sem]
    have hs3 := Sub.trans (sub_obj hbx [I l[k].v, LI l[k].p]) hsub
    have hlb : VS.look ({ s1 with objs := (bx, [I l[k].v, LI l[k].p]) :: s1.objs } : St).objs bx = some [I l[k].v, LI l[k].p] := by simp [VS.look]
    generalize ({ s1 with objs := (bx, [I l[k].v, LI l[k].p]) :: s1.objs } : St) = s3 at hs3 hlb ⊢
    have hkl : l.getD k ⟨0, []⟩ = l[k] := by simp [List.getD, hlt]
    have hpl := hs.p _ (List.getElem_mem hlt)
    refine W_seq (W_seq_k fun K3 hK3 => W_drawr 29 Tryz.mixed (by kernel_rfl) ?_)
    have key : ∀ E', Has E' [(44, Bo (badH l k)), (0, LF l), (3, I k), (4, .v (.pointer (some ⟨bx, 0, none⟩)))] → E'.ds = [] → K3 E' s3 := fun E' h1 h2 => hK3 _ _ (W_keep _ h1 (by
      rw [h2]
      refine W_ifs (badH l k) (by simp [go_sem]) (fun h => W_seq (W_reg ?_)) (fun h => W_skip ?_)
      · simp [go_sem]
        refine W_ret ?_
        simp only [go_sem]
        refine ⟨trivial, _, rfl, s, hs3, ?_, rfl⟩
        rw [freedB_bad hlt (by rw [badF_H hlt, h]; rfl)]
        simp [go_sem]
      · simp only [go_sem]
        refine W_keep [(0, LF l), (3, I k), (4, .v (.pointer (some ⟨bx, 0, none⟩)))] (by simp [go_sem]) ?_
        refine W_seq (W_reg ?_)
        simp [go_sem]
        refine W_for l[k].p.length (fun j L s' => L = [(0, LF l), (3, I k), (4, .v (.pointer (some ⟨bx, 0, none⟩))), (5, I j)] ∧ s' = s3 ∧ ∀ i, i < j → badI l[k].p 4096 i = false)
          (l0 := [(0, LF l), (3, I k), (4, .v (.pointer (some ⟨bx, 0, none⟩))), (5, I 0)]) (ds := []) ⟨rfl, rfl, fun i hi => by omega⟩ (by simp [go_sem]) rfl ?_
        rintro j _ s4 hj ⟨rfl, rfl, hall4⟩ K4 hK4
        refine W_reg ?_
        simp [go_sem, hlb, intsE_length]
        refine hK4 _ _ (decide (j < l[k].p.length)) [(0, LF l), (3, I k), (4, .v (.pointer (some ⟨bx, 0, none⟩))), (5, I j)] (by simp [go_sem]) (by simp [go_sem]) (by simp [go_sem]) (fun hlt2 => ?_) (fun hge2 => ?_)
        · simp only [decide_eq_true_eq] at hlt2
          have hw2 := wrap_succ hlt2 (by omega)
          have hpj : l[k].p.getD j 0 = l[k].p[j] := by simp [List.getD, hlt2]
          have hbI : badI l[k].p 4096 j = (!(numB l[k].p[j]) || (decide (0 < j) && decide (l[k].p.getD (j - 1) 0 ≥ l[k].p[j]))) := by simp only [badI, hpj, numB]; rfl
          refine ⟨hlt2, W_seq_k fun K6 hK6 => W_drawr 25 Tryz.mixed (by kernel_rfl) ?_⟩
          have key2 : ∀ E', Has E' [(76, Bo (badI l[k].p 4096 j)), (0, LF l), (3, I k), (4, .v (.pointer (some ⟨bx, 0, none⟩))), (5, I j)] → E'.ds = [] → K6 E' s4 := fun E' h1 h2 => hK6 _ _ (W_keep _ h1 (by
            rw [h2]
            refine W_ifs (badI l[k].p 4096 j) (by simp [go_sem]) (fun hb => W_seq (W_reg ?_)) (fun hb => W_skip ?_)
            · simp [go_sem]
              refine W_ret ?_
              simp only [go_sem]
              refine ⟨trivial, _, rfl, s, hs3, ?_, rfl⟩
              rw [freedB_bad hlt (by rw [badF_H hlt, incr_false hlt2 hb]; simp)]
              simp [go_sem]
            · simp [go_sem]
              refine W_reg ?_
              simp [go_sem, hw2]
              refine ⟨_, ⟨rfl, fun i hi => ?_⟩, by simp [go_sem]⟩
              rcases Nat.lt_succ_iff_lt_or_eq.1 hi with hi | hi
              · exact hall4 i hi
              · rw [hi]; exact hb))
          simp [go_sem, hlb, intsE_get, hlt2]
          refine ⟨_, isPage_c _, ?_⟩
          generalize numB l[k].p[j] = nb at hbI ⊢
          cases nb
          · simp [go_sem]
            exact key2 _ (by simp [go_sem, hbI]) (by simp [go_sem])
          · by_cases c4 : 0 < j
            · have e1 := wrap_pred (Nat.le_of_lt hlt2) (by omega) c4
              have hj1 : j - 1 < l[k].p.length := by omega
              have hp1 : l[k].p.getD (j - 1) 0 = l[k].p[j - 1] := by simp [List.getD, hj1]
              rw [hp1] at hbI
              simp [go_sem, c4, hlb, e1, intsE_get, hj1, hlt2]
              exact key2 _ (by simp [go_sem, hbI, c4]) (by simp [go_sem])
            · simp [go_sem, c4]
              exact key2 _ (by simp [go_sem, hbI, c4]) (by simp [go_sem])
        · simp only [decide_eq_false_iff_not] at hge2
          simp only [go_sem]
          refine W_reg ?_
          simp [go_sem, hw]
          refine ⟨_, ⟨rfl, hs3, fun i hi => ?_⟩, by simp [go_sem]⟩
          rcases Nat.lt_succ_iff_lt_or_eq.1 hi with hi | hi
          · exact hall i hi
          · rw [hi, badF_H hlt, h, incr_true fun i hi => hall4 i (by omega)]
            rfl))
    have hbH : badH l k = (!(decide (0 ≤ l[k].v) && decide (l[k].v ≤ 1099511627776)) || (decide (0 < k) && decide ((l.getD (k - 1) ⟨0, []⟩).v ≥ l[k].v)) || decide (l[k].p.length = 0)) := by simp only [badH, hkl]
    by_cases c1 : l[k].v < 0
    · simp [go_sem, hlb, c1]
      exact key _ (by simp [go_sem, hbH]; omega) (by simp [go_sem])
    · by_cases c2 : 1099511627776 < l[k].v
      · simp [go_sem, hlb, c1, c2]
        exact key _ (by simp [go_sem, hbH]; omega) (by simp [go_sem])
      · have hr : (decide (0 ≤ l[k].v) && decide (l[k].v ≤ 1099511627776)) = true := by simp; omega
        rw [hr] at hbH
        have hlen0 : ∀ q : Nat, ((q : Int) == 0) = decide (q = 0) := fun q => by
          by_cases h : q = 0 <;> simp [h]
        by_cases c3 : 0 < k
        · have e1 := wrap_pred (Nat.le_of_lt hlt) (by omega) c3
          have hk1 : k - 1 < l.length := by omega
          have hkl1 : l.getD (k - 1) ⟨0, []⟩ = l[k - 1] := by simp [List.getD, hk1]
          rw [hkl1] at hbH
          by_cases c4 : l[k].v ≤ l[k - 1].v
          · simp [go_sem, hlb, c1, c2, c3, e1, frsE_get, hk1, frC, c4]
            exact key _ (by simp [go_sem, hbH, c3, c4]) (by simp [go_sem])
          · simp [go_sem, hlb, c1, c2, c3, e1, frsE_get, hk1, frC, c4, intsE_length]
            exact key _ (by simp [go_sem, hbH, c3, c4, hlen0]) (by simp [go_sem])
        · simp [go_sem, hlb, c1, c2, c3, intsE_length]
          exact key _ (by simp [go_sem, hbH, c3, hlen0]) (by simp [go_sem])
  · simp only [decide_eq_false_iff_not] at hge
    simp only [go_sem]
    refine W_seq (W_reg ?_)
    simp [go_sem]
    refine W_ret ?_
    simp only [go_sem]
    refine ⟨trivial, _, rfl, s, hsub, ?_, rfl⟩
    rw [freedB_ok fun j hj => hall j (by omega)]
    simp [go_sem]
end Go.Proofs.YtpmknffollpnaaaGreat
namespace Go.Proofs.YtpmknffollpnaaaGreat
open Go Go.VS
theorem W_untok {s : St} {E : Env} {N : NR} {Q : VS.Ends} {c : Code} (t : Nat) {tok : Option Nat} {es : List (List C)} (ht : E.f t = .li tok es) (h : W Tryz.prog N c (E.set (some t) (.li none es)) s Q) : W Tryz.prog N c E s Q :=
  W_less ⟨(set_ds _ _ _).symm, fun k w g v hst hv => by
    rw [set_f]
    split
    · rename_i e; subst e; rw [ht] at hv; exact hv.drop1
    · exact hv⟩ h
structure PrtS (s s' : St) (r1 r2 n1 n2 : Nat) : Prop where
  sub : Sub s' s
  t1 : VS.look s'.toks r1 = some (1, n1)
  t2 : VS.look s'.toks r2 = some (2, n2)
  ne : r2 ≠ r1
  o1 : VS.look s.toks r1 = none
  o2 : VS.look s.toks r2 = none
theorem PrtS.k1 {s s' : St} {r1 r2 n1 n2 : Nat} (h : PrtS s s' r1 r2 n1 n2) : TokI s s' r1 1 n1 := ⟨h.sub, h.t1, h.o1⟩
theorem PrtS.k2 {s s' : St} {r1 r2 n1 n2 : Nat} (h : PrtS s s' r1 r2 n1 n2) : TokI s s' r2 2 n2 := ⟨h.sub, h.t2, h.o2⟩
theorem lpE_append (a b : List (List Fr)) : lpE (a ++ b) = lpE a ++ lpE b := by simp [lpE]
theorem frsE_append (a b : List Fr) : frsE (a ++ b) = frsE a ++ frsE b := by simp [frsE]
theorem lpE_len1 (l : List (List Fr)) : ∀ q ∈ lpE l, q.length = 1 := fun q hq => by
  simp only [lpE, List.mem_map] at hq
  obtain ⟨p, _, rfl⟩ := hq
  rfl
/-- The list that is told again when a part is full. -/
theorem new_tok {s s' : St} {r1 r2 n1 n2 r3 : Nat} (h : PrtS s s' r1 r2 n1 n2) (h3 : VS.look s'.toks r3 = none) : PrtS s { s' with toks := (r3, (2, 0)) :: s'.toks } r1 r3 n1 0 := by
  have e1 : r3 ≠ r1 := fun e => by subst e; rw [h.t1] at h3; cases h3
  refine ⟨⟨h.sub.objs, h.sub.rows, fun k x hk => lookCons h3 (h.sub.toks k x hk), h.sub.maps⟩, by simp [VS.look, e1, h.t1], by simp [VS.look], e1, h.o1, ?_⟩
  cases hq : VS.look s.toks r3 with
  | none => rfl
  | some x => have := h.sub.toks _ _ hq; rw [h3] at this; cases this
set_option maxRecDepth 4000 in
theorem parts_c (n : Nat) (l : List Fr) (hs : Sz n l) (hn : n ≤ 10000000) (hne : ∀ f ∈ l, f.p ≠ []) (ht : (nums l).length ≤ 10000000) : Pure Tryz.prog 108 [LF l] (.li none (lpE (partsP l))) := by
  intro s
  refine CallC_of Tryz.func108 rfl (by rfl) Tryz.ntmps108 (by simp) ?_
  refine W_seq (W_reg ?_)
  simp [go_sem]
  refine W_seq (W_reg ?_)
  simp [go_sem]
  refine W_tok 3 1 (by simp [go_sem]) fun r1 hr1 => ?_
  refine W_seq (W_reg ?_)
  simp [go_sem]
  refine W_tok 4 2 (by simp [go_sem]) fun r2 hr2 => ?_
  have hP : PrtS s { s with toks := (r2, (2, 0)) :: (r1, (1, 0)) :: s.toks } r1 r2 0 0 := by
    have e : r2 ≠ r1 := fun e => by subst e; simp [VS.look] at hr2
    refine ⟨⟨fun _ _ h => h, fun _ _ h => h, fun k x hk => lookCons hr2 (lookCons hr1 hk), fun _ _ h => h⟩, by simp [VS.look, e], by simp [VS.look], e, hr1, ?_⟩
    have : VS.look ((r1, (1, 0)) :: s.toks) r2 = none := hr2
    simpa [VS.look, Ne.symm e] using this
  generalize ({ s with toks := (r2, (2, 0)) :: (r1, (1, 0)) :: s.toks } : St) = s1 at hP ⊢
  clear hr1 hr2
  have hsl := hs.len
  have hpp := partsP_le l
  refine W_seq (W_reg ?_)
  simp [go_sem]
  refine W_seq (W_seq (W_reg ?_))
  simp [go_sem]
  refine W_for l.length (fun k L s' => ∃ (r2 room : Nat) (out : List (List Fr)) (now : List Fr), L = [(0, LF l), (6, I k), (3, .li (some r1) (lpE out)), (4, .li (some r2) (frsE now)), (5, I room)] ∧ PrtS s s' r1 r2 out.length now.length ∧ 12 * now.length + room ≤ 490 ∧ out ++ pRoom now room (l.drop k) = partsP l)
    (l0 := [(0, LF l), (6, I 0), (3, .li (some r1) []), (4, .li (some r2) []), (5, I 490)]) (ds := []) ⟨r2, 490, [], [], rfl, hP, by simp, by simpa using pRoom_start hs hne⟩ (by simp [go_sem]) rfl ?_
  rintro k _ s2 hk ⟨r2, room, out, now, rfl, hP2, hroom, hinv⟩ K hK
  refine W_reg ?_
  simp [go_sem, frsE_length]
  refine hK _ _ (decide (k < l.length)) [(0, LF l), (6, I k), (3, .li (some r1) (lpE out)), (4, .li (some r2) (frsE now)), (5, I room)] (by simp [go_sem]) (by simp [go_sem]) (by simp [go_sem]) (fun hlt => ?_) (fun hge => ?_)
  · simp only [decide_eq_true_eq] at hlt
    have hw := wrap_succ hlt (by omega)
    have hdrop : l.drop k = l[k] :: l.drop (k + 1) := List.drop_eq_getElem_cons hlt
    have hpl := hs.p _ (List.getElem_mem hlt)
    have hpne := hne _ (List.getElem_mem hlt)
    have hszd : Sz n (l.drop (k + 1)) := ⟨by have := hs.len; simp; omega, fun f hf => hs.p f (List.mem_of_mem_drop hf)⟩
    have hned : ∀ f ∈ l.drop (k + 1), f.p ≠ [] := fun f hf => hne f (List.mem_of_mem_drop hf)
    refine ⟨hlt, W_seq (W_reg ?_)⟩
    simp [go_sem, frsE_get, hlt, frC]
    refine W_keep [(0, LF l), (6, I k), (3, .li (some r1) (lpE out)), (4, .li (some r2) (frsE now)), (5, I room), (7, LI l[k].p)] (by simp [go_sem]) ?_
    have hstart : out ++ pRoom now room (remF l[k].v l[k].p (l.drop (k + 1))) = partsP l := by
      rw [← hinv, hdrop]
      unfold remF
      rw [if_neg hpne]
    generalize hx : l[k] = x at hpl hpne hstart
    refine W_while (2 * x.p.length + if room < 12 then 1 else 0) (fun m L s' => ∃ (r2 room : Nat) (out : List (List Fr)) (now : List Fr) (left : List Int), L = [(0, LF l), (6, I k), (3, .li (some r1) (lpE out)), (4, .li (some r2) (frsE now)), (5, I room), (7, LI left)] ∧ PrtS s s' r1 r2 out.length now.length ∧ 12 * now.length + room ≤ 490 ∧
      left.length ≤ n ∧ m = (2 * left.length + if room < 12 then 1 else 0) ∧ out ++ pRoom now room (remF x.v left (l.drop (k + 1))) = partsP l)
      (l0 := [(0, LF l), (6, I k), (3, .li (some r1) (lpE out)), (4, .li (some r2) (frsE now)), (5, I room), (7, LI x.p)]) (ds := []) ⟨r2, room, out, now, x.p, rfl, hP2, hroom, hpl, rfl, hstart⟩ (by simp [go_sem]) rfl ?_
    clear hP2 hroom hinv hstart hK
    rintro m _ s3 ⟨r2, room, out, now, left, rfl, hP3, hroom, hll, hm, hinv⟩ K2 hK2
    have hol : out.length ≤ (nums l).length := by
      have := congrArg List.length hinv
      rw [List.length_append] at this
      omega
    refine W_reg ?_
    simp [go_sem, intsE_length]
    refine hK2 _ _ (decide (0 < left.length)) [(0, LF l), (6, I k), (3, .li (some r1) (lpE out)), (4, .li (some r2) (frsE now)), (5, I room), (7, LI left)] (by simp [go_sem]) (by simp [go_sem]) (by simp [go_sem]) (fun hl0 K3 hK3 => ?_) (fun hl0 => ?_)
    · simp only [decide_eq_true_eq] at hl0
      have hlne : left ≠ [] := fun e => by subst e; simp at hl0
      have hw8 : IntKind.i64.wrap ((room : Int) - 8) = (room : Int) - 8 := wrap_in (by omega) (by omega)
      obtain ⟨q, hq, hq2⟩ : ∃ q : Int, IntKind.i64.wrap (((room : Int) - 8).tdiv 4) = q ∧ (12 ≤ room → q = (((room - 8) / 4 : Nat) : Int)) := by
        refine ⟨_, rfl, fun h => ?_⟩
        have e1 : (room : Int) - 8 = ((room - 8 : Nat) : Int) := by omega
        have e2 : ((room - 8 : Nat) : Int).tdiv 4 = (((room - 8) / 4 : Nat) : Int) := rfl
        rw [e1, e2, wrap_in (by omega) (by omega)]
      obtain ⟨mm, hmm, hmm2⟩ : ∃ mm : Int, (if (left.length : Int) < q then (left.length : Int) else q) = mm ∧ (12 ≤ room → mm = (min ((room - 8) / 4) left.length : Nat)) := by
        refine ⟨_, rfl, fun h => ?_⟩
        rw [hq2 h]
        split <;> omega
      refine W_seq (W_reg ?_)
      simp [go_sem, intsE_length, hw8, hq, hmm]
      refine W_keep [(0, LF l), (6, I k), (3, .li (some r1) (lpE out)), (4, .li (some r2) (frsE now)), (5, I room), (7, LI left), (8, I mm)] (by simp [go_sem]) ?_
      refine W_seq (W_seq (W_reg ?_))
      simp [go_sem]
      by_cases hr12 : room < 12
      · have hr12' : (room : Int) < 12 := by omega
        have hrem : remF x.v left (l.drop (k + 1)) ≠ [] := by unfold remF; rw [if_neg hlne]; simp
        have hszr : Sz (n + 1) (remF x.v left (l.drop (k + 1))) := by
          unfold remF; rw [if_neg hlne]
          refine ⟨by have := hszd.len; simp at this ⊢; omega, fun f hf => ?_⟩
          rcases List.mem_cons.1 hf with rfl | hf
          · simp; omega
          · have := hszd.p f hf; omega
        have hner : ∀ f ∈ remF x.v left (l.drop (k + 1)), f.p ≠ [] := by
          unfold remF; rw [if_neg hlne]
          intro f hf
          rcases List.mem_cons.1 hf with rfl | hf
          · exact hlne
          · exact hned f hf
        have hfull := pRoom_full hszr hner hrem hr12 (now := now)
        rw [hfull] at hinv
        refine W_ifs true (by simp [go_sem, hr12']) (fun _ => ?_) (fun h => by cases h)
        refine W_untok 4 (tok := some r2) (es := frsE now) (by simp [go_sem]) ?_
        refine W_seq (W_reg ?_)
        simp [go_sem]
        refine WL_push (s0 := s) (z := 1) (es := lpE out) (new := [LF now]) (by rw [lpE_length]; exact hP3.k1) tel_90 (by simp [go_sem]) (by simp [go_sem]) (by simp [go_sem]) (by simp [go_sem]) (by simp [go_sem]) (by simp [go_sem]) (fun c => by simp [go_sem]) (by simp) (by simp [go_sem]) (lpE_len1 _) (by rw [lpE_length]; simp [go_sem]; omega) (by simp) (by simp) fun s4 hT4 _ _ _ hoth c1 => WL_run _ _ _ ?_
        have he : lpE out ++ [[LF now]] = lpE (out ++ [now]) := by rw [lpE_append]; rfl
        rw [he] at hT4 ⊢
        rw [lpE_length] at hT4
        simp [go_sem]
        refine W_seq (W_reg ?_)
        simp [go_sem]
        refine W_tok 4 2 (by simp [go_sem]) fun r3 hr3 => ?_
        have hP4 : PrtS s s4 r1 r2 (out ++ [now]).length now.length := ⟨hT4.sub, hT4.tok, hoth _ _ hP3.t2 hP3.ne, hP3.ne, hP3.o1, hP3.o2⟩
        have hP5 := new_tok hP4 hr3
        refine W_seq (W_reg ?_)
        simp [go_sem]
        refine W_exit ?_
        simp only [go_sem, if_true]
        refine hK3 _ _ (2 * left.length) [(0, LF l), (6, I k), (3, .li (some r1) (lpE (out ++ [now]))), (4, .li (some r3) (frsE [])), (5, I (490 : Nat)), (7, LI left)] (by rw [hm, if_pos hr12]; omega) ⟨r3, 490, out ++ [now], [], left, rfl, hP5, by simp, hll, by simp, by rw [List.append_assoc]; exact hinv⟩ (by simp [go_sem, frsE]) (by simp [go_sem])
      · have hr12' : ¬ (room : Int) < 12 := by omega
        have h12 : 12 ≤ room := by omega
        have hmv := hmm2 h12
        have hq4 : (room - 8) / 4 ≤ 120 := by omega
        rw [pRoom_step hlne h12] at hinv
        generalize hk2 : min ((room - 8) / 4) left.length = kk at hmv hinv
        have hkl : kk ≤ left.length := by omega
        have hk1 : 1 ≤ kk := by omega
        have hk4 : 4 * kk + 8 ≤ room := by omega
        subst hmv
        refine W_ifs false (by simp [go_sem, hr12']) (fun h => by cases h) (fun _ => W_skip ?_)
        simp only [go_sem]
        refine W_keep [(0, LF l), (6, I k), (3, .li (some r1) (lpE out)), (4, .li (some r2) (frsE now)), (5, I room), (7, LI left), (8, I kk)] (by simp [go_sem]) ?_
        have hkI : (kk : Int) ≤ (left.length : Int) := by omega
        refine W_seq ?_
        refine W_draws (Ef := ?_) 12 [10, 11] (fun _ => True) Tryz.mixed (by kernel_rfl) trivial (fun s' _ => ?_) ?_
        rotate_left
        · simp [go_sem, frsE_get, hlt, frC, intsE_length, hkI, intsE_takeE]
          rw [if_pos (intsE_len left)]
          simp [go_sem, hx]
          rfl
        · refine LL_cons fun Q' hQ => ?_
          refine WL_buildSlice tel_26 (by simp [go_sem]) (by rfl) (by rfl) (by simp [VS.partsC, go_sem]) (by simp [VS.partsC, go_sem]) (by simp [go_sem]) (by simp) (by simp) fun r3 hr3 => hQ _ _ trivial ?_
          refine LL_cons fun Q' hQ => ?_
          refine WL_append (r := r2) (z := 2) (es := frsE now) (es2 := [frC ⟨x.v, left.take kk⟩]) tel_26 (by simp [go_sem]) (by simp [go_sem]) (by rw [frsE_length]; exact (hP3.k2.lit hr3 _).tok) (by simp [go_sem]) (by simp [go_sem]) (by simp [go_sem, elsC, VS.partsC, frC]) (by simp [frC]) (by simp [go_sem, frsE_length]; omega) (by simp [go_sem]) (by simp) (hQ _ _ trivial ?_)
          have he : frsE now ++ [frC ⟨x.v, left.take kk⟩] = frsE (now ++ [⟨x.v, left.take kk⟩]) := by rw [frsE_append]; rfl
          have hP4 : PrtS s { s3 with toks := putAt ((r3, (tsz Tryz.prog 64, 1)) :: s3.toks) r2 (2, (now ++ [(⟨x.v, left.take kk⟩ : Fr)]).length) } r1 r2 out.length (now ++ [(⟨x.v, left.take kk⟩ : Fr)]).length := by
            have h1 := (hP3.k2.lit hr3 (tsz Tryz.prog 64, 1)).put (now ++ [(⟨x.v, left.take kk⟩ : Fr)]).length
            refine ⟨h1.sub, ?_, h1.tok, hP3.ne, hP3.o1, hP3.o2⟩
            show VS.look (putAt ((r3, _) :: s3.toks) r2 _) r1 = _
            rw [look_putAt, if_neg (Ne.symm hP3.ne)]
            exact lookCons hr3 hP3.t1
          rw [he, frsE_length]
          generalize ({ s3 with toks := putAt ((r3, (tsz Tryz.prog 64, 1)) :: s3.toks) r2 (2, (now ++ [(⟨x.v, left.take kk⟩ : Fr)]).length) } : St) = s4 at hP4 ⊢
          refine LL_nil (WL_run _ _ _ ?_)
          simp [go_sem]
          refine W_seq (W_reg ?_)
          simp [go_sem, intsE_length, hkI]
          rw [if_pos (intsE_len left), intsE_slice]
          simp [go_sem]
          have hm4 : IntKind.i64.wrap (4 * (kk : Int)) = 4 * (kk : Int) := wrap_in (by omega) (by omega)
          have hr4 : IntKind.i64.wrap ((room : Int) - 8 - 4 * (kk : Int)) = ((room - 8 - 4 * kk : Nat) : Int) := by rw [wrap_in (by omega) (by omega)]; omega
          refine W_reg ?_
          simp [go_sem, hw8, hm4, hr4]
          refine hK3 _ _ (2 * (left.drop kk).length + if room - 8 - 4 * kk < 12 then 1 else 0) [(0, LF l), (6, I k), (3, .li (some r1) (lpE out)), (4, .li (some r2) (frsE (now ++ [⟨x.v, left.take kk⟩]))), (5, I ((room - 8 - 4 * kk : Nat) : Int)), (7, LI (left.drop kk))] (by rw [hm, List.length_drop, if_neg hr12]; split <;> omega)
            ⟨r2, room - 8 - 4 * kk, out, now ++ [⟨x.v, left.take kk⟩], left.drop kk, rfl, hP4, by simp; omega, by simp; omega, rfl, hinv⟩ (by simp [go_sem]) (by simp [go_sem])
    · simp only [decide_eq_false_iff_not] at hl0
      have hln : left = [] := List.eq_nil_of_length_eq_zero (by omega)
      subst hln
      have hinv' : out ++ pRoom now room (l.drop (k + 1)) = partsP l := hinv
      simp only [go_sem]
      refine W_reg ?_
      simp [go_sem, hw]
      exact ⟨_, ⟨r2, room, out, now, rfl, hP3, hroom, hinv'⟩, by simp [go_sem]⟩
  · simp only [decide_eq_false_iff_not] at hge
    simp only [go_sem]
    have hkl : l.drop k = [] := List.drop_of_length_le (by omega)
    rw [hkl, pRoom_nil] at hinv
    have hol : out.length ≤ (nums l).length := by
      have := congrArg List.length hinv
      rw [List.length_append] at this
      omega
    refine W_seq (W_seq (W_reg ?_))
    simp [go_sem, frsE_length]
    by_cases hnw : now = []
    · rw [if_pos hnw, List.append_nil] at hinv
      refine W_ifs false (by simp [go_sem, hnw]) (fun h => by cases h) (fun _ => W_skip ?_)
      simp only [go_sem]
      refine W_seq (W_reg ?_)
      simp [go_sem]
      refine W_ret ?_
      simp only [go_sem]
      refine ⟨trivial, _, rfl, s, hP2.sub, ?_, rfl⟩
      rw [← hinv]
      simp [go_sem]
    · rw [if_neg hnw] at hinv
      have hn0 := List.length_pos_iff.2 hnw
      refine W_ifs true (by simp [go_sem, hn0]) (fun _ => ?_) (fun h => by cases h)
      refine W_untok 4 (tok := some r2) (es := frsE now) (by simp [go_sem]) ?_
      refine W_reg ?_
      simp [go_sem]
      refine WL_push (s0 := s) (z := 1) (es := lpE out) (new := [LF now]) (by rw [lpE_length]; exact hP2.k1) tel_90 (by simp [go_sem]) (by simp [go_sem]) (by simp [go_sem]) (by simp [go_sem]) (by simp [go_sem]) (by simp [go_sem]) (fun c => by simp [go_sem]) (by simp) (by simp [go_sem]) (lpE_len1 _) (by rw [lpE_length]; simp [go_sem]; omega) (by simp) (by simp) fun s4 hT4 _ _ _ hoth c1 => WL_run _ _ _ ?_
      have he : lpE out ++ [[LF now]] = lpE (out ++ [now]) := by rw [lpE_append]; rfl
      rw [he, hinv] at hT4 ⊢
      simp [go_sem]
      refine W_seq (W_reg ?_)
      simp [go_sem]
      refine W_ret ?_
      simp only [go_sem]
      exact ⟨trivial, _, rfl, s, hT4.sub, by simp [go_sem], rfl⟩
theorem listNeedsR_c (n : Nat) (l : List Fr) (hs : Sz n l) (hn : n ≤ 10000000) (ht : (nums l).length ≤ 10000000) : Pure Tryz.prog 63 [LF l] (.agg [I (if freedB l then ((partsP l).length : Nat) else 0), I (if freedB l then 0 else 2)]) := by
  intro s
  refine CallC_of Tryz.func63 rfl (by rfl) Tryz.ntmps63 (by simp) ?_
  refine W_seq (W_reg ?_)
  simp [go_sem]
  refine WL_alloc tzero_114 (by simp) fun b hb => WL_run _ _ _ ?_
  simp [go_sem]
  refine W_seq (W_seq (W_reg ?_))
  simp [go_sem]
  refine Pure.use (freedR_c n l hs (by omega)) ?_
  cases hf : freedB l
  · simp [go_sem]
    refine W_ifs true (by simp [go_sem]) (fun _ => W_seq (W_reg ?_)) (fun h => by cases h)
    simp [go_sem, VS.look]
    refine W_ret ?_
    simp only [go_sem]
    exact ⟨trivial, _, by simp [go_sem, VS.look]; rfl, s, sub_obj hb _, by simp [go_sem], rfl⟩
  · have hne := freedB_ne hf
    simp [go_sem]
    refine W_ifs false (by simp [go_sem]) (fun h => by cases h) (fun _ => W_skip ?_)
    simp only [go_sem]
    refine W_seq (W_reg ?_)
    simp [go_sem]
    refine Pure.use (parts_c n l hs hn hne ht) ?_
    simp [go_sem, VS.look, lpE_length]
    refine W_ret ?_
    simp only [go_sem]
    exact ⟨trivial, _, by simp [go_sem, VS.look]; rfl, s, sub_obj hb _, by simp [go_sem], rfl⟩
end Go.Proofs.YtpmknffollpnaaaGreat
namespace Go.Proofs.YtpmknffollpnaaaGreat
open Go Go.VS
theorem TokI.objput {s0 s1 : St} {r z n b : Nat} (h : TokI s0 s1 r z n) (hb : VS.look s0.objs b = none) (cs : List C) : TokI s0 { s1 with objs := putAt s1.objs b cs } r z n := ⟨sub_put h.sub hb cs, h.tok, h.new⟩
theorem Sub.none_of {s s' : St} (h : Sub s' s) {b : Nat} (hb : VS.look s'.objs b = none) : VS.look s.objs b = none := by
  cases hq : VS.look s.objs b with
  | none => rfl
  | some x => have := h.objs _ _ hq; rw [hb] at this; cases this
theorem rgE_succ (n : Nat) (F : Nat → List C) : rgE (n + 1) F = rgE n F ++ [F n] := by simp [rgE, List.range_succ]
theorem rgE_all10 (n : Nat) (F : Nat → List C) (h : ∀ i, (F i).length = 10) : ∀ q ∈ rgE n F, q.length = 10 := fun q hq => by
  simp only [rgE, List.mem_map] at hq
  obtain ⟨i, _, rfl⟩ := hq
  exact h i
structure LpS (s s' : St) (r b6 n : Nat) : Prop where
  tk : TokI s s' r 10 n
  v6 : VS.look s'.objs b6 = some [.v (.slice none 0 0), I 0]
def lpF (l : List Fr) (nos : List Int) (ver : Int) (i : Nat) : List C := mkPg 4 (nos.getD i 0) ver (nos.getD (i + 1) 0) (frP (partsP l) i)
theorem lpF_C (l : List Fr) (nos : List Int) (ver : Int) (h : listPagesE l nos ver = 0) : listPagesC l nos ver = rgE nos.length (lpF l nos ver) := by
  unfold listPagesC
  rw [if_pos h]
  refine rgE_congr _ _ _ fun i hi => ?_
  unfold chF lpF
  rw [if_pos hi]
set_option maxRecDepth 8000 in
theorem listPagesR_c (n : Nat) (l : List Fr) (nos : List Int) (ver : Int) (hs : Sz n l) (hn : n ≤ 10000000) (ht : (nums l).length ≤ 10000000) (hl : nos.length ≤ 1000000) (hnd : nos.Nodup) :
    Pure Tryz.prog 65 [LF l, LI nos, I ver] (.agg [.li none (listPagesC l nos ver), I (listPagesE l nos ver)]) := by
  intro s
  refine CallC_of Tryz.func65 rfl (by rfl) Tryz.ntmps65 (by simp) ?_
  refine W_seq (W_reg ?_)
  simp [go_sem]
  refine WL_alloc tzero_117 (by simp) fun b6 hb6 => WL_run _ _ _ ?_
  simp [go_sem]
  refine W_seq (W_seq (W_reg ?_))
  simp [go_sem]
  refine Pure.use (freedR_c n l hs (by omega)) ?_
  have hE : listPagesE l nos ver = if freedB l then (if decide (nos.length < (partsP l).length) || !(numsOk nos ver) then 1 else 0) else 2 := rfl
  have err : ∀ (e : Int) (s' : St), listPagesE l nos ver = e → e ≠ 0 → (.agg [.li none [], I e] : C) = .agg [.li none (listPagesC l nos ver), I (listPagesE l nos ver)] := fun e s' h h0 => by
    unfold listPagesC
    rw [h, if_neg h0]
  cases hf : freedB l
  · simp [go_sem]
    refine W_ifs true (by simp [go_sem]) (fun _ => W_seq (W_reg ?_)) (fun h => by cases h)
    simp [go_sem, VS.look]
    refine W_ret ?_
    simp only [go_sem]
    refine ⟨trivial, _, by simp [go_sem, VS.look]; rfl, s, sub_obj hb6 _, ?_, rfl⟩
    simp [go_sem]
    exact ⟨by unfold listPagesC; rw [hE, hf]; rfl, by rw [hE, hf]; rfl⟩
  have hne := freedB_ne hf
  simp [go_sem]
  refine W_ifs false (by simp [go_sem]) (fun h => by cases h) (fun _ => W_skip ?_)
  simp only [go_sem]
  refine W_keep [(0, LF l), (1, LI nos), (2, I ver), (6, ptr b6 0)] (by simp [go_sem]) ?_
  refine W_seq (W_reg ?_)
  simp [go_sem]
  refine Pure.use (parts_c n l hs hn hne ht) ?_
  simp [go_sem]
  refine W_keep [(1, LI nos), (2, I ver), (6, ptr b6 0), (7, .li none (lpE (partsP l)))] (by simp [go_sem]) ?_
  have hpl := partsP_le l
  refine W_seq (W_seq_k fun K hK => W_reg ?_)
  have key : ∀ E' t, Has E' [(27, Bo t), (1, LI nos), (2, I ver), (6, ptr b6 0), (7, .li none (lpE (partsP l)))] → E'.ds = [] → t = (decide (nos.length < (partsP l).length) || !(numsOk nos ver)) → K E' { s with objs := (b6, [.v (.slice none 0 0), I 0]) :: s.objs } := fun E' t h1 h2 ht => hK _ _ (W_keep _ h1 (by
    rw [h2]
    rw [hf, ← ht] at hE
    refine W_ifs t (by simp [go_sem]) (fun h => W_seq (W_reg ?_)) (fun h => W_skip ?_)
    · simp [go_sem, VS.look]
      refine W_ret ?_
      simp only [go_sem]
      refine ⟨trivial, _, by simp [go_sem, VS.look]; rfl, s, sub_obj hb6 _, ?_, rfl⟩
      simp [go_sem]
      have hE1 : listPagesE l nos ver = 1 := by rw [hE, h]; rfl
      exact ⟨by unfold listPagesC; rw [hE1]; rfl, hE1.symm⟩
    · have hE0 : listPagesE l nos ver = 0 := by rw [hE, h]; rfl
      simp only [go_sem]
      refine W_keep [(1, LI nos), (2, I ver), (6, ptr b6 0), (7, .li none (lpE (partsP l)))] (by simp [go_sem]) ?_
      refine W_seq (W_reg ?_)
      simp [go_sem]
      refine W_tok 8 10 (by simp [go_sem]) fun r hr => ?_
      have hL : LpS s { s with objs := (b6, [.v (.slice none 0 0), I 0]) :: s.objs, toks := (r, (10, 0)) :: s.toks } r b6 0 := ⟨⟨⟨(sub_obj hb6 _).objs, fun _ _ h => h, fun k x hk => lookCons hr hk, fun _ _ h => h⟩, by simp [VS.look], hr⟩, by simp [VS.look]⟩
      refine (fun (h : ∀ s1 : St, LpS s s1 r b6 0 → W Tryz.prog ⟨67, none⟩ _ _ s1 _) => h _ hL) ?_
      clear hL hr hK
      intro s1 hL
      refine W_seq_k fun K hK => W_seq (W_reg ?_)
      simp [go_sem]
      refine W_for nos.length (fun k L s' => L = [(1, LI nos), (2, I ver), (6, ptr b6 0), (7, .li none (lpE (partsP l))), (9, I k), (8, .li (some r) (rgE k (lpF l nos ver)))] ∧ LpS s s' r b6 k)
        (l0 := [(1, LI nos), (2, I ver), (6, ptr b6 0), (7, .li none (lpE (partsP l))), (9, I 0), (8, .li (some r) [])]) (ds := []) ⟨by simp [rgE], hL⟩ (by simp [go_sem]) rfl ?_
      rintro k _ s2 hk ⟨rfl, hL2⟩ K2 hK2
      refine W_reg ?_
      simp [go_sem, intsE_length]
      refine hK2 _ _ (decide (k < nos.length)) [(1, LI nos), (2, I ver), (6, ptr b6 0), (7, .li none (lpE (partsP l))), (9, I k), (8, .li (some r) (rgE k (lpF l nos ver)))] (by simp [go_sem]) (by simp [go_sem]) (by simp [go_sem]) (fun hlt => ?_) (fun hge => ?_)
      · simp only [decide_eq_true_eq] at hlt
        have hw := wrap_succ hlt (by omega)
        refine ⟨hlt, W_seq (W_reg ?_)⟩
        simp [go_sem, intsE_get, hlt]
        refine WL_alloc tzero_89 (by simp) fun bx hbx => WL_run _ _ _ ?_
        simp [go_sem, VS.look]
        have hbxs := Sub.none_of hL2.tk.sub hbx.1
        have hb6x : b6 ≠ bx := fun e => by subst e; have := hL2.v6; rw [hbx.1] at this; cases this
        have hL3 : LpS s { s2 with objs := (bx, mkPg 4 nos[k] ver 0 (.v (.slice none 0 0))) :: s2.objs } r b6 k := ⟨hL2.tk.obj hbx _, lookCons hbx.1 hL2.v6⟩
        refine (fun (h : ∀ s3 : St, LpS s s3 r b6 k → VS.look s3.objs bx = some (mkPg 4 nos[k] ver 0 (.v (.slice none 0 0))) → W Tryz.prog ⟨67, none⟩ _ _ s3 _) => h _ hL3 (by simp [VS.look])) ?_
        clear hL3 hL2 hbx hK2
        intro s3 hL3 hlb
        refine W_keep [(1, LI nos), (2, I ver), (6, ptr b6 0), (7, .li none (lpE (partsP l))), (9, I k), (8, .li (some r) (rgE k (lpF l nos ver))), (10, ptr bx 0)] (by simp [go_sem]) ?_
        refine W_seq_k fun K3 hK3 => W_seq (W_reg ?_)
        have key1 : ∀ E' s4, Has E' [(1, LI nos), (2, I ver), (6, ptr b6 0), (7, .li none (lpE (partsP l))), (9, I k), (8, .li (some r) (rgE k (lpF l nos ver))), (10, ptr bx 0)] → E'.ds = [] → LpS s s4 r b6 k → VS.look s4.objs bx = some (mkPg 4 nos[k] ver 0 (frP (partsP l) k)) → K3 E' s4 := fun E' s4 h1 h2 hL4 hlb4 => hK3 _ _ (W_keep _ h1 (by
          rw [h2]
          clear hK3 hL3 hlb
          refine W_seq_k fun K4 hK4 => W_seq (W_reg ?_)
          have key2 : ∀ E' s5, Has E' [(1, LI nos), (2, I ver), (6, ptr b6 0), (7, .li none (lpE (partsP l))), (9, I k), (8, .li (some r) (rgE k (lpF l nos ver))), (10, ptr bx 0)] → E'.ds = [] → LpS s s5 r b6 k → VS.look s5.objs bx = some (lpF l nos ver k) → K4 E' s5 := fun E' s5 h1 h2 hL5 hlb5 => hK4 _ _ (W_keep _ h1 (by
            rw [h2]
            clear hK4 hL4 hlb4
            refine W_reg ?_
            simp only [lpF, mkPg] at hlb5
            simp [go_sem, hlb5]
            have hall := rgE_all10 k (lpF l nos ver) fun i => rfl
            refine WL_push (s0 := s) (z := 10) (es := rgE k (lpF l nos ver)) (new := lpF l nos ver k) (by rw [rgE_len]; exact hL5.tk) tel_22 (by simp [go_sem]) (by simp [go_sem]) (by simp [go_sem]) (by simp [go_sem]) (by simp [go_sem]) (by simp [go_sem, lpF, mkPg]) (fun c => by simp [go_sem]) rfl (mkPg_one _ _ _ _ _ (frP_one _ _)) hall (by rw [rgE_len]; simp [go_sem]; omega) (by simp) (by simp) fun s6 hT6 ho _ _ _ c1 => WL_run _ _ _ ?_
            rw [← rgE_succ] at hT6 ⊢
            rw [rgE_len] at hT6
            have hL6 : LpS s s6 r b6 (k + 1) := ⟨hT6, by rw [ho]; exact hL5.v6⟩
            simp [go_sem]
            refine W_reg ?_
            simp [go_sem, hw]
            exact ⟨_, ⟨rfl, hL6⟩, by simp [go_sem]⟩))
          simp [go_sem, intsE_length, hw]
          by_cases hk1 : k + 1 < nos.length
          · have hk1' : ((k + 1 : Nat) : Int) < (nos.length : Int) := by omega
            refine W_ifs true (by simp [go_sem]; omega) (fun _ => W_reg ?_) (fun h => by cases h)
            simp only [mkPg] at hlb4
            have hk0 : (0 : Int) ≤ (k : Int) + 1 := by omega
            simp [go_sem, hw, intsE_get, hlb4, hk1, hk0]
            refine key2 _ _ (by simp [go_sem]) (by simp [go_sem]) ⟨hL4.tk.objput hbxs _, ?_⟩ ?_
            · show VS.look (putAt s4.objs bx _) b6 = _
              rw [look_putAt, if_neg hb6x]
              exact hL4.v6
            · show VS.look (putAt s4.objs bx _) bx = _
              rw [look_putAt, if_pos rfl, hlb4]
              simp [lpF, mkPg, hk1, hlt]
          · have hk1' : ¬ k + 1 < nos.length := hk1
            refine W_ifs false (by simp [go_sem]; omega) (fun h => by cases h) (fun _ => W_skip ?_)
            simp only [go_sem]
            refine key2 _ _ (by simp [go_sem]) (by simp [go_sem]) hL4 ?_
            rw [hlb4]
            simp [lpF, mkPg, hk1, hlt]))
        simp [go_sem, lpE_length]
        by_cases hkp : k < (partsP l).length
        · refine W_ifs true (by simp [go_sem, hkp]) (fun _ => W_reg ?_) (fun h => by cases h)
          simp only [mkPg] at hlb
          simp [go_sem, lpE_get, hkp, hlb]
          refine key1 _ _ (by simp [go_sem]) (by simp [go_sem]) ⟨hL3.tk.objput hbxs _, ?_⟩ ?_
          · show VS.look (putAt s3.objs bx _) b6 = _
            rw [look_putAt, if_neg hb6x]
            exact hL3.v6
          · show VS.look (putAt s3.objs bx _) bx = _
            rw [look_putAt, if_pos rfl, hlb]
            simp [frP, mkPg, hkp]
        · refine W_ifs false (by simp [go_sem, hkp]) (fun h => by cases h) (fun _ => W_skip ?_)
          simp only [go_sem]
          refine key1 _ _ (by simp [go_sem]) (by simp [go_sem]) hL3 ?_
          rw [hlb]
          have : (partsP l)[k]? = none := List.getElem?_eq_none (by omega)
          simp [frP, this]
      · simp only [decide_eq_false_iff_not] at hge
        have hkn : k = nos.length := by omega
        subst hkn
        simp only [go_sem]
        refine hK _ _ ?_
        refine W_seq (W_reg ?_)
        simp [go_sem, hL2.v6]
        refine W_ret ?_
        simp only [go_sem]
        refine ⟨trivial, .agg [.li (some r) (rgE nos.length (lpF l nos ver)), I 0], by simp [go_sem, look_putAt, hL2.v6], s, sub_put hL2.tk.sub hb6.1 _, ?_, rfl⟩
        rw [lpF_C l nos ver hE0, hE0]
        simp [go_sem]))
  simp [go_sem, intsE_length, lpE_length]
  by_cases hlt : nos.length < (partsP l).length
  · simp [go_sem, hlt]
    exact key _ _ (by simp [go_sem]; rfl) (by simp [go_sem]) (by simp [hlt])
  · simp [go_sem, hlt]
    refine Pure.use (numberedR_c nos ver hnd) ?_
    simp [go_sem]
    exact key _ (!(numsOk nos ver)) (by simp [go_sem]) (by simp [go_sem]) (by simp [hlt])
end Go.Proofs.YtpmknffollpnaaaGreat
namespace Go.Proofs.YtpmknffollpnaaaGreat
open Go Go.VS
set_option maxRecDepth 4000 in
theorem removeR_c (n : Nat) (v x : Int) (ps : List Int) (r : List Fr) (hs : Sz n (⟨v, x :: ps⟩ :: r)) (hn : n ≤ 10000000) (hp : (x :: ps).Pairwise (· < ·)) :
    Pure Tryz.prog 64 [LF (⟨v, x :: ps⟩ :: r), I x] (LF (leastL (⟨v, x :: ps⟩ :: r))) := by
  intro s
  refine CallC_of Tryz.func64 rfl (by rfl) Tryz.ntmps64 (by simp) ?_
  have hlen := hs.len
  have hpl := hs.p _ (List.mem_cons_self ..)
  simp only [List.length_cons] at hlen hpl
  refine W_seq (W_reg ?_)
  simp [go_sem]
  refine W_seq (W_drawa (d := 5) (t0 := 64) 12 11 Tryz.mixed (by kernel_rfl) (by simp) tzero_64 (by rfl) ?_)
  simp [go_sem, frsE, frC]
  refine ⟨_, without_c (x :: ps) x (by simp; omega), ?_⟩
  rw [without_head hp]
  simp [go_sem]
  intro b5 hb5
  have hsub := sub_obj hb5 [I v, LI ps]
  refine (fun (h : ∀ s1 : St, Sub s1 s → VS.look s1.objs b5 = some [I v, LI ps] → W Tryz.prog ⟨28, none⟩ _ _ s1 _) => h _ hsub (by simp [VS.look])) ?_
  clear hsub hb5
  intro s1 hsub hb5
  refine W_keep [(0, LF (⟨v, x :: ps⟩ :: r)), (5, ptr b5 0)] (by simp [go_sem, frsE, frC]) ?_
  refine W_seq (W_seq (W_reg ?_))
  simp [go_sem, hb5, intsE_length]
  have htk : List.take r.length (List.map frC r) = List.map frC r := by rw [List.take_of_length_le (by simp)]
  by_cases hps : ps = []
  · refine W_ifs true (by simp [go_sem, hps]) (fun _ => W_seq (W_reg ?_)) (fun h => by cases h)
    simp [go_sem, frsE_length]
    rw [if_pos ⟨by omega, fun q hq => frsE_len _ q hq⟩]
    simp [go_sem]
    refine W_ret ?_
    simp only [go_sem]
    refine ⟨trivial, _, rfl, s, hsub, ?_, rfl⟩
    simp [go_sem, leastL, hps, frsE, htk]
  · refine W_ifs false (by simp [go_sem, hps]) (fun h => by cases h) (fun _ => W_skip ?_)
    simp only [go_sem]
    refine W_seq ?_
    refine W_draws (Ef := ?_) 5 [1, 4] (fun s' => VS.look s'.objs b5 = some [I v, LI ps]) Tryz.mixed (by kernel_rfl) hb5 (fun s' hs' => ?_) ?_
    rotate_left
    · simp [go_sem, hs', frsE_length]
      rw [if_pos ⟨by omega, fun q hq => frsE_len _ q hq⟩]
      simp [go_sem]
      rfl
    · refine LL_cons fun Q' hQ => ?_
      refine WL_buildSlice tel_26 (by simp [go_sem]) (by rfl) (by rfl) (by simp [VS.partsC, go_sem]) (by simp [VS.partsC, go_sem]) (by simp [go_sem]) (by simp) (by simp) fun r3 hr3 => hQ _ _ hb5 ?_
      refine LL_cons fun Q' hQ => ?_
      refine WL_append (r := r3) (z := 2) (es := [[I v, LI ps]]) (es2 := frsE r) tel_26 (by simp [go_sem]) (by simp [go_sem, VS.partsC]) (by simp [VS.look, go_sem]) (by simp [go_sem]) (by simp [go_sem]) (by simp [go_sem, elsC, frsE, htk]) (frsE_len r) (by simp [go_sem, frsE_length]; omega) (by simp [go_sem]) (by simp) (hQ _ _ hb5 ?_)
      refine LL_nil (WL_run _ _ _ ?_)
      simp [go_sem]
      refine W_ret ?_
      simp only [go_sem]
      refine ⟨trivial, _, rfl, s, Sub.trans (s' := s1) ⟨fun _ _ h => h, fun _ _ h => h, fun k y hk => ?_, fun _ _ h => h⟩ hsub, ?_, rfl⟩
      · have hne : k ≠ r3 := fun e => by subst e; rw [hr3] at hk; cases hk
        simp [VS.look, putAt, hk, Ne.symm hne]
      · simp [go_sem, leastL, hps, frsE, frC]
structure ApS (s s' : St) (b r N : Nat) (ns : List Int) (n : Nat) : Prop where
  tk : TokI s s' r 1 n
  row : VS.look s'.rows b = some (1, metE N ns)
  new : VS.look s.rows b = none
set_option maxRecDepth 4000 in
theorem apart_c (N : Nat) (a b : List Int) (l : List Fr) (hN : N ≤ 1000000) (ha : a.length ≤ 10000000) (hb : b.length ≤ 10000000) (ht : (nums l).length ≤ 10000000) (hl : l.length ≤ 10000000) (hr : ∀ x ∈ a ++ b ++ nums l, 0 ≤ x ∧ x < (N : Int)) :
    Pure Tryz.prog 60 [LI a, LI b, LF l, I N] (Bo (apartB a b l)) := by
  intro s
  refine CallC_of Tryz.func60 rfl (by rfl) Tryz.ntmps60 (by simp) ?_
  refine W_seq (W_reg ?_)
  simp [go_sem]
  refine W_seq (W_reg ?_)
  simp [go_sem]
  refine WL_makeSlice (n := N) (k := .i64) (zs := [Bo false]) (by simp [go_sem]) (by simp [go_sem]) tel_123 tzero_4 (by simp [go_sem]) (by simp [go_sem]) (by simp [go_sem]; omega) (by unfold maxLen; omega) (by simp) fun bm hb1 hb2 => WL_run _ _ _ ?_
  simp [go_sem]
  refine W_seq (W_reg ?_)
  simp [go_sem]
  refine WL_buildSlice tel_23 (by simp [go_sem]) (by rfl) (by rfl) (by simp [VS.partsC, go_sem]) (by simp [VS.partsC, go_sem]) (by simp [go_sem]) (by simp) (by simp) fun r hr => WL_run _ _ _ ?_
  simp [go_sem, VS.partsC]
  refine WL_append (r := r) (z := 1) (es := []) (es2 := intsE a) tel_23 (by simp [go_sem]) (by simp [go_sem]) (by simp [VS.look, go_sem]) (by simp [go_sem]) (by simp [go_sem]) (by simp [go_sem, elsC]) (intsE_len a) (by simp [go_sem, intsE_length]; omega) (by simp [go_sem]) (by simp) (WL_run _ _ _ ?_)
  simp [go_sem]
  refine WL_append (r := r) (z := 1) (es := intsE a) (es2 := intsE b) tel_23 (by simp [go_sem]) (by simp [go_sem]) (by simp [VS.look, go_sem]) (by simp [go_sem]) (by simp [go_sem]) (by simp [go_sem, elsC]) (intsE_len b) (by simp [go_sem, intsE_length]; omega) (by simp [go_sem]) (by simp) (WL_run _ _ _ ?_)
  have hA0 : ApS s (St.mk s.objs ((bm, (1, List.replicate N [Bo false])) :: s.rows) ((r, (1, (intsE a ++ intsE b).length)) :: s.toks) s.maps) bm r N [] (intsE a ++ intsE b).length :=
    ⟨⟨⟨fun _ _ h => h, fun k x hk => lookCons hb1 hk, fun k x hk => lookCons hr hk, fun _ _ h => h⟩, by simp [VS.look], hr⟩, by simp [VS.look, metE_nil], hb1⟩
  simp [go_sem]
  rw [← intsE_append] at hA0 ⊢
  rw [intsE_length] at hA0
  refine (fun (h : ∀ s1 : St, ApS s s1 bm r N [] (a ++ b).length → W Tryz.prog ⟨52, none⟩ _ _ s1 _) => h _ (by simpa [intsE_length] using hA0)) ?_
  clear hA0 hr hb1 hb2
  intro s1 hA1
  refine W_keep [(2, LF l), (9, .rs bm N), (10, .li (some r) (intsE (a ++ b)))] (by simp [go_sem]) ?_
  refine W_seq (W_seq (W_reg ?_))
  simp [go_sem]
  refine W_for l.length (fun k L s' => L = [(2, LF l), (9, .rs bm N), (10, .li (some r) (intsE (a ++ b ++ nums (l.take k)))), (11, I k)] ∧ ApS s s' bm r N [] (a ++ b ++ nums (l.take k)).length)
    (l0 := [(2, LF l), (9, .rs bm N), (10, .li (some r) (intsE (a ++ b))), (11, I 0)]) (ds := []) ⟨by simp [nums_nil], by simpa [nums_nil] using hA1⟩ (by simp [go_sem]) rfl ?_
  rintro k _ s2 hk ⟨rfl, hA2⟩ K hK
  refine W_reg ?_
  simp [go_sem, frsE_length]
  refine hK _ _ (decide (k < l.length)) [(2, LF l), (9, .rs bm N), (10, .li (some r) (intsE (a ++ b ++ nums (l.take k)))), (11, I k)] (by simp [go_sem]) (by simp [go_sem]) (by simp [go_sem]) (fun hlt => ?_) (fun hge => ?_)
  · simp only [decide_eq_true_eq] at hlt
    have hw := wrap_succ hlt (by omega)
    have hsn := nums_take_succ l k hlt
    have hnk := nums_take l (k + 1)
    rw [hsn, List.length_append] at hnk
    refine ⟨hlt, W_reg ?_⟩
    simp [go_sem, frsE_get, hlt, frC]
    refine WL_append (r := r) (z := 1) (es := intsE (a ++ b ++ nums (l.take k))) (es2 := intsE l[k].p) tel_23 (by simp [go_sem]) (by simp [go_sem]) (by rw [intsE_length]; exact hA2.tk.tok) (by simp [go_sem]) (by simp [go_sem]) (by simp [go_sem, elsC]) (intsE_len _) (by simp [go_sem, intsE_length]; omega) (by simp [go_sem]) (by simp) (WL_run _ _ _ ?_)
    rw [← intsE_append, List.append_assoc (a ++ b), ← hsn, intsE_length]
    have hA3 : ApS s { s2 with toks := putAt s2.toks r (1, (a ++ b ++ nums (l.take (k + 1))).length) } bm r N [] (a ++ b ++ nums (l.take (k + 1))).length := ⟨hA2.tk.put _, hA2.row, hA2.new⟩
    generalize ({ s2 with toks := putAt s2.toks r (1, (a ++ b ++ nums (l.take (k + 1))).length) } : St) = s3 at hA3 ⊢
    simp [go_sem]
    refine W_reg ?_
    simp [go_sem, hw]
    exact ⟨_, ⟨rfl, by simpa using hA3⟩, by simp [go_sem]⟩
  · simp only [decide_eq_false_iff_not] at hge
    have hkl : l.take k = l := List.take_of_length_le (by omega)
    rw [hkl] at hA2 ⊢
    generalize hall : a ++ b ++ nums l = all at hA2 hr ⊢
    have hB : apartB a b l = decide all.Nodup := by unfold apartB; rw [hall]
    have hal : all.length ≤ 100000000 := by rw [← hall]; simp; omega
    simp only [go_sem]
    refine W_keep [(9, .rs bm N), (10, .li (some r) (intsE all))] (by simp [go_sem]) ?_
    refine W_seq (W_seq (W_reg ?_))
    simp [go_sem]
    refine W_for all.length (fun j L s' => L = [(9, .rs bm N), (10, .li (some r) (intsE all)), (12, I j)] ∧ ApS s s' bm r N (all.take j) all.length ∧ (all.take j).Nodup)
      (l0 := [(9, .rs bm N), (10, .li (some r) (intsE all)), (12, I 0)]) (ds := []) ⟨rfl, by simpa using hA2, by simp⟩ (by simp [go_sem]) rfl ?_
    clear hA2 hA1
    rintro j _ s3 hj ⟨rfl, hA3, hnd⟩ K2 hK2
    refine W_reg ?_
    simp [go_sem, intsE_length]
    refine hK2 _ _ (decide (j < all.length)) [(9, .rs bm N), (10, .li (some r) (intsE all)), (12, I j)] (by simp [go_sem]) (by simp [go_sem]) (by simp [go_sem]) (fun hlt => ?_) (fun hge => ?_)
    · simp only [decide_eq_true_eq] at hlt
      have hw := wrap_succ hlt (by omega)
      have hsn : all.take (j + 1) = all.take j ++ [all[j]] := List.take_succ_eq_append_getElem hlt
      have hx := hr _ (List.getElem_mem hlt)
      have hxN : all[j].toNat < N := by omega
      have htn : ((all[j].toNat : Nat) : Int) = all[j] := Int.toNat_of_nonneg hx.1
      have hget := metE_get N (all.take j) _ hxN
      rw [htn] at hget
      have hset := metE_set N (all.take j) all[j] hx.1 hx.2
      refine ⟨hlt, W_seq (W_seq (W_reg ?_))⟩
      simp [go_sem, intsE_get, hlt, hx.1, hx.2, hA3.row, hget]
      by_cases hm : all[j] ∈ all.take j
      · refine W_ifs true (by simp [go_sem, hm]) (fun _ => W_seq (W_reg ?_)) (fun h => by cases h)
        simp [go_sem]
        refine W_ret ?_
        simp only [go_sem]
        refine ⟨trivial, _, rfl, s, hA3.tk.sub, ?_, rfl⟩
        have : ¬ all.Nodup := fun hd => by
          have h1 : (all.take (j + 1)).Nodup := hd.sublist (List.take_sublist _ _)
          rw [hsn] at h1
          exact (List.nodup_append.1 h1).2.2 _ hm _ (by simp) rfl
        rw [hB]
        simp [this, go_sem]
      · refine W_ifs false (by simp [go_sem, hm]) (fun h => by cases h) (fun _ => W_skip ?_)
        simp only [go_sem]
        refine W_reg ?_
        simp [go_sem, intsE_get, hlt, hx.1, hx.2, hA3.row, hget]
        refine W_reg ?_
        simp [go_sem, hw]
        rw [hset, ← hsn]
        refine ⟨_, ⟨rfl, ⟨⟨⟨hA3.tk.sub.objs, fun k x hk => ?_, hA3.tk.sub.toks, hA3.tk.sub.maps⟩, hA3.tk.tok, hA3.tk.new⟩, ?_, hA3.new⟩, ?_⟩, by simp [go_sem]⟩
        · have hne : k ≠ bm := fun e => by subst e; rw [hA3.new] at hk; cases hk
          show VS.look (putAt s3.rows bm _) k = some x
          rw [look_putAt, if_neg hne]
          exact hA3.tk.sub.rows _ _ hk
        · show VS.look (putAt s3.rows bm _) bm = _
          rw [look_putAt, if_pos rfl, hA3.row]
          rfl
        · rw [hsn]
          exact List.nodup_append.2 ⟨hnd, by simp, fun p hp q hq e => by simp at hq; subst hq; subst e; exact hm hp⟩
    · simp only [decide_eq_false_iff_not] at hge
      simp only [go_sem]
      rw [List.take_of_length_le (by omega)] at hnd
      refine W_seq (W_reg ?_)
      simp [go_sem]
      refine W_ret ?_
      simp only [go_sem]
      exact ⟨trivial, _, rfl, s, hA3.tk.sub, by rw [hB]; simp [hnd, go_sem], rfl⟩
end Go.Proofs.YtpmknffollpnaaaGreat
namespace Go.Proofs.YtpmknffollpnaaaGreat
open Go Go.VS
structure CtS (s s' : St) (r n : Nat) (b7 r2 : Nat) (v : Int) (F : List Int) : Prop where
  tk : TokI s s' r 2 n
  t2 : VS.look s'.toks r2 = some (1, F.length)
  v7 : VS.look s'.objs b7 = some [I v, .li (some r2) (intsE F)]
  ne : r2 ≠ r
  n7 : VS.look s.objs b7 = none
  n2 : VS.look s.toks r2 = none
theorem cutR_snoc (l : List Fr) (f : Fr) (t : Int) : cutR (l ++ [f]) t = cutR l t ++ if f.p.filter (fun n => decide (n < t)) = [] then [] else [⟨f.v, f.p.filter fun n => decide (n < t)⟩] := by
  induction l with
  | nil => rw [List.nil_append, cutR_cons]; rfl
  | cons g l ih => rw [List.cons_append, cutR_cons, cutR_cons, ih]; split <;> simp
theorem cutR_len (l : List Fr) (t : Int) : (cutR l t).length ≤ l.length := by
  unfold cutR
  exact Nat.le_trans (List.length_filter_le _ _) (by simp)
set_option maxRecDepth 4000 in
theorem cutR_c (n : Nat) (l : List Fr) (t : Int) (hs : Sz n l) (hn : n ≤ 10000000) : Pure Tryz.prog 62 [LF l, I t] (LF (cutR l t)) := by
  intro s
  refine CallC_of Tryz.func62 rfl (by rfl) Tryz.ntmps62 (by simp) ?_
  have hsl := hs.len
  refine W_seq (W_reg ?_)
  simp [go_sem]
  refine W_seq (W_reg ?_)
  simp [go_sem]
  refine W_tok 5 2 (by simp [go_sem]) fun r hr => ?_
  have hT := TokI.init (z := 2) hr
  generalize ({ s with toks := (r, (2, 0)) :: s.toks } : St) = s1 at hT ⊢
  refine W_seq (W_seq (W_reg ?_))
  simp [go_sem]
  refine W_for l.length (fun k L s' => L = [(0, LF l), (1, I t), (6, I k), (5, .li (some r) (frsE (cutR (l.take k) t)))] ∧ TokI s s' r 2 (cutR (l.take k) t).length)
    (l0 := [(0, LF l), (1, I t), (6, I 0), (5, .li (some r) [])]) (ds := []) ⟨rfl, hT⟩ (by simp [go_sem]) rfl ?_
  rintro k _ s2 hk ⟨rfl, hT2⟩ K hK
  refine W_reg ?_
  simp [go_sem, frsE_length]
  generalize hF : cutR (l.take k) t = o at hT2
  have hol : o.length ≤ k := by rw [← hF]; exact Nat.le_trans (cutR_len _ _) (by simp; omega)
  refine hK _ _ (decide (k < l.length)) [(0, LF l), (1, I t), (6, I k), (5, .li (some r) (frsE o))] (by simp [go_sem]) (by simp [go_sem]) (by simp [go_sem]) (fun hlt => ?_) (fun hge => ?_)
  · simp only [decide_eq_true_eq] at hlt
    have hw := wrap_succ hlt (by omega)
    have hsn : cutR (l.take (k + 1)) t = o ++ if l[k].p.filter (fun n => decide (n < t)) = [] then [] else [⟨l[k].v, l[k].p.filter fun n => decide (n < t)⟩] := by
      rw [List.take_succ_eq_append_getElem hlt, cutR_snoc, hF]
    have hpl := hs.p _ (List.getElem_mem hlt)
    refine ⟨hlt, W_seq (W_reg ?_)⟩
    simp [go_sem, frsE_get, hlt, frC]
    refine WL_alloc tzero_64 (by simp) fun b7 hb7 => WL_run _ _ _ ?_
    simp [go_sem, VS.look]
    refine W_tokc (b := b7) (cs := [I l[k].v, .v (.slice none 0 0)]) 1 1 (by simp [VS.look]) (by rfl) fun r2 hr2 => ?_
    have hC : CtS s (St.mk (putAt ((b7, [I l[k].v, .v (.slice none 0 0)]) :: s2.objs) b7 ([I l[k].v, .v (.slice none 0 0)].set 1 (.li (some r2) []))) s2.rows ((r2, (1, 0)) :: s2.toks) s2.maps) r o.length b7 r2 l[k].v [] := by
      have hn7 := Sub.none_of hT2.sub hb7.1
      have hne : r2 ≠ r := fun e => by subst e; have : VS.look s2.toks r2 = none := hr2; rw [hT2.tok] at this; cases this
      have hr2' : VS.look s2.toks r2 = none := hr2
      refine ⟨⟨⟨fun q x hq => ?_, hT2.sub.rows, fun q x hq => lookCons hr2' (hT2.sub.toks q x hq), hT2.sub.maps⟩, lookCons hr2' hT2.tok, hT2.new⟩, by simp [VS.look], by simp [VS.look, putAt, intsE], hne, hn7, ?_⟩
      · have hne7 : q ≠ b7 := fun e => by subst e; rw [hn7] at hq; cases hq
        show VS.look (putAt _ b7 _) q = some x
        rw [look_putAt, if_neg hne7]
        exact lookCons hb7.1 (hT2.sub.objs q x hq)
      · cases hq : VS.look s.toks r2 with
        | none => rfl
        | some x => have := hT2.sub.toks _ _ hq; rw [hr2'] at this; cases this
    refine (fun (h : ∀ s1 : St, CtS s s1 r o.length b7 r2 l[k].v [] → W Tryz.prog ⟨63, none⟩ _ _ s1 _) => h _ hC) ?_
    clear hC hb7 hr2 hT2
    intro s3 hC3
    refine W_keep [(0, LF l), (1, I t), (6, I k), (5, .li (some r) (frsE o)), (7, ptr b7 0)] (by simp [go_sem]) ?_
    refine W_seq_k fun K2 hK2 => W_seq (W_reg ?_)
    simp [go_sem]
    generalize hx : l[k] = x at hC3 hsn hpl
    refine W_for x.p.length (fun j L s' => L = [(0, LF l), (1, I t), (6, I k), (5, .li (some r) (frsE o)), (7, ptr b7 0), (8, I j)] ∧ CtS s s' r o.length b7 r2 x.v ((x.p.take j).filter fun n => decide (n < t)))
      (l0 := [(0, LF l), (1, I t), (6, I k), (5, .li (some r) (frsE o)), (7, ptr b7 0), (8, I 0)]) (ds := []) ⟨rfl, hC3⟩ (by simp [go_sem]) rfl ?_
    clear hC3
    rintro j _ s4 hj ⟨rfl, hC4⟩ K3 hK3
    refine W_reg ?_
    simp [go_sem, frsE_get, hlt, frC, hx, intsE_length]
    refine hK3 _ _ (decide (j < x.p.length)) [(0, LF l), (1, I t), (6, I k), (5, .li (some r) (frsE o)), (7, ptr b7 0), (8, I j)] (by simp [go_sem]) (by simp [go_sem]) (by simp [go_sem]) (fun hlt2 => ?_) (fun hge2 => ?_)
    · simp only [decide_eq_true_eq] at hlt2
      have hw2 := wrap_succ hlt2 (by omega)
      have hsn2 : ((x.p.take (j + 1)).filter fun n => decide (n < t)) = ((x.p.take j).filter fun n => decide (n < t)) ++ if x.p[j] < t then [x.p[j]] else [] := by
        rw [List.take_succ_eq_append_getElem hlt2, List.filter_append]
        by_cases h : x.p[j] < t <;> simp [h]
      generalize hG : ((x.p.take j).filter fun n => decide (n < t)) = G at hC4 hsn2
      have hGl : G.length ≤ j := by rw [← hG]; exact Nat.le_trans (List.length_filter_le _ _) (by simp; omega)
      refine ⟨hlt2, W_seq (W_reg ?_)⟩
      simp [go_sem, frsE_get, hlt, frC, hx, intsE_get, hlt2]
      by_cases h : x.p[j] < t
      · rw [if_pos h] at hsn2
        refine W_ifs true (by simp [go_sem, h]) (fun _ => ?_) (fun h => by cases h)
        have v7 := hC4.v7
        refine W_draws (Ef := ?_) 12 [10, 11] (fun s' => VS.look s'.objs b7 = some [I x.v, .li (some r2) (intsE G)]) Tryz.mixed (by kernel_rfl) v7 (fun s' hs' => ?_) ?_
        rotate_left
        · simp [go_sem, hs', frsE_get, hlt, frC, hx, intsE_get, hlt2]
          rfl
        · refine LL_cons fun Q' hQ => ?_
          refine WL_buildSlice tel_23 (by simp [go_sem]) (by rfl) (by rfl) (by simp [VS.partsC, go_sem]) (by simp [VS.partsC, go_sem]) (by simp [go_sem]) (by simp) (by simp) fun r3 hr3 => hQ _ _ v7 ?_
          refine LL_cons fun Q' hQ => ?_
          have hk2 : TokI s s4 r2 1 G.length := ⟨hC4.tk.sub, hC4.t2, hC4.n2⟩
          refine WL_append (r := r2) (z := 1) (es := intsE G) (es2 := [[I x.p[j]]]) tel_23 (by simp [go_sem]) (by simp [go_sem]) (by rw [intsE_length]; exact (hk2.lit hr3 _).tok) (by simp [go_sem]) (by simp [go_sem]) (by simp [go_sem, elsC, VS.partsC]) (by simp) (by simp [go_sem, intsE_length]; omega) (by simp [go_sem]) (by simp) (hQ _ _ v7 ?_)
          have he : intsE G ++ [[I x.p[j]]] = intsE (G ++ [x.p[j]]) := by rw [intsE_append]; rfl
          rw [he, intsE_length]
          have h1 := (hk2.lit hr3 (tsz Tryz.prog 3, 1)).put (G ++ [x.p[j]]).length
          have hC5 : CtS s { s4 with objs := putAt s4.objs b7 [I x.v, .li (some r2) (intsE (G ++ [x.p[j]]))], toks := putAt ((r3, (tsz Tryz.prog 3, 1)) :: s4.toks) r2 (1, (G ++ [x.p[j]]).length) } r o.length b7 r2 x.v (G ++ [x.p[j]]) := by
            refine ⟨⟨sub_put h1.sub hC4.n7 _, ?_, hC4.tk.new⟩, h1.tok, ?_, hC4.ne, hC4.n7, hC4.n2⟩
            · show VS.look (putAt ((r3, _) :: s4.toks) r2 _) r = _
              rw [look_putAt, if_neg (Ne.symm hC4.ne)]
              exact lookCons hr3 hC4.tk.tok
            · show VS.look (putAt s4.objs b7 _) b7 = _
              rw [look_putAt, if_pos rfl, v7]
              rfl
          generalize putAt ((r3, (tsz Tryz.prog 3, 1)) :: s4.toks) r2 (1, (G ++ [x.p[j]]).length) = T at hC5 ⊢
          refine LL_nil (WL_run _ _ _ ?_)
          simp [go_sem, v7]
          refine W_reg ?_
          simp [go_sem, hw2]
          rw [← hsn2] at hC5 ⊢
          exact ⟨_, ⟨rfl, hC5⟩, by simp [go_sem]⟩
      · rw [if_neg h, List.append_nil] at hsn2
        refine W_ifs false (by simp [go_sem, h]) (fun h => by cases h) (fun _ => W_skip ?_)
        simp only [go_sem]
        refine W_reg ?_
        simp [go_sem, hw2]
        exact ⟨_, ⟨rfl, by rw [hsn2]; exact hC4⟩, by simp [go_sem]⟩
    · simp only [decide_eq_false_iff_not] at hge2
      rw [List.take_of_length_le (by omega)] at hC4
      generalize hG : x.p.filter (fun n => decide (n < t)) = G at hC4 hsn
      simp only [go_sem]
      refine hK2 _ _ ?_
      clear hK2 hK3 
      refine W_keep [(0, LF l), (1, I t), (6, I k), (5, .li (some r) (frsE o)), (7, ptr b7 0)] (by simp [go_sem]) ?_
      have hGl : G.length ≤ n := by rw [← hG]; exact Nat.le_trans (List.length_filter_le _ _) hpl
      -- the list of pages is told without its token
      refine W_cells (b := b7) (cs' := [I x.v, LI G]) hC4.v7 rfl (fun w g hst j hj v hv => ?_) ?_
      · match j, hj with
        | 0, _ => exact hv
        | 1, _ => exact hv.drop1
      have hT5 : TokI s { s4 with objs := putAt s4.objs b7 [I x.v, LI G] } r 2 o.length := hC4.tk.objput hC4.n7 _
      have v7 : VS.look ({ s4 with objs := putAt s4.objs b7 [I x.v, LI G] } : St).objs b7 = some [I x.v, LI G] := by
        show VS.look (putAt s4.objs b7 _) b7 = _
        rw [look_putAt, if_pos rfl, hC4.v7]
        rfl
      generalize ({ s4 with objs := putAt s4.objs b7 [I x.v, LI G] } : St) = s5 at hT5 v7 ⊢
      refine W_seq (W_reg ?_)
      simp [go_sem, v7, intsE_length]
      by_cases hg : G = []
      · rw [if_pos hg, List.append_nil] at hsn
        refine W_ifs false (by simp [go_sem, hg]) (fun h => by cases h) (fun _ => W_skip ?_)
        simp only [go_sem]
        refine W_reg ?_
        simp [go_sem, hw]
        exact ⟨_, ⟨rfl, by rw [hsn]; exact hT5⟩, by simp [go_sem, hsn]⟩
      · rw [if_neg hg] at hsn
        have hg0 := List.length_pos_iff.2 hg
        refine W_ifs true (by simp [go_sem, hg0]) (fun _ => W_reg ?_) (fun h => by cases h)
        simp [go_sem, v7]
        refine WL_push (s0 := s) (z := 2) (es := frsE o) (new := frC ⟨x.v, G⟩) (by rw [frsE_length]; exact hT5) tel_26 (by simp [go_sem]) (by simp [go_sem]) (by simp [go_sem]) (by simp [go_sem]) (by simp [go_sem]) (by simp [go_sem, frC]) (fun c => by simp [go_sem]) rfl (by simp [frC, go_sem]) (frsE_len _) (by rw [frsE_length]; simp [go_sem]; omega) (by simp) (by simp) fun s6 hT6 _ _ _ _ c1 => WL_run _ _ _ ?_
        have he : frsE o ++ [frC ⟨x.v, G⟩] = frsE (cutR (l.take (k + 1)) t) := by rw [hsn, frsE_append]; rfl
        rw [he] at hT6 ⊢
        rw [frsE_length] at hT6
        simp [go_sem]
        refine W_reg ?_
        simp [go_sem, hw]
        exact ⟨_, ⟨rfl, hT6⟩, by simp [go_sem]⟩
  · simp only [decide_eq_false_iff_not] at hge
    simp only [go_sem]
    rw [List.take_of_length_le (by omega)] at hF
    refine W_seq (W_reg ?_)
    simp [go_sem]
    refine W_ret ?_
    simp only [go_sem]
    exact ⟨trivial, _, rfl, s, hT2.sub, by rw [hF]; simp [go_sem], rfl⟩
end Go.Proofs.YtpmknffollpnaaaGreat
namespace Go.Proofs.YtpmknffollpnaaaGreat
open Go Go.VS
def zspd : List C := [.v (.slice none 0 0), .v (.slice none 0 0), .v (.slice none 0 0), .v (.slice none 0 0), I 0, I 0, .v (.slice none 0 0), I 0, I 0]
def rendOk (sp : Sp) (r : List (List C) × List Fr × List Int) : C :=
  .agg [.li none (laidAt r.1 r.2.2 (listPagesC r.2.1 r.2.2 sp.ver) r.2.2.length), LI [], LI [], LI [], I sp.ver, I sp.tree, LF r.2.1, I (r.2.2.headD 0), I 0]
def rendErr (e : Int) : C := .agg [LI [], LI [], LI [], LI [], I 0, I 0, LF [], I 0, I e]
def refEndC (sp : Sp) (rest : List Fr) (shrink : Bool) : C := match refEnd sp rest shrink with
  | .ok r => rendOk sp r
  | .error e => rendErr e
def agE (e : Int) : C := .agg [.v (.slice none 0 0), .v (.slice none 0 0), .v (.slice none 0 0), .v (.slice none 0 0), I 0, I 0, .v (.slice none 0 0), I 0, I e]
theorem agE_strip (e : Int) : strip (agE e) = rendErr e := by simp [agE, rendErr, go_sem, intsE, frsE]
def rfin (sp : Sp) (x : Option (List (List C) × List Fr × List Int)) : C := match x with
  | some r => rendOk sp (clearAt r.1 sp.free, r.2.1, r.2.2)
  | none => rendErr 7
structure RnS (s s' : St) (sp : Sp) (b3 b6 bp : Nat) (P : List (List C)) : Prop where
  v3 : VS.look s'.objs b3 = some (spC sp)
  v6 : VS.look s'.objs b6 = some zspd
  n3 : VS.look s.objs b3 = none
  n6 : VS.look s.objs b6 = none
  d36 : b3 ≠ b6
  sub : Sub s' s
  row : RowIn s.rows s'.rows (.rs bp P.length) 10 P
theorem RnS.rows {s s' : St} {sp : Sp} {b3 b6 bp : Nat} {P : List (List C)} (h : RnS s s' sp b3 b6 bp P) {bp' : Nat} {P' : List (List C)} {R' : VS.Rows} (hR : RowIn s.rows R' (.rs bp' P'.length) 10 P') : RnS s { s' with rows := R' } sp b3 b6 bp' P' :=
  ⟨h.v3, h.v6, h.n3, h.n6, h.d36, ⟨h.sub.objs, hR.old, h.sub.toks, h.sub.maps⟩, hR⟩
theorem RnS.toks {s s' : St} {sp : Sp} {b3 b6 bp : Nat} {P : List (List C)} (h : RnS s s' sp b3 b6 bp P) {T : List (Nat × (Nat × Nat))} (hT : ∀ k x, VS.look s.toks k = some x → VS.look T k = some x) : RnS s { s' with toks := T } sp b3 b6 bp P :=
  ⟨h.v3, h.v6, h.n3, h.n6, h.d36, ⟨h.sub.objs, h.sub.rows, hT, h.sub.maps⟩, h.row⟩
theorem RnS.obj {s s' : St} {sp : Sp} {b3 b6 bp : Nat} {P : List (List C)} (h : RnS s s' sp b3 b6 bp P) {b : Nat} (hb : VS.look s'.objs b = none) (cs : List C) : RnS s { s' with objs := (b, cs) :: s'.objs } sp b3 b6 bp P :=
  ⟨lookCons hb h.v3, lookCons hb h.v6, h.n3, h.n6, h.d36, ⟨fun k x hk => lookCons hb (h.sub.objs k x hk), h.sub.rows, h.sub.toks, h.sub.maps⟩, h.row⟩
set_option maxRecDepth 8000 in
theorem refEnd_c (n m : Nat) (sp : Sp) (rest : List Fr) (shrink : Bool) (hs : Sz n rest) (hf : sp.free.length ≤ m) (hg : sp.gone.length ≤ m) (hm1 : 1 ≤ m) (hnm : n + m + m ≤ 1000000) (hpz : PgE sp.pg) (hpl : sp.pg.length ≤ 1000000) (hnum : (nums rest).length + m + m ≤ 1000000) :
    Pure Tryz.prog 16 [.agg (spC sp), LF rest, Bo shrink] (refEndC sp rest shrink) := by
  intro s
  refine CallC_of Tryz.func16 rfl (by rfl) Tryz.ntmps16 (by simp) ?_
  refine W_seq (W_reg ?_)
  simp [go_sem]
  refine WL_box (by simp [go_sem, spC]) (by simp) fun b3 hb3 => WL_run _ _ _ ?_
  simp [go_sem]
  refine WL_alloc tzero_34 (by simp) fun b6 hb6 => WL_run _ _ _ ?_
  simp [go_sem]
  have nn : ∀ {O : List (Nat × List C)} {q k : Nat} {x : List C}, VS.look ((q, x) :: O) k = none → VS.look O k = none ∧ q ≠ k := fun {O q k x} h => by
    by_cases e : q = k
    · subst e; simp [VS.look] at h
    · exact ⟨by simpa [VS.look, e] using h, e⟩
  have n3 := hb3.1
  obtain ⟨n6, d36⟩ := nn hb6.1
  have v3 : VS.look (St.mk ((b6, zspd) :: (b3, spC sp) :: s.objs) s.rows s.toks s.maps).objs b3 = some (spC sp) := by simp [VS.look, d36, Ne.symm d36]
  have v6 : VS.look (St.mk ((b6, zspd) :: (b3, spC sp) :: s.objs) s.rows s.toks s.maps).objs b6 = some zspd := by simp [VS.look]
  have hsub : Sub (St.mk ((b6, zspd) :: (b3, spC sp) :: s.objs) s.rows s.toks s.maps) s := ⟨fun k x hk => lookCons hb6.1 (lookCons hb3.1 hk), fun _ _ h => h, fun _ _ h => h, fun _ _ h => h⟩
  have hrw : (St.mk ((b6, zspd) :: (b3, spC sp) :: s.objs) s.rows s.toks s.maps).rows = s.rows := rfl
  refine (fun (h : ∀ s1 : St, VS.look s1.objs b3 = some (spC sp) → VS.look s1.objs b6 = some zspd → Sub s1 s → s1.rows = s.rows → W Tryz.prog ⟨195, none⟩ _ _ s1 _) => h _ v3 v6 hsub hrw) ?_
  clear v3 v6 hsub hb3 hb6 nn hrw
  intro s1 v3 v6 hsub hrw
  simp only [spC] at v3
  have hEP : refEndC sp rest shrink = refEndC sp rest shrink := rfl
  conv at hEP => rhs; unfold refEndC refEnd
  refine W_seq (W_reg ?_)
  simp [go_sem, v3]
  refine W_keep [(1, LF rest), (2, Bo shrink), (3, ptr b3 0), (6, ptr b6 0), (7, I sp.pg.length)] (by simp [go_sem]) ?_
  refine W_seq (W_seq_k fun K hK => W_reg ?_)
  have key : ∀ E' t, Has E' [(30, Bo t), (1, LF rest), (2, Bo shrink), (3, ptr b3 0), (6, ptr b6 0), (7, I sp.pg.length)] → E'.ds = [] → t = !(inV sp.ver && (decide (2 ≤ sp.pg.length) && decide (sp.pg.length ≤ 4096))) → K E' s1 := fun E' t h1 h2 ht => hK _ _ (W_keep _ h1 (by
    rw [h2]
    clear hK
    refine W_ifs t (by simp [go_sem]) (fun h => W_seq (W_reg ?_)) (fun h => W_skip ?_)
    · rw [h] at ht
      have ht' := ht.symm
      rw [Bool.not_eq_true'] at ht'
      rw [ht'] at hEP
      simp only [Bool.false_eq_true, if_false] at hEP
      have v6' := v6
      simp only [zspd] at v6'
      simp [go_sem, v6']
      refine W_ret ?_
      simp only [go_sem]
      exact ⟨trivial, agE 1, by simp [go_sem, look_putAt, v6, agE], s, sub_put hsub n6 _, by rw [hEP, agE_strip], rfl⟩
    · rw [h] at ht
      have ht' := ht.symm
      rw [Bool.not_eq_false'] at ht'
      rw [ht'] at hEP
      simp only [if_true] at hEP
      have hpr : inV sp.ver = true ∧ 2 ≤ sp.pg.length ∧ sp.pg.length ≤ 4096 := by simpa using ht'
      obtain ⟨hv, hp2, hp4⟩ := hpr
      have hver : 1 ≤ sp.ver ∧ sp.ver ≤ 1099511627776 := by simpa [inV] using hv
      clear ht ht' h1 h2
      simp only [go_sem]
      refine W_keep [(1, LF rest), (2, Bo shrink), (3, ptr b3 0), (6, ptr b6 0), (7, I sp.pg.length)] (by simp [go_sem]) ?_
      refine W_seq (W_seq_k fun K hK => W_reg ?_)
      have key2 : ∀ E' t, Has E' [(59, Bo t), (1, LF rest), (2, Bo shrink), (3, ptr b3 0), (6, ptr b6 0), (7, I sp.pg.length)] → E'.ds = [] → t = !(isB rest sp.pg.length && incr sp.gone sp.pg.length && incr sp.free sp.pg.length && apartB sp.gone sp.free rest) → K E' s1 := fun E' t h1 h2 ht => hK _ _ (W_keep _ h1 (by
        rw [h2]
        clear hK
        refine W_ifs t (by simp [go_sem]) (fun h => W_seq (W_reg ?_)) (fun h => W_skip ?_)
        · rw [h] at ht
          have ht' := ht.symm
          rw [Bool.not_eq_true'] at ht'
          rw [ht'] at hEP
          simp only [Bool.false_eq_true, if_false] at hEP
          have v6' := v6
          simp only [zspd] at v6'
          simp [go_sem, v6']
          refine W_ret ?_
          simp only [go_sem]
          exact ⟨trivial, agE 2, by simp [go_sem, look_putAt, v6, agE], s, sub_put hsub n6 _, by rw [hEP, agE_strip], rfl⟩
        · rw [h] at ht
          have ht' := ht.symm
          rw [Bool.not_eq_false'] at ht'
          rw [ht'] at hEP
          simp only [if_true] at hEP
          simp only [Bool.and_eq_true] at ht'
          obtain ⟨⟨⟨hB, hig⟩, hif⟩, hap⟩ := ht'
          clear ht h1 h2
          simp only [go_sem]
          refine W_keep [(1, LF rest), (2, Bo shrink), (3, ptr b3 0), (6, ptr b6 0), (7, I sp.pg.length)] (by simp [go_sem]) ?_
          have hgood := (isB_iff _ _).1 hB
          have hver1 : 0 ≤ sp.ver - 1 ∧ sp.ver - 1 ≤ 1099511627776 := by omega
          have hpp := put_put hgood hver1 hig hif hap
          have hp1 : putR rest (sp.ver - 1) sp.gone = putF rest (sp.ver - 1) sp.gone := (putF_putR hgood.inc (((incr_iff _ _).1 hig).1.imp fun h => Int.le_of_lt h)).symm
          have hs1 : Sz (n + m) (putR rest (sp.ver - 1) sp.gone) := by rw [hp1]; exact Sz.putF hs hg hm1
          have hw1 : IntKind.i64.wrap (sp.ver - 1) = sp.ver - 1 := wrap_in (by omega) (by omega)
          refine W_seq (W_drawr 10 Tryz.mixed (by kernel_rfl) ?_)
          simp [go_sem, v3, hw1]
          refine ⟨_, put_c n rest (sp.ver - 1) sp.gone hs (by omega) (by omega), ?_⟩
          simp [go_sem, v3]
          refine ⟨_, put_c (n + m) _ 0 sp.free hs1 (by omega) (by omega), ?_⟩
          have hs2 : Sz (n + m + m) (putR (putR rest (sp.ver - 1) sp.gone) 0 sp.free) := by rw [hpp]; exact Sz.putF (Sz.putF hs hg hm1) hf hm1
          have hgood2 : Good (putR (putR rest (sp.ver - 1) sp.gone) 0 sp.free) sp.pg.length := by
            rw [hpp]
            exact (isB_iff _ _).1 ((apart_good hgood hver1 hig hif).trans hap)
          have hn2 : (nums (putR (putR rest (sp.ver - 1) sp.gone) 0 sp.free)).length ≤ 1000000 := by
            rw [hpp]
            have := putF_nums rest (sp.ver - 1) sp.gone
            have := putF_nums (putF rest (sp.ver - 1) sp.gone) 0 sp.free
            omega
          generalize putR (putR rest (sp.ver - 1) sp.gone) 0 sp.free = l2 at hs2 hgood2 hn2 hEP ⊢
          clear hpp hp1 hs1 hw1
          refine W_keep [(2, Bo shrink), (3, ptr b3 0), (6, ptr b6 0), (7, I sp.pg.length), (8, LF l2)] (by simp [go_sem]) ?_
          refine W_seq (W_reg ?_)
          simp [go_sem]
          refine WL_buildSliceRow tel_22 (by simp [go_sem]) (by rfl) (by rfl) (by simp [VS.partsC, go_sem]) (by simp [VS.partsC, go_sem]) (by simp [go_sem]) (by simp) (by simp) fun bq hq1 hq2 => WL_run _ _ _ ?_
          simp [go_sem, v3]
          refine WL_appendRow (R0 := s.rows) (es := []) (es2 := sp.pg) (e := 89) ⟨.inr (.inr ⟨bq, by simp [go_sem], by simp [VS.look, VS.partsC, go_sem]⟩), fun k x hk => lookCons hq1 (by rw [hrw]; exact hk), fun b' n' hb' => by simp [go_sem] at hb'; rw [← hb'.1, ← hrw]; exact hq1⟩ (by simp [go_sem]) tel_22 (by simp [go_sem]) (by simp [go_sem]) (by simp [go_sem, elsC]) (fun q hq => by rw [(hpz q hq).1]; simp [go_sem]) (by simp [go_sem]; omega) (by simp [go_sem]) (by simp) fun c' R' hR' hnl => WL_run _ _ _ ?_
          rw [tsz_89, List.nil_append] at hR'
          obtain ⟨bp, rfl, hR2⟩ : ∃ bp, c' = .rs bp sp.pg.length ∧ RowIn s.rows R' (.rs bp sp.pg.length) 10 sp.pg := by
            have hpne : sp.pg ≠ [] := fun e => by rw [e] at hp2; simp at hp2
            rcases hR'.row with ⟨_, h⟩ | ⟨_, h⟩ | ⟨b', h, _⟩
            · exact absurd h hpne
            · exact absurd h hpne
            · exact ⟨b', h, by rw [← h]; exact hR'⟩
          have hS : RnS s { s1 with rows := R' } sp b3 b6 bp sp.pg := ⟨by simpa [spC] using v3, v6, n3, n6, d36, ⟨hsub.objs, hR2.old, hsub.toks, hsub.maps⟩, hR2⟩
          refine (fun (h : ∀ s2 : St, RnS s s2 sp b3 b6 bp sp.pg → W Tryz.prog ⟨195, none⟩ _ _ s2 _) => h _ hS) ?_
          clear hS hR' hR2 hq1 hq2 v3 v6 hsub hrw hnl R'
          intro s2 hS
          refine W_keep [(2, Bo shrink), (3, ptr b3 0), (6, ptr b6 0), (7, I sp.pg.length), (8, LF l2), (9, .rs bp sp.pg.length)] (by simp [go_sem]) ?_
          refine W_seq_k fun K hK => W_seq (W_reg ?_)
          have hEP3 : refEndC sp rest shrink = rfin sp (takeLoop ((nums (if shrink then cutR l2 ((if shrink then tailR l2 sp.pg.length else sp.pg.length : Nat) : Int) else l2)).length + 1) (sp.pg.take (if shrink then tailR l2 sp.pg.length else sp.pg.length)) (if shrink then cutR l2 ((if shrink then tailR l2 sp.pg.length else sp.pg.length : Nat) : Int) else l2) []) := by
            rw [hEP]
            generalize takeLoop _ _ _ [] = z
            cases z <;> rfl
          clear hEP
          have key3 : ∀ (E' : Env) (s3 : St) (bp : Nat) (P0 : List (List C)) (tn : Nat) (l : List Fr), Has E' [(3, ptr b3 0), (6, ptr b6 0), (8, LF l), (9, .rs bp tn)] → E'.ds = [] → RnS s s3 sp b3 b6 bp P0 → tn ≤ P0.length → PgE P0 → 2 ≤ tn → tn ≤ 4096 → Sz (n + m + m) l → OKL l tn [] → (nums l).length ≤ 1000000 →
              refEndC sp rest shrink = rfin sp (takeLoop ((nums l).length + 1) (P0.take tn) l []) → K E' s3 := by
            intro E' s3 bp P0 tn l h1 h2 hS htn hPg0 hP2 hP4 hsz hok hnl hend
            refine hK _ _ (W_keep _ h1 ?_)
            rw [h2]
            clear hK h1 h2 hEP3
            refine W_short (b := bp) (z := 10) (es := P0) tn (RowIn.rs_row hS.row).1 (fun x hx => (hPg0 x hx).1) ?_
            have htl : (P0.take tn).length = tn := by rw [List.length_take]; omega
            have hPg : PgE (P0.take tn) := fun e he => hPg0 e (List.mem_of_mem_take he)
            have hS6 : RnS s { s3 with rows := putAt s3.rows bp (10, P0.take tn) } sp b3 b6 bp (P0.take tn) := hS.rows (rowSet (es' := P0.take tn) hS.row)
            generalize P0.take tn = P at htl hPg hS6 hend ⊢
            subst htl
            refine (fun (h : ∀ s2 : St, RnS s s2 sp b3 b6 bp P → W Tryz.prog ⟨195, none⟩ _ _ s2 _) => h _ hS6) ?_
            clear hS6 hS htn hPg0 s3
            intro s3 hS
            refine W_seq (W_reg ?_)
            simp [go_sem]
            refine W_tok 10 1 (by simp [go_sem]) fun r hr => ?_
            have hrs : VS.look s.toks r = none := by
              cases hq : VS.look s.toks r with
              | none => rfl
              | some x => have := hS.sub.toks _ _ hq; rw [hr] at this; cases this
            have hST : RnS s { s3 with toks := (r, (1, 0)) :: s3.toks } sp b3 b6 bp P := hS.toks fun k x hk => lookCons hr (hS.sub.toks k x hk)
            refine (fun (h : ∀ s2 : St, RnS s s2 sp b3 b6 bp P → VS.look s2.toks r = some (1, 0) → W Tryz.prog ⟨195, none⟩ _ _ s2 _) => h _ hST (by simp [VS.look])) ?_
            clear hST hS hr s3
            intro s3 hS htok
            refine W_seq_k fun K hK => ?_
            refine W_while ((nums l).length + 1) (fun f L s' => ∃ bp P l tk, L = [(3, ptr b3 0), (6, ptr b6 0), (8, LF l), (9, .rs bp P.length), (10, .li (some r) (intsE tk))] ∧ RnS s s' sp b3 b6 bp P ∧ VS.look s'.toks r = some (1, tk.length) ∧ PgE P ∧ 2 ≤ P.length ∧ P.length ≤ 4096 ∧ Sz (n + m + m) l ∧ OKL l P.length tk ∧ (nums l).length ≤ 1000000 ∧ 1 ≤ f ∧ (nums l).length + 1 ≤ f + tk.length ∧ tk.length ≤ 1000000 ∧ refEndC sp rest shrink = rfin sp (takeLoop f P l tk))
              (l0 := [(3, ptr b3 0), (6, ptr b6 0), (8, LF l), (9, .rs bp P.length), (10, .li (some r) [])]) (ds := []) ⟨bp, P, l, [], rfl, hS, htok, hPg, hP2, hP4, hsz, hok, hnl, by omega, by simp, by simp, hend⟩ (by simp [go_sem]) rfl ?_
            clear hS htok hPg hP2 hP4 hsz hok hnl hend
            rintro f _ s3 ⟨bp, P, l, tk, rfl, hS, htok, hPg, hP2, hP4, hsz, hok, hnl, hf1, hfn, htl, hend⟩ K2 hK2
            obtain ⟨f, rfl⟩ : ∃ f', f = f' + 1 := ⟨f - 1, by omega⟩
            refine W_reg ?_
            simp [go_sem, intsE_length]
            refine Pure.use (listNeedsR_c (n + m + m) l hsz (by omega) (by omega)) ?_
            rw [hok.freed]
            simp [go_sem]
            unfold takeLoop at hend
            refine hK2 _ _ (decide (tk.length < (partsP l).length)) [(3, ptr b3 0), (6, ptr b6 0), (8, LF l), (9, .rs bp P.length), (10, .li (some r) (intsE tk))] (by simp [go_sem]) (by simp [go_sem]) (by simp [go_sem]) (fun hlt K3 hK3 => ?_) (fun hge => ?_)
            · simp only [decide_eq_true_eq] at hlt
              rw [if_neg (by omega)] at hend
              have hpl2 := partsP_le l
              refine W_seq (W_seq_k fun K4 hK4 => W_reg ?_)
              have key4 : ∀ E', Has E' [(100, Bo (leastB l)), (3, ptr b3 0), (6, ptr b6 0), (8, LF l), (9, .rs bp P.length), (10, .li (some r) (intsE tk))] → E'.ds = [] → K4 E' s3 := fun E' h1 h2 => hK4 _ _ (W_keep _ h1 (by
                rw [h2]
                clear hK4
                refine W_ifs (leastB l) (by simp [go_sem]) (fun hlb => ?_) (fun hlb => W_skip ?_)
                · rw [if_pos hlb] at hend
                  obtain ⟨x, ps, r2, rfl⟩ : ∃ x ps r2, l = ⟨0, x :: ps⟩ :: r2 := by
                    cases l with
                    | nil => cases hlb
                    | cons f0 r2 =>
                      obtain ⟨v, p⟩ := f0
                      have hv0 : v = 0 := by simpa [leastB] using hlb
                      subst hv0
                      cases p with
                      | nil => exact absurd rfl (hok.ne _ (List.mem_cons_self ..))
                      | cons x ps => exact ⟨x, ps, r2, rfl⟩
                  have hsrt : (x :: ps).Pairwise (· < ·) := (hok.ok _ (List.mem_cons_self ..)).2.2.2.1
                  refine W_seq (W_reg ?_)
                  simp [go_sem, frsE_get, frC, intsE_get]
                  refine WL_push (s0 := s) (z := 1) (es := intsE tk) (new := [I x]) (by rw [intsE_length]; exact ⟨hS.sub, htok, hrs⟩) tel_23 (by simp [go_sem]) (by simp [go_sem]) (by simp [go_sem]) (by simp [go_sem]) (by simp [go_sem]) (by simp [go_sem]) (fun c => by simp [go_sem]) (by simp) (by simp [go_sem]) (intsE_len _) (by rw [intsE_length]; simp [go_sem]; omega) (by simp) (by simp) fun s4 hT4 ho hrw4 _ _ c1 => WL_run _ _ _ ?_
                  have he : intsE tk ++ [[I x]] = intsE (tk ++ [x]) := by rw [intsE_append]; rfl
                  rw [he] at hT4 ⊢
                  rw [intsE_length] at hT4
                  have hS4 : RnS s s4 sp b3 b6 bp P := ⟨by rw [ho]; exact hS.v3, by rw [ho]; exact hS.v6, hS.n3, hS.n6, hS.d36, hT4.sub, by rw [hrw4]; exact hS.row⟩
                  simp [go_sem]
                  refine W_seq (W_reg ?_)
                  simp [go_sem, frsE_get, frC, intsE_get]
                  refine Pure.use (removeR_c (n + m + m) 0 x ps r2 hsz (by omega) hsrt) ?_
                  simp [go_sem]
                  refine W_exit ?_
                  simp only [go_sem, if_true]
                  refine hK3 _ _ f [(3, ptr b3 0), (6, ptr b6 0), (8, LF (leastL (⟨0, x :: ps⟩ :: r2))), (9, .rs bp P.length), (10, .li (some r) (intsE (tk ++ [x])))] (Nat.lt_succ_self _) ⟨bp, P, leastL (⟨0, x :: ps⟩ :: r2), tk ++ [x], rfl, hS4, hT4.tok, hPg, hP2, hP4, leastL_sz hsz, hok.least hlb, by have := leastL_nums hok.ne hlb; omega, by omega, by have := leastL_nums hok.ne hlb; simp; omega, by simp; omega, hend⟩ (by simp [go_sem]) (by simp [go_sem])
                · rw [hlb] at hend
                  simp only [Bool.false_eq_true, if_false] at hend
                  simp only [go_sem]
                  refine W_keep [(3, ptr b3 0), (6, ptr b6 0), (8, LF l), (9, .rs bp P.length), (10, .li (some r) (intsE tk))] (by simp [go_sem]) ?_
                  refine W_seq (W_seq (W_reg ?_))
                  simp [go_sem]
                  by_cases hP : P.length = 4096
                  · rw [if_neg (by omega)] at hend
                    refine W_ifs true (by simp [go_sem, hP]) (fun _ => W_seq (W_reg ?_)) (fun h => by cases h)
                    have v6 := hS.v6
                    simp only [zspd] at v6
                    simp [go_sem, v6]
                    refine W_ret ?_
                    simp only [go_sem]
                    exact ⟨trivial, agE 7, by simp [go_sem, look_putAt, v6, agE], s, sub_put hS.sub n6 _, by rw [hend, agE_strip]; rfl, rfl⟩
                  · rw [if_pos (by omega)] at hend
                    refine W_ifs false (by simp [go_sem]; omega) (fun h => by cases h) (fun _ => W_skip ?_)
                    simp only [go_sem]
                    refine W_seq (W_reg ?_)
                    simp [go_sem]
                    refine WL_push (s0 := s) (z := 1) (es := intsE tk) (new := [I P.length]) (by rw [intsE_length]; exact ⟨hS.sub, htok, hrs⟩) tel_23 (by simp [go_sem]) (by simp [go_sem]) (by simp [go_sem]) (by simp [go_sem]) (by simp [go_sem]) (by simp [go_sem]) (fun c => by simp [go_sem]) (by simp) (by simp [go_sem]) (intsE_len _) (by rw [intsE_length]; simp [go_sem]; omega) (by simp) (by simp) fun s4 hT4 ho hrw4 _ _ c1 => WL_run _ _ _ ?_
                    have he : intsE tk ++ [[I P.length]] = intsE (tk ++ [(P.length : Int)]) := by rw [intsE_append]; rfl
                    rw [he] at hT4 ⊢
                    rw [intsE_length] at hT4
                    have hS4 : RnS s s4 sp b3 b6 bp P := ⟨by rw [ho]; exact hS.v3, by rw [ho]; exact hS.v6, hS.n3, hS.n6, hS.d36, hT4.sub, by rw [hrw4]; exact hS.row⟩
                    simp [go_sem]
                    refine W_keep [(3, ptr b3 0), (6, ptr b6 0), (8, LF l), (9, .rs bp P.length), (10, .li (some r) (intsE (tk ++ [(P.length : Int)])))] (by simp [go_sem]) ?_
                    refine W_reg ?_
                    simp [go_sem]
                    refine WL_buildSlice tel_22 (by simp [go_sem]) (by rfl) (by rfl) (by simp [VS.partsC, go_sem]) (by simp [VS.partsC, go_sem]) (by simp [go_sem]) (by simp) (by simp) fun r3 hr3 => ?_
                    have hne3 : r3 ≠ r := fun e => by subst e; rw [hT4.tok] at hr3; cases hr3
                    refine WL_appendRow (R0 := s.rows) (es := P) (es2 := [zpage]) (e := 89) (by rw [tsz_89]; simpa [go_sem] using hS4.row) (by simp [go_sem]) tel_22 (by simp [go_sem]) (by simp [go_sem]) (by simp [go_sem, elsC, VS.partsC, zpage]) (fun q hq => by simp at hq; subst hq; simp [go_sem, zpage]) (by simp [go_sem]; omega) (by simp [go_sem]) (by simp) fun c' R' hR' hnl2 => WL_run _ _ _ ?_
                    rw [tsz_89] at hR'
                    obtain ⟨bp2, rfl, hR2⟩ : ∃ bp2, c' = .rs bp2 (P ++ [zpage]).length ∧ RowIn s.rows R' (.rs bp2 (P ++ [zpage]).length) 10 (P ++ [zpage]) := by
                      rcases hR'.row with ⟨_, h⟩ | ⟨_, h⟩ | ⟨b', h, _⟩
                      · simp at h
                      · simp at h
                      · exact ⟨b', h, by rw [← h]; exact hR'⟩
                    have hS5 : RnS s (St.mk s4.objs R' ((r3, (tsz Tryz.prog 89, 1)) :: s4.toks) s4.maps) sp b3 b6 bp2 (P ++ [zpage]) :=
                      (hS4.rows hR2).toks fun k x hk => lookCons hr3 (hS4.sub.toks k x hk)
                    have htok5 : VS.look (St.mk s4.objs R' ((r3, (tsz Tryz.prog 89, 1)) :: s4.toks) s4.maps).toks r = some (1, (tk ++ [(P.length : Int)]).length) := lookCons hr3 hT4.tok
                    generalize (St.mk s4.objs R' ((r3, (tsz Tryz.prog 89, 1)) :: s4.toks) s4.maps) = s5 at hS5 htok5 ⊢
                    simp [go_sem]
                    have hl5 : (P ++ [zpage]).length = P.length + 1 := by simp
                    refine hK3 _ _ f [(3, ptr b3 0), (6, ptr b6 0), (8, LF l), (9, .rs bp2 (P ++ [zpage]).length), (10, .li (some r) (intsE (tk ++ [(P.length : Int)])))] (Nat.lt_succ_self _) ⟨bp2, P ++ [zpage], l, tk ++ [(P.length : Int)], rfl, hS5, htok5, fun e he => ?_, by omega, by omega, hsz, by rw [hl5]; exact hok.more hlb hP2, hnl, by omega, by simp; omega, by simp; omega, hend⟩ (by simp [go_sem]) (by simp [go_sem])
                    rcases List.mem_append.1 he with he | he
                    · exact hPg e he
                    · simp at he; subst he; exact zpage_ok))
              cases l with
              | nil =>
                simp [go_sem, frsE]
                exact key4 _ (by simp [go_sem, leastB, frsE]) (by simp [go_sem])
              | cons f0 r2 =>
                simp [go_sem, frsE, frC]
                exact key4 _ (by simp [go_sem, leastB, frsE, frC]; by_cases h0 : f0.v = 0 <;> simp [h0]) (by simp [go_sem])
            · simp only [decide_eq_false_iff_not] at hge
              rw [if_pos (by omega)] at hend
              simp only [go_sem]
              refine hK _ _ ?_
              clear hK2
              refine W_keep [(3, ptr b3 0), (6, ptr b6 0), (8, LF l), (9, .rs bp P.length), (10, .li (some r) (intsE tk))] (by simp [go_sem]) ?_
              have hrng := (incr_iff _ _).1 hif
              have v3 := hS.v3
              simp only [spC] at v3
              refine W_seq_k fun K hK => W_seq (W_reg ?_)
              simp [go_sem]
              refine W_for sp.free.length (fun k L s' => L = [(3, ptr b3 0), (6, ptr b6 0), (8, LF l), (9, .rs bp P.length), (10, .li (some r) (intsE tk)), (11, I k)] ∧ RnS s s' sp b3 b6 bp (clearAt P (sp.free.take k)))
                (l0 := [(3, ptr b3 0), (6, ptr b6 0), (8, LF l), (9, .rs bp P.length), (10, .li (some r) (intsE tk)), (11, I 0)]) (ds := []) ⟨rfl, by simpa [clearAt] using hS⟩ (by simp [go_sem]) rfl ?_
              rintro k _ s4 hk ⟨rfl, hS4⟩ K3 hK3
              have v3 := hS4.v3
              simp only [spC] at v3
              refine W_reg ?_
              simp [go_sem, v3, intsE_length]
              refine hK3 _ _ (decide (k < sp.free.length)) [(3, ptr b3 0), (6, ptr b6 0), (8, LF l), (9, .rs bp P.length), (10, .li (some r) (intsE tk)), (11, I k)] (by simp [go_sem]) (by simp [go_sem]) (by simp [go_sem]) (fun hlt => ?_) (fun hge => ?_)
              · simp only [decide_eq_true_eq] at hlt
                have hw := wrap_succ hlt (by omega)
                have hx := hrng.2 _ (List.getElem_mem hlt)
                have hx0 : 0 ≤ sp.free[k] := by omega
                have hll := clearAt_len P (sp.free.take k)
                have hsn : clearAt P (sp.free.take (k + 1)) = (clearAt P (sp.free.take k)).set sp.free[k].toNat zpage := by
                  unfold clearAt; rw [List.take_succ_eq_append_getElem hlt, List.foldl_append]; rfl
                refine ⟨hlt, W_seq (W_reg ?_)⟩
                simp [go_sem, v3, intsE_get, hlt]
                by_cases hxP : sp.free[k] < (P.length : Int)
                · have hx3 : sp.free[k].toNat < (clearAt P (sp.free.take k)).length := by omega
                  have hrow := (RowIn.rs_row hS4.row).1
                  have hpk := clearAt_pg hPg (sp.free.take k)
                  have h10 := (hpk _ (List.getElem_mem hx3)).1
                  refine W_ifs true (by simp [go_sem, hxP]) (fun _ => W_reg ?_) (fun h => by cases h)
                  simp [go_sem, v3, intsE_get, hlt, hx0, hxP, hrow, List.getElem?_eq_getElem hx3]
                  rw [if_pos (by omega), set10 h10]
                  have h1 := rowSet (es' := clearAt P (sp.free.take (k + 1))) hS4.row
                  have hS5 : RnS s { s4 with rows := putAt s4.rows bp (10, (clearAt P (sp.free.take k)).set sp.free[k].toNat zpage) } sp b3 b6 bp (clearAt P (sp.free.take (k + 1))) := by rw [← hsn]; exact hS4.rows h1
                  simp [go_sem]
                  refine W_reg ?_
                  simp [go_sem, hw]
                  exact ⟨_, ⟨rfl, hS5⟩, by simp [go_sem]⟩
                · have hset : clearAt P (sp.free.take (k + 1)) = clearAt P (sp.free.take k) := by rw [hsn, List.set_eq_of_length_le (by omega)]
                  refine W_ifs false (by simp [go_sem, hxP]) (fun h => by cases h) (fun _ => W_skip ?_)
                  simp only [go_sem]
                  refine W_reg ?_
                  simp [go_sem, hw]
                  exact ⟨_, ⟨rfl, by rw [hset]; exact hS4⟩, by simp [go_sem]⟩
              · simp only [decide_eq_false_iff_not] at hge
                simp only [go_sem]
                refine hK _ _ ?_
                rw [List.take_of_length_le (by omega)] at hS4
                have hpc := clearAt_pg hPg sp.free
                have hlc := clearAt_len P sp.free
                have hend2 : refEndC sp rest shrink = rendOk sp (clearAt P sp.free, l, tk) := hend
                generalize clearAt P sp.free = p1 at hS4 hpc hlc hend2
                have hok1 : OKL l p1.length tk := by rw [hlc]; exact hok
                have hkeep : ([(3, ptr b3 0), (6, ptr b6 0), (8, LF l), (9, .rs bp P.length), (10, .li (some r) (intsE tk)), (11, I k)] : List (Nat × C)) = [(3, ptr b3 0), (6, ptr b6 0), (8, LF l), (9, .rs bp p1.length), (10, .li (some r) (intsE tk)), (11, I k)] := by rw [hlc]
                rw [hkeep]
                have hP2' : 2 ≤ p1.length := by omega
                have hP4' : p1.length ≤ 4096 := by omega
                clear hkeep hlc hok hP2 hP4 hS hPg hend hK hK3 v3
                refine W_keep [(3, ptr b3 0), (6, ptr b6 0), (8, LF l), (9, .rs bp p1.length), (10, .li (some r) (intsE tk))] (by simp [go_sem]) ?_
                have htn : ∀ x ∈ tk, numB x = true := fun x hx => by
                  have := hok1.t x hx
                  simp [numB]; omega
                have hLE : listPagesE l tk sp.ver = 0 := by
                  unfold listPagesE
                  rw [hok1.freed, if_pos rfl]
                  have h1 : numsOk tk sp.ver = true := by
                    unfold numsOk
                    have : (tk.any fun n => !numB n) = false := by
                      rw [List.any_eq_false]
                      intro x hx
                      rw [htn x hx]
                      simp
                    rw [this]
                    simp; omega
                  rw [h1, if_neg (by simp; omega)]
                have hLC := lpF_C l tk sp.ver hLE
                have hlp := listPagesR_c (n + m + m) l tk sp.ver hsz (by omega) (by omega) htl hok1.nd
                rw [hLE] at hlp
                have hesl : (listPagesC l tk sp.ver).length = tk.length := by rw [hLC, rgE_len]
                have heg : ∀ i, i < tk.length → (listPagesC l tk sp.ver)[i]? = some (mkPg 4 (tk.getD i 0) sp.ver (tk.getD (i + 1) 0) (frP (partsP l) i)) := fun i hi => by
                  rw [hLC, rgE_get _ _ i hi]
                  rfl
                unfold rendOk at hend2
                simp only at hend2
                generalize listPagesC l tk sp.ver = es at hlp hesl heg hend2
                clear hLE hLC
                have v3 := hS4.v3
                simp only [spC] at v3
                refine W_seq (W_reg ?_)
                simp [go_sem, v3]
                refine Pure.use hlp ?_
                simp [go_sem]
                refine WL_alloc tzero_117 (by simp) fun b12 hb12 => WL_run _ _ _ ?_
                simp [go_sem]
                have hS5 := hS4.obj hb12.1 [.li none es, I 0]
                have n12 := Sub.none_of hS4.sub hb12.1
                refine (fun (h : ∀ s6 : St, RnS s s6 sp b3 b6 bp p1 → VS.look s6.objs b12 = some [.li none es, I 0] → W Tryz.prog ⟨195, none⟩ _ _ s6 _) => h _ hS5 (by simp [VS.look])) ?_
                clear hS5 hS4 hb12 v3
                intro s6 hS6 v12
                refine W_keep [(3, ptr b3 0), (6, ptr b6 0), (8, LF l), (9, .rs bp p1.length), (10, .li (some r) (intsE tk)), (12, ptr b12 0)] (by simp [go_sem]) ?_
                refine W_seq_k fun K hK => W_seq (W_reg ?_)
                simp [go_sem]
                refine W_for tk.length (fun k L s' => L = [(3, ptr b3 0), (6, ptr b6 0), (8, LF l), (9, .rs bp p1.length), (10, .li (some r) (intsE tk)), (12, ptr b12 0), (13, I k)] ∧ RnS s s' sp b3 b6 bp (laidAt p1 tk es k) ∧ VS.look s'.objs b12 = some [.li none es, I 0])
                  (l0 := [(3, ptr b3 0), (6, ptr b6 0), (8, LF l), (9, .rs bp p1.length), (10, .li (some r) (intsE tk)), (12, ptr b12 0), (13, I 0)]) (ds := []) ⟨rfl, hS6, v12⟩ (by simp [go_sem]) rfl ?_
                clear hS6 v12
                rintro k _ s5 hk ⟨rfl, hE5, v12⟩ K3 hK3
                refine W_reg ?_
                simp [go_sem, v12, hesl]
                refine hK3 _ _ (decide (k < tk.length)) [(3, ptr b3 0), (6, ptr b6 0), (8, LF l), (9, .rs bp p1.length), (10, .li (some r) (intsE tk)), (12, ptr b12 0), (13, I k)] (by simp [go_sem]) (by simp [go_sem]) (by simp [go_sem]) (fun hlt => ?_) (fun hge => ?_)
                · simp only [decide_eq_true_eq] at hlt
                  have hw := wrap_succ hlt (by omega)
                  have hek' : k < es.length := by omega
                  have hek2 : es[k] = [I 4, I (tk.getD k 0), I sp.ver, I 0, I 0, Bo false, .v (.slice none 0 0), I (tk.getD (k + 1) 0), .v (.string ⟨#[]⟩), frP (partsP l) k] := by
                    have := heg k hlt
                    rw [List.getElem?_eq_getElem hek'] at this
                    exact Option.some.inj this
                  have htk1 : tk.getD k 0 = tk[k] := by simp [List.getD, hlt]
                  rw [htk1] at hek2
                  have hx := hok1.t _ (List.getElem_mem hlt)
                  have hll := laidAt_len p1 tk es k
                  have hx0 : 0 ≤ tk[k] := by omega
                  have hx1 : tk[k] < (p1.length : Int) := hx.2
                  have hx3 : tk[k].toNat < (laidAt p1 tk es k).length := by omega
                  have hone := frP_one (partsP l) k
                  generalize frP (partsP l) k = fr at hek2 hone
                  have hrow := (RowIn.rs_row hE5.row).1
                  have h10 := (laidAt_pg hpc tk es k (fun i hi => by
                    rw [List.getD, heg i (by omega)]
                    exact ⟨rfl, mkPg_one _ _ _ _ _ (frP_one _ _)⟩) _ (List.getElem_mem hx3)).1
                  have hsn : (laidAt p1 tk es k).set tk[k].toNat [I 4, I tk[k], I sp.ver, I 0, I 0, Bo false, .v (.slice none 0 0), I (tk.getD (k + 1) 0), .v (.string ⟨#[]⟩), fr] = laidAt p1 tk es (k + 1) := by
                    rw [laidAt_succ, htk1]
                    rw [show es.getD k [] = es[k] by simp [List.getD, hek'], hek2]
                  have hl' : (laidAt p1 tk es (k + 1)).length = p1.length := laidAt_len p1 tk es (k + 1)
                  have h1 := rowSet (es' := laidAt p1 tk es (k + 1)) hE5.row
                  have hE6 := hE5.rows h1
                  generalize hnx : tk.getD (k + 1) 0 = nx at hek2 hsn
                  refine ⟨hlt, W_drawr 12 Tryz.mixed (by kernel_rfl) ?_⟩
                  simp [go_sem, v12, hek', hek2, hll, hx0, hx1, hrow, List.getElem?_eq_getElem hx3]
                  rw [if_pos (by exact hone), if_pos (by omega), set10 h10, hsn]
                  simp [go_sem]
                  refine W_reg ?_
                  simp [go_sem, hw]
                  exact ⟨_, ⟨rfl, hE6, v12⟩, by simp [go_sem]⟩
                · simp only [decide_eq_false_iff_not] at hge
                  have hkn : k = tk.length := by omega
                  subst hkn
                  simp only [go_sem]
                  refine hK _ _ ?_
                  have hpg := laidAt_pg hpc tk es tk.length (fun i hi => by
                    rw [List.getD, heg i (by omega)]
                    exact ⟨rfl, mkPg_one _ _ _ _ _ (frP_one _ _)⟩)
                  have hll := laidAt_len p1 tk es tk.length
                  have hkeep : ([(3, ptr b3 0), (6, ptr b6 0), (8, LF l), (9, .rs bp p1.length), (10, .li (some r) (intsE tk)), (12, ptr b12 0), (13, I tk.length)] : List (Nat × C)) = [(3, ptr b3 0), (6, ptr b6 0), (8, LF l), (9, .rs bp (laidAt p1 tk es tk.length).length), (10, .li (some r) (intsE tk)), (12, ptr b12 0), (13, I tk.length)] := by rw [hll]
                  rw [hkeep]
                  clear hkeep hll
                  generalize laidAt p1 tk es tk.length = PL at hE5 hpg hend2 ⊢
                  clear hK hK3
                  refine W_freeze 9 10 PL s.rows (by simpa [go_sem] using hE5.row) (by rw [List.all_eq_true]; exact fun e he => (hpg e he).2) ?_
                  refine (fun (h : ∀ s6 : St, VS.look s6.objs b3 = some (spC sp) → VS.look s6.objs b6 = some zspd → Sub s6 s → W Tryz.prog ⟨195, none⟩ _ _ s6 _) => h { s5 with rows := s.rows } hE5.v3 hE5.v6 ⟨hE5.sub.objs, fun _ _ h => h, hE5.sub.toks, hE5.sub.maps⟩) ?_
                  clear hE5 v12 n12
                  intro s6 v3 v6 hsub
                  refine W_keep [(3, ptr b3 0), (6, ptr b6 0), (8, LF l), (9, .li none PL), (10, .li (some r) (intsE tk))] (by simp [go_sem]) ?_
                  simp only [spC] at v3
                  simp only [zspd] at v6
                  refine W_seq (W_reg ?_)
                  simp [go_sem, v3]
                  refine WL_alloc tzero_34 (by simp) fun b14 hb14 => WL_run _ _ _ ?_
                  simp [go_sem]
                  have d314 : b3 ≠ b14 := fun e => by subst e; have := hb14.1; rw [this] at v3; cases v3
                  have d614 : b6 ≠ b14 := fun e => by subst e; have := hb14.1; rw [this] at v6; cases v6
                  have hs7 := Sub.trans (sub_obj hb14 [.li none PL, .v (.slice none 0 0), .v (.slice none 0 0), .v (.slice none 0 0), I sp.ver, I sp.tree, LF l, I 0, I 0]) hsub
                  have n14 := Sub.none_of hsub hb14.1
                  refine (fun (h : ∀ s7 : St, VS.look s7.objs b6 = some [.v (.slice none 0 0), .v (.slice none 0 0), .v (.slice none 0 0), .v (.slice none 0 0), I 0, I 0, .v (.slice none 0 0), I 0, I 0] → VS.look s7.objs b14 = some [.li none PL, .v (.slice none 0 0), .v (.slice none 0 0), .v (.slice none 0 0), I sp.ver, I sp.tree, LF l, I 0, I 0] → Sub s7 s → W Tryz.prog ⟨195, none⟩ _ _ s7 _) => h _ (lookCons hb14.1 v6) (by simp [VS.look]) hs7) ?_
                  clear hs7 hsub hb14 v3 v6
                  intro s7 v6 v14 hsub
                  refine W_keep [(6, ptr b6 0), (10, .li (some r) (intsE tk)), (14, ptr b14 0)] (by simp [go_sem]) ?_
                  refine W_seq_k fun K hK => W_seq (W_reg ?_)
                  have last : ∀ E' s8, Has E' [(6, ptr b6 0), (14, ptr b14 0)] → E'.ds = [] → VS.look s8.objs b6 = some [.v (.slice none 0 0), .v (.slice none 0 0), .v (.slice none 0 0), .v (.slice none 0 0), I 0, I 0, .v (.slice none 0 0), I 0, I 0] → VS.look s8.objs b14 = some [.li none PL, .v (.slice none 0 0), .v (.slice none 0 0), .v (.slice none 0 0), I sp.ver, I sp.tree, LF l, I (tk.headD 0), I 0] → Sub s8 s → K E' s8 := fun E' s8 h1 h2 w6 w14 hsub8 => hK _ _ (W_keep _ h1 (by
                    rw [h2]
                    clear hK
                    refine W_seq (W_reg ?_)
                    simp [go_sem, w6, w14]
                    refine W_ret ?_
                    simp only [go_sem]
                    refine ⟨trivial, .agg [.li none PL, .v (.slice none 0 0), .v (.slice none 0 0), .v (.slice none 0 0), I sp.ver, I sp.tree, LF l, I (tk.headD 0), I 0], by simp [go_sem, look_putAt, w6], s, sub_put hsub8 n6 _, ?_, rfl⟩
                    rw [hend2]
                    simp [go_sem, intsE]))
                  simp [go_sem, intsE_length]
                  cases tk with
                  | nil =>
                    refine W_ifs false (by simp [go_sem]) (fun h => by cases h) (fun _ => W_skip ?_)
                    simp only [go_sem]
                    exact last _ _ (by simp [go_sem]) (by simp [go_sem]) v6 v14 hsub
                  | cons x0 tk0 =>
                    refine W_ifs true (by simp [go_sem]) (fun _ => W_reg ?_) (fun h => by cases h)
                    simp [go_sem, intsE_get, v14]
                    refine last _ _ (by simp [go_sem]) (by simp [go_sem]) ?_ ?_ (sub_put hsub n14 _)
                    · show VS.look (putAt s7.objs b14 _) _ = _
                      rw [look_putAt, if_neg d614]; exact v6
                    · show VS.look (putAt s7.objs b14 _) _ = _
                      rw [look_putAt, if_pos rfl, v14]; rfl
          have htr := tail_range hgood2 (by omega)
          have htl := tail_law hgood2 hp2
          have hcl := cut_law hgood2
          rw [htl] at htr hcl
          simp [go_sem]
          cases shrink
          · simp only [Bool.false_eq_true, if_false] at hEP3
            rw [List.take_of_length_le (Nat.le_refl _)] at hEP3
            refine W_ifs false (by simp [go_sem]) (fun h => by cases h) (fun _ => W_skip ?_)
            simp only [go_sem]
            exact key3 _ _ bp sp.pg sp.pg.length l2 (by simp [go_sem]) (by simp [go_sem]) hS (Nat.le_refl _) hpz hp2 hp4 hs2 (hgood2.okl hp4) hn2 (by rw [List.take_of_length_le (Nat.le_refl _)]; exact hEP3)
          · simp only [if_true] at hEP3
            generalize htn : tailR l2 sp.pg.length = tn at htr hcl hEP3
            refine W_ifs true (by simp [go_sem]) (fun _ => ?_) (fun h => by cases h)
            refine W_seq (W_reg ?_)
            simp [go_sem]
            refine Pure.use (refTail_c l2 sp.pg.length hp2 (by omega)) ?_
            rw [htn]
            simp [go_sem]
            refine W_seq (W_reg ?_)
            simp [go_sem]
            refine Pure.use (cutR_c (n + m + m) l2 tn hs2 (by omega)) ?_
            rw [hcl] at hEP3 ⊢
            simp [go_sem]
            have ht2 : (tn : Int) ≤ (sp.pg.length : Int) := by omega
            refine W_reg ?_
            simp [go_sem, ht2]
            exact key3 _ _ bp sp.pg tn (keepP l2 tn) (by simp [go_sem]) (by simp [go_sem]) hS (by omega) hpz (by omega) (by omega) (keep_sz hs2 _) (keep_okl (hgood2.okl hp4)) (Nat.le_trans (keep_nums _ _) hn2) hEP3))
      simp [go_sem]
      refine Pure.use (is_c n sp.pg.length rest hs (by omega) (by omega)) ?_
      cases hB : isB rest sp.pg.length
      · simp [go_sem]
        exact key2 _ true (by simp [go_sem]) (by simp [go_sem]) (by simp [hB])
      simp [go_sem, v3]
      refine Pure.use (once_c sp.gone sp.pg.length) ?_
      cases hig : incr sp.gone sp.pg.length
      · simp [go_sem]
        exact key2 _ true (by simp [go_sem]) (by simp [go_sem]) (by simp [hB, hig])
      simp [go_sem, v3]
      refine Pure.use (once_c sp.free sp.pg.length) ?_
      cases hif : incr sp.free sp.pg.length
      · simp [go_sem]
        exact key2 _ true (by simp [go_sem]) (by simp [go_sem]) (by simp [hB, hig, hif])
      have hgood := (isB_iff _ _).1 hB
      have hrg : ∀ x ∈ sp.gone ++ sp.free ++ nums rest, 0 ≤ x ∧ x < (sp.pg.length : Int) := fun x hx => by
        rcases List.mem_append.1 hx with hx | hx
        · rcases List.mem_append.1 hx with hx | hx
          · have := ((incr_iff _ _).1 hig).2 x hx; omega
          · have := ((incr_iff _ _).1 hif).2 x hx; omega
        · obtain ⟨f, hf, hx⟩ := nums_mem.1 hx
          have := (hgood.ok f hf).2.2.2.2 x hx
          omega
      simp [go_sem, v3]
      refine Pure.use (apart_c sp.pg.length sp.gone sp.free rest (by omega) (by omega) (by omega) (by omega) (by have := hs.len; omega) hrg) ?_
      simp [go_sem]
      exact key2 _ (!(apartB sp.gone sp.free rest)) (by simp [go_sem]) (by simp [go_sem]) (by simp [hB, hig, hif])))
  have hiv : inV sp.ver = (decide (1 ≤ sp.ver) && decide (sp.ver ≤ 1099511627776)) := rfl
  have hnn : (decide (2 ≤ (sp.pg.length : Int)) && decide ((sp.pg.length : Int) ≤ 4096)) = (decide (2 ≤ sp.pg.length) && decide (sp.pg.length ≤ 4096)) := by
    rw [Bool.eq_iff_iff]; simp; omega
  by_cases c1 : sp.ver < 1
  · have n1 : ¬ 1 ≤ sp.ver := by omega
    simp [go_sem, v3, c1]
    exact key _ true (by simp [go_sem]) (by simp [go_sem]) (by rw [hiv]; simp [n1])
  · have n1 : 1 ≤ sp.ver := by omega
    by_cases c2 : 1099511627776 < sp.ver
    · have n2 : ¬ sp.ver ≤ 1099511627776 := by omega
      simp [go_sem, v3, c1, c2]
      exact key _ true (by simp [go_sem]) (by simp [go_sem]) (by rw [hiv]; simp [n2])
    · have n2 : sp.ver ≤ 1099511627776 := by omega
      simp [go_sem, v3, c1, c2]
      refine Pure.use (size_c _) ?_
      rw [hnn]
      simp only [go_sem]
      exact key _ (!(decide (2 ≤ sp.pg.length) && decide (sp.pg.length ≤ 4096))) (by simp [go_sem]) (by simp [go_sem]) (by rw [hiv]; simp [n1, n2])
end Go.Proofs.YtpmknffollpnaaaGreat
namespace Go.VS
open Go
section
variable {P : Program} {w : World} {s : St} {g : Gh} {E : Env} {N : NR} {Q : Ends} {a : Act}
theorem eqFields_same {d : Nat} {xs : Array Value} : ∀ fs : List Field, (∀ f ∈ fs, ∃ u, (part f.type xs f.offset).run P w = .ok u w ∧ (Op.equalIn d f.type u u).run P w = .ok true w) → (Op.eqFields d xs xs fs).run P w = .ok true w
  | [], _ => by simp [Op.eqFields]
  | f :: fs, h => by
    obtain ⟨u, h1, h2⟩ := h f (by simp)
    have ih := eqFields_same fs fun g hg => h g (by simp [hg])
    unfold Op.eqFields
    by_cases hn : f.name ≠ "_"
    · rw [if_pos hn]
      simp [h1, h2, ih]
    · rw [if_neg hn]
      exact ih
theorem eqArr_same {d t n e : Nat} {xs : Array Value} (ht : P.underlying t = some (.array n e)) (hz : (sizeOf e).run P w = .ok 1 w) (h : ∀ i, i < n → ∃ u, (part e xs (i * 1)).run P w = .ok u w ∧ (Op.equalIn d e u u).run P w = .ok true w) :
    (Op.equalIn (d + 1) t (.agg xs) (.agg xs)).run P w = .ok true w := by
  rw [Op.equalIn]
  simp only [Sem.run_bind, run_underlying ht, Result.andThen_ok, hz, Std.Legacy.Range.forIn_eq_forIn_range', Std.Legacy.Range.size, Nat.sub_zero, Nat.add_sub_cancel, Nat.div_one]
  have hl : ∀ i ∈ List.range' 0 n, i < n := fun i hi => by simp [List.mem_range'] at hi; omega
  generalize List.range' 0 n = l at hl
  clear ht
  induction l with
  | nil => simp
  | cons i l ih =>
    obtain ⟨u, h1, h2⟩ := h i (hl i (by simp))
    have ih' := ih fun j hj => hl j (by simp [hj])
    simp only [List.forIn_cons, Sem.run_bind, h1, h2, Result.andThen_ok, Bool.not_true, Bool.false_eq_true, if_false, Sem.run_pure]
    exact ih'
theorem part_one {e off : Nat} {xs : Array Value} {v : Value} (ha : (isAgg e).run P w = .ok false w) (hx : xs[off]? = some v) : (part e xs off).run P w = .ok v w := by
  simp [part, ha, hx]
theorem WL_neqSame {d t : Nat} {u ty : TypeId} {rest : List Ro} {x y : Operand} {cs : List C} {xs : Array Value} (hx : evo E.f x = .agg cs) (hy : evo E.f y = .agg cs) (hcs : cs = xs.toList.map .v) (hg : P.eqGuardType P.depth t = false) (heq : ∀ w, (Op.equalIn 10000 t (.agg xs) (.agg xs)).run P w = .ok true w) (hd : d < N)
    (h : WL P N rest (E.set (some d) (.v (.bool false))) s Q) :
    WL P N (⟨some d, .binOp .neq t x y u, ty, .no⟩ :: rest) E s Q := by
  refine WL_core (fun k hk => by cases hk; exact hd) fun w g a o hr ho1 ho2 => ?_
  have val : ∀ z : Operand, evo E.f z = .agg cs → a.eval z = .agg xs := fun z hz => by
    have hrz := hr.evo z
    rw [hz] at hrz
    obtain ⟨vs, hn, hv, hr'⟩ := hrz.agg_inv
    rw [hv]
    congr 1
    subst hcs
    apply Array.ext
    · simpa using hn
    · intro i h1 h2
      have := hr' i (by simpa using h2)
      simp only [List.getElem_map, Array.getElem_toList] at this
      exact this.v_eq
  refine ⟨.bool false, w, s, g, .v (.bool false), .inl ?_, .v _, hr.st, Step.refl _ _ _, h⟩
  simp only [execOp, ho1, val x hx, val y hy, Sem.run_bind, run_eqGuard_agg w _ _ _ _ _ _ hg, Result.andThen_ok, run_neq_struct, heq]
  simp
end
end Go.VS
namespace Go.Proofs.YtpmknffollpnaaaGreat
open Go Go.VS
structure En where
  key : ByteArray
  val : ByteArray
  ov : Int
  ln : Int
  ch : Int
  cn : Int
  sum : List Int
  hs : sum.length = 16
  deriving DecidableEq
structure Pg where
  kind : Int
  no : Int
  ver : Int
  tree : Int
  level : Int
  top : Bool
  ents : List En
  next : Int
  data : ByteArray
  fr : List Fr
  deriving DecidableEq
def enV (e : En) : List Value := [.string e.key, .string e.val, .int .i64 e.ov, .int .i64 e.ln, .int .i64 e.ch, .int .i64 e.cn] ++ e.sum.map (.int .u8)
def enC (e : En) : List C := (enV e).map .v
def ensE (l : List En) : List (List C) := l.map enC
abbrev LE (l : List En) : C := .li none (ensE l)
def pgC (p : Pg) : List C := [I p.kind, I p.no, I p.ver, I p.tree, I p.level, Bo p.top, LE p.ents, I p.next, .v (.string p.data), LF p.fr]
def pgsE (l : List Pg) : List (List C) := l.map pgC
abbrev LPg (l : List Pg) : C := .li none (pgsE l)
theorem ensE_length (l : List En) : (ensE l).length = l.length := by simp [ensE]
theorem ensE_get (l : List En) (i : Nat) : (ensE l)[i]? = (l[i]?).map enC := by simp [ensE]
theorem pgsE_length (l : List Pg) : (pgsE l).length = l.length := by simp [pgsE]
theorem pgsE_get (l : List Pg) (i : Nat) : (pgsE l)[i]? = (l[i]?).map pgC := by simp [pgsE]
theorem enC_len (e : En) : (enC e).length = 22 := by simp [enC, enV, e.hs]
theorem enV_len (e : En) : (enV e).length = 22 := by simp [enV, e.hs]
theorem structB_231 : structB Tryz.prog 231 [(9, 0), (9, 1), (3, 2), (3, 3), (3, 4), (3, 5), (229, 6)] = true := by kernel_rfl
theorem arrB_229 : tarr Tryz.prog 229 = some (16, 5) := by kernel_rfl
theorem u9s : Tryz.prog.underlying 9 = some .string := by kernel_rfl
theorem u5s : Tryz.prog.underlying 5 = some (.int .u8) := by kernel_rfl
theorem eqEntry (e : En) (w : World) : (Op.equalIn 10000 231 (.agg (enV e).toArray) (.agg (enV e).toArray)).run Tryz.prog w = .ok true w := by
  obtain ⟨fs, h1, h2⟩ := struct_of structB_231
  have hf : Tryz.prog.fieldsOf 231 = fs := by simp [Program.fieldsOf, h1]
  rw [show (10000 : Nat) = 9999 + 1 from rfl, run_equalIn_struct w 9999 231 _ _ (by rw [hf]; exact h1) (by kernel_rfl), hf]
  refine eqFields_same _ fun f hfm => ?_
  have hmem : (f.type, f.offset) ∈ [((9 : Nat), 0), (9, 1), (3, 2), (3, 3), (3, 4), (3, 5), (229, 6)] := by rw [← h2]; exact List.mem_map_of_mem (f := fun f : Field => (f.type, f.offset)) hfm
  have istr : ∀ (x : ByteArray) (o : Nat), (enV e).toArray[o]? = some (.string x) → ∃ u, (part 9 (enV e).toArray o).run Tryz.prog w = .ok u w ∧ (Op.equalIn 9999 9 u u).run Tryz.prog w = .ok true w := fun x o hx =>
    ⟨.string x, part_one (tagg_run (by kernel_rfl)) hx, by rw [show (9999 : Nat) = 9998 + 1 from rfl, run_equalIn_string w 9998 9 x x u9s]; simp⟩
  have iint : ∀ (x : Int) (o : Nat), (enV e).toArray[o]? = some (.int .i64 x) → ∃ u, (part 3 (enV e).toArray o).run Tryz.prog w = .ok u w ∧ (Op.equalIn 9999 3 u u).run Tryz.prog w = .ok true w := fun x o hx =>
    ⟨.int .i64 x, part_one (tagg_run (by kernel_rfl)) hx, by rw [show (9999 : Nat) = 9998 + 1 from rfl, run_equalIn_int w 9998 3 .i64 .i64 x x u3]; simp⟩
  simp only [List.mem_cons, Prod.mk.injEq, List.not_mem_nil, or_false] at hmem
  rcases hmem with ⟨e1, e2⟩ | ⟨e1, e2⟩ | ⟨e1, e2⟩ | ⟨e1, e2⟩ | ⟨e1, e2⟩ | ⟨e1, e2⟩ | ⟨e1, e2⟩ <;> rw [e1, e2]
  · exact istr e.key 0 (by simp [enV])
  · exact istr e.val 1 (by simp [enV])
  · exact iint e.ov 2 (by simp [enV])
  · exact iint e.ln 3 (by simp [enV])
  · exact iint e.ch 4 (by simp [enV])
  · exact iint e.cn 5 (by simp [enV])
  · have hz : (sizeOf 229).run Tryz.prog w = .ok 16 w := by
      have := tsz_run (P := Tryz.prog) (w := w) (t := 229) (by kernel_rfl)
      rw [show tsz Tryz.prog 229 = 16 by kernel_rfl] at this
      exact this
    have hex : List.take 16 (List.drop 6 (enV e)) = e.sum.map (Value.int .u8) := by
      rw [show List.drop 6 (enV e) = e.sum.map (Value.int .u8) by simp [enV], List.take_of_length_le (by simp [e.hs])]
    refine ⟨.agg (e.sum.map (Value.int .u8)).toArray, ?_, ?_⟩
    · simp [part, tagg_run (P := Tryz.prog) (w := w) (t := 229) (ag := true) (by kernel_rfl), hz, hex]
    · rw [show (9999 : Nat) = 9998 + 1 from rfl]
      refine eqArr_same (n := 16) (e := 5) ?_ ?_ fun i hi => ?_
      · have := arrB_229
        unfold tarr at this
        split at this
        · rename_i hu; cases this; exact hu
        · cases this
      · have := tsz_run (P := Tryz.prog) (w := w) (t := 5) (by kernel_rfl)
        rw [show tsz Tryz.prog 5 = 1 by kernel_rfl] at this
        exact this
      · have hi' : i < e.sum.length := by rw [e.hs]; exact hi
        refine ⟨.int .u8 e.sum[i], part_one (tagg_run (by kernel_rfl)) (by simp [hi']), ?_⟩
        rw [show (9998 : Nat) = 9997 + 1 from rfl, run_equalIn_int w 9997 5 .u8 .u8 _ _ u5s]
        simp
set_option maxRecDepth 4000 in
theorem sameEntries_c (a b : List En) (hab : a = b ∨ a = [] ∨ b = []) : Pure Tryz.prog 148 [LE a, LE b] (Bo (decide (a = b))) := by
  intro s
  refine CallC_of Tryz.func148 rfl (by rfl) Tryz.ntmps148 (by simp) ?_
  refine W_seq (W_reg ?_)
  simp [go_sem]
  refine W_len 0 (tok := none) (es := ensE a) (by simp [go_sem]) fun hla => ?_
  rw [ensE_length] at hla
  refine W_seq (W_seq (W_reg ?_))
  simp [go_sem, ensE_length]
  by_cases hl : a.length = b.length
  · have hab2 : a = b := by
      rcases hab with h | h | h
      · exact h
      · subst h; exact (List.eq_nil_of_length_eq_zero (by simpa using hl.symm)).symm
      · subst h; exact List.eq_nil_of_length_eq_zero (by simpa using hl)
    subst hab2
    refine W_ifs false (by simp [go_sem]) (fun h => by cases h) (fun _ => W_skip ?_)
    simp only [go_sem]
    refine W_seq (W_seq (W_reg ?_))
    simp [go_sem]
    refine W_for a.length (fun k l s' => l = [(0, LE a), (1, LE a), (5, I k)] ∧ s' = s) (l0 := [(0, LE a), (1, LE a), (5, I 0)]) (ds := []) ⟨rfl, rfl⟩ (by simp [go_sem]) rfl ?_
    rintro k _ s1 hk ⟨rfl, rfl⟩ K hK
    refine W_reg ?_
    simp [go_sem, ensE_length]
    refine hK _ _ (decide (k < a.length)) [(0, LE a), (1, LE a), (5, I k)] (by simp [go_sem]) (by simp [go_sem]) (by simp [go_sem]) (fun hlt => ?_) (fun hge => ?_)
    · simp only [decide_eq_true_eq] at hlt
      have hw := wrap_succ hlt (by omega)
      have htk : List.take 22 (enC a[k]) = enC a[k] := List.take_of_length_le (Nat.le_of_eq (enC_len a[k]))
      refine ⟨hlt, W_seq_k fun K2 hK2 => ?_⟩
      refine W_draws (Ef := ?_) 8 [] (fun _ => True) Tryz.mixed (by kernel_rfl) trivial (fun s' _ => ?_) ?_
      rotate_left
      · simp [go_sem, ensE_get, hlt, enC_len, htk]
        rfl
      refine LL_nil (WL_neqSame (cs := enC a[k]) (xs := (enV a[k]).toArray) (by simp [go_sem]) (by simp [go_sem]) (by simp [enC]) (by kernel_rfl) (eqEntry a[k]) (by simp) (WL_run _ _ _ ?_))
      simp [go_sem]
      refine hK2 _ _ ?_
      refine W_ifs false (by simp [go_sem]) (fun h => by cases h) (fun _ => W_skip ?_)
      simp only [go_sem]
      refine W_reg ?_
      simp [go_sem, hw]
    · simp only [go_sem]
      refine W_seq (W_reg ?_)
      simp [go_sem]
      refine W_ret ?_
      simp only [go_sem]
      exact ⟨trivial, _, rfl, s1, Sub.refl _, by simp [go_sem], rfl⟩
  · refine W_ifs true (by simp [go_sem]; omega) (fun _ => W_seq (W_reg ?_)) (fun h => by cases h)
    simp [go_sem]
    refine W_ret ?_
    simp only [go_sem]
    refine ⟨trivial, _, rfl, s, Sub.refl _, ?_, rfl⟩
    have : a ≠ b := fun e => hl (by rw [e])
    simp [this, go_sem]
theorem bytesNe (x y : ByteArray) : (!(x.toList == y.toList)) = decide (x ≠ y) := by
  have : x.toList = y.toList ↔ x = y := by
    rw [ByteArray.toList_eq, ByteArray.toList_eq]
    obtain ⟨⟨x⟩⟩ := x
    obtain ⟨⟨y⟩⟩ := y
    simp
  by_cases h : x = y
  · subst h; simp
  · have h2 : ¬ x.toList = y.toList := fun e => h (this.1 e)
    simp [h, h2]
set_option maxRecDepth 8000 in
theorem same_c (p q : Pg) (hab : p.ents = q.ents ∨ p.ents = [] ∨ q.ents = []) : Pure Tryz.prog 111 [.agg (pgC p), .agg (pgC q)] (Bo (decide (p = q))) := by
  intro s
  refine CallC_of Tryz.func111 rfl (by rfl) Tryz.ntmps111 (by simp) ?_
  refine W_seq (W_reg ?_)
  simp [go_sem]
  refine WL_box (by simp [go_sem, pgC]) (by simp) fun b2 hb2 => WL_run _ _ _ ?_
  simp [go_sem]
  refine WL_box (by simp [go_sem, pgC]) (by simp) fun b3 hb3 => WL_run _ _ _ ?_
  simp [go_sem]
  have hn : b2 ≠ b3 := fun e => by subst e; have := hb3.1; simp [VS.look] at this
  have v2 : VS.look (St.mk ((b3, pgC q) :: (b2, pgC p) :: s.objs) s.rows s.toks s.maps).objs b2 = some (pgC p) := by simp [VS.look, Ne.symm hn]
  have v3 : VS.look (St.mk ((b3, pgC q) :: (b2, pgC p) :: s.objs) s.rows s.toks s.maps).objs b3 = some (pgC q) := by simp [VS.look]
  have hsub := Sub.trans (sub_obj hb3 (pgC q)) (sub_obj hb2 (pgC p))
  refine (fun (h : ∀ s1 : St, VS.look s1.objs b2 = some (pgC p) → VS.look s1.objs b3 = some (pgC q) → Sub s1 s → W Tryz.prog ⟨71, none⟩ _ _ s1 _) => h _ v2 v3 hsub) ?_
  clear v2 v3 hsub hb2 hb3 hn
  intro s1 v2 v3 hsub
  simp only [pgC] at v2 v3
  refine W_keep [(2, ptr b2 0), (3, ptr b3 0)] (by simp [go_sem]) ?_
  refine W_seq (W_seq_k fun K hK => W_reg ?_)
  have hpq : (p = q) ↔ (p.kind = q.kind ∧ p.no = q.no ∧ p.ver = q.ver ∧ p.tree = q.tree ∧ p.level = q.level ∧ p.top = q.top ∧ p.next = q.next ∧ p.data = q.data) ∧ p.ents = q.ents ∧ p.fr = q.fr := by
    constructor
    · rintro rfl; simp
    · rintro ⟨⟨h1, h2, h3, h4, h5, h6, h7, h8⟩, h9, h10⟩
      cases p; cases q; simp_all
  have key : ∀ E' t, Has E' [(58, Bo t), (2, ptr b2 0), (3, ptr b3 0)] → E'.ds = [] → (t = true → ¬ (p.kind = q.kind ∧ p.no = q.no ∧ p.ver = q.ver ∧ p.tree = q.tree ∧ p.level = q.level ∧ p.top = q.top ∧ p.next = q.next ∧ p.data = q.data)) →
      (t = false → (p.kind = q.kind ∧ p.no = q.no ∧ p.ver = q.ver ∧ p.tree = q.tree ∧ p.level = q.level ∧ p.top = q.top ∧ p.next = q.next ∧ p.data = q.data)) → K E' s1 := fun E' t h1 h2 ht hf => hK _ _ (W_keep _ h1 (by
    rw [h2]
    refine W_ifs t (by simp [go_sem]) (fun h => W_seq (W_reg ?_)) (fun h => W_skip ?_)
    · simp [go_sem]
      refine W_ret ?_
      simp only [go_sem]
      refine ⟨trivial, _, rfl, s, hsub, ?_, rfl⟩
      have : ¬ p = q := fun e => ht h (hpq.1 e).1
      simp [this, go_sem]
    · have hd := hf h
      simp only [go_sem]
      refine W_keep [(2, ptr b2 0), (3, ptr b3 0)] (by simp [go_sem]) ?_
      refine W_seq (W_reg ?_)
      simp [go_sem, v2, v3]
      refine Pure.use (sameEntries_c p.ents q.ents hab) ?_
      by_cases he : p.ents = q.ents
      · simp [go_sem, v2, v3, he]
        refine Pure.use (sameFreed_c p.fr q.fr) ?_
        simp [go_sem]
        refine W_ret ?_
        simp only [go_sem]
        refine ⟨trivial, _, rfl, s, hsub, ?_, rfl⟩
        have : (p = q) ↔ p.fr = q.fr := hpq.trans ⟨fun h => h.2.2, fun h => ⟨hd, he, h⟩⟩
        simp [go_sem, this]
      · simp [go_sem, v2, v3, he]
        refine W_ret ?_
        simp only [go_sem]
        refine ⟨trivial, _, rfl, s, hsub, ?_, rfl⟩
        have : ¬ p = q := fun e => he (hpq.1 e).2.1
        simp [go_sem, this]))
  have nb : ∀ x y : Int, x ≠ y → (x == y) = false := fun x y h => by simpa using h
  by_cases c1 : p.kind = q.kind
  · by_cases c2 : p.no = q.no
    · by_cases c3 : p.ver = q.ver
      · by_cases c4 : p.tree = q.tree
        · by_cases c5 : p.level = q.level
          · by_cases c6 : p.top = q.top
            · by_cases c7 : p.next = q.next
              · have hdat := bytesNe p.data q.data
                simp [go_sem, v2, v3, c1, c2, c3, c4, c5, c6, c7, bne]
                exact key _ (!(p.data.toList == q.data.toList)) (by simp [go_sem]) (by simp [go_sem]) (by rw [hdat]; simp; intro h _ _ _ _ _ _ _ ; exact h) (by rw [hdat]; simp; intro h; exact ⟨c1, c2, c3, c4, c5, c6, c7, h⟩)
              · have d := nb _ _ c7
                simp [go_sem, v2, v3, c1, c2, c3, c4, c5, c6, d, bne]
                exact key _ true (by simp [go_sem]) (by simp [go_sem]) (fun _ h => c7 h.2.2.2.2.2.2.1) (fun h => by cases h)
            · have c6' : (p.top == q.top) = false := by simpa using c6
              simp [go_sem, v2, v3, c1, c2, c3, c4, c5, c6', bne]
              exact key _ true (by simp [go_sem]) (by simp [go_sem]) (fun _ h => c6 h.2.2.2.2.2.1) (fun h => by cases h)
          · have d := nb _ _ c5
            simp [go_sem, v2, v3, c1, c2, c3, c4, d, bne]
            exact key _ true (by simp [go_sem]) (by simp [go_sem]) (fun _ h => c5 h.2.2.2.2.1) (fun h => by cases h)
        · have d := nb _ _ c4
          simp [go_sem, v2, v3, c1, c2, c3, d, bne]
          exact key _ true (by simp [go_sem]) (by simp [go_sem]) (fun _ h => c4 h.2.2.2.1) (fun h => by cases h)
      · have d := nb _ _ c3
        simp [go_sem, v2, v3, c1, c2, d, bne]
        exact key _ true (by simp [go_sem]) (by simp [go_sem]) (fun _ h => c3 h.2.2.1) (fun h => by cases h)
    · have d := nb _ _ c2
      simp [go_sem, v2, v3, c1, d, bne]
      exact key _ true (by simp [go_sem]) (by simp [go_sem]) (fun _ h => c2 h.2.1) (fun h => by cases h)
  · have d := nb _ _ c1
    simp [go_sem, v2, v3, d, bne]
    exact key _ true (by simp [go_sem]) (by simp [go_sem]) (fun _ h => c1 h.1) (fun h => by cases h)
end Go.Proofs.YtpmknffollpnaaaGreat
namespace Go.Proofs.YtpmknffollpnaaaGreat
open Go Go.VS
theorem pgC_len (p : Pg) : (pgC p).length = 10 := rfl
set_option maxRecDepth 4000 in
theorem samePages_c (a b : List Pg) (hab : ∀ i (hi : i < a.length) (hj : i < b.length), a[i].ents = b[i].ents ∨ a[i].ents = [] ∨ b[i].ents = []) : Pure Tryz.prog 66 [LPg a, LPg b] (Bo (decide (a = b))) := by
  intro s
  refine CallC_of Tryz.func66 rfl (by rfl) Tryz.ntmps66 (by simp) ?_
  refine W_seq (W_reg ?_)
  simp [go_sem]
  refine W_len 0 (tok := none) (es := pgsE a) (by simp [go_sem]) fun hla => ?_
  rw [pgsE_length] at hla
  refine W_seq (W_seq (W_reg ?_))
  simp [go_sem, pgsE_length]
  by_cases hl : a.length = b.length
  · refine W_ifs false (by simp [go_sem, hl]) (fun h => by cases h) (fun _ => W_skip ?_)
    simp only [go_sem]
    refine W_seq (W_seq (W_reg ?_))
    simp [go_sem]
    refine W_for a.length (fun k l s' => l = [(0, LPg a), (1, LPg b), (5, I k)] ∧ s' = s ∧ ∀ j, j < k → a[j]? = b[j]?) (l0 := [(0, LPg a), (1, LPg b), (5, I 0)]) (ds := []) ⟨rfl, rfl, fun j hj => by omega⟩ (by simp [go_sem]) rfl ?_
    rintro k _ s1 hk ⟨rfl, rfl, hall⟩ K hK
    refine W_reg ?_
    simp [go_sem, pgsE_length]
    refine hK _ _ (decide (k < a.length)) [(0, LPg a), (1, LPg b), (5, I k)] (by simp [go_sem]) (by simp [go_sem]) (by simp [go_sem]) (fun hlt => ?_) (fun hge => ?_)
    · simp only [decide_eq_true_eq] at hlt
      have hw := wrap_succ hlt (by omega)
      have hkb : k < b.length := by omega
      refine ⟨hlt, W_seq_k fun K2 hK2 => W_drawr 10 Tryz.mixed (by kernel_rfl) ?_⟩
      simp [go_sem, pgsE_get, hlt, hkb, pgC_len]
      rw [List.take_of_length_le (Nat.le_of_eq (pgC_len a[k])), List.take_of_length_le (Nat.le_of_eq (pgC_len b[k]))]
      have hS := same_c a[k] b[k] (hab k hlt hkb)
      have hst : ∀ p : Pg, dropA (.agg (pgC p)) = .agg (pgC p) := fun p => rfl
      have hst2 : ∀ p : Pg, (pgC p).map dropA = pgC p := fun p => rfl
      simp only [hst2]
      refine ⟨_, hS, ?_⟩
      simp [go_sem]
      refine hK2 _ _ ?_
      by_cases he : a[k] = b[k]
      · refine W_ifs false (by simp [go_sem, he]) (fun h => by cases h) (fun _ => W_skip ?_)
        simp only [go_sem]
        refine W_reg ?_
        simp [go_sem, hw]
        refine ⟨_, ⟨rfl, fun j hj => ?_⟩, by simp [go_sem]⟩
        rcases Nat.lt_succ_iff_lt_or_eq.1 hj with hj | hj
        · exact hall j hj
        · rw [hj]; simp [hlt, hkb, he]
      · refine W_ifs true (by simp [go_sem, he]) (fun _ => W_seq (W_reg ?_)) (fun h => by cases h)
        simp [go_sem]
        refine W_ret ?_
        simp only [go_sem]
        refine ⟨trivial, _, rfl, s1, Sub.refl _, ?_, rfl⟩
        have : a ≠ b := fun e => he (by subst e; rfl)
        simp [this, go_sem]
    · simp only [go_sem]
      refine W_seq (W_reg ?_)
      simp [go_sem]
      refine W_ret ?_
      simp only [go_sem]
      refine ⟨trivial, _, rfl, s1, Sub.refl _, ?_, rfl⟩
      have : a = b := List.ext_getElem? fun j => by
        simp only [decide_eq_false_iff_not] at hge
        by_cases hj : j < k
        · exact hall j hj
        · rw [List.getElem?_eq_none (by omega), List.getElem?_eq_none (by omega)]
      simp [this, go_sem]
  · refine W_ifs true (by simp [go_sem]; omega) (fun _ => W_seq (W_reg ?_)) (fun h => by cases h)
    simp [go_sem]
    refine W_ret ?_
    simp only [go_sem]
    refine ⟨trivial, _, rfl, s, Sub.refl _, ?_, rfl⟩
    have : a ≠ b := fun e => hl (by rw [e])
    simp [this, go_sem]
/-- A space, its pages told whole. -/
structure Spc where
  pg : List Pg
  free : List Int
  fresh : List Int
  gone : List Int
  ver : Int
  tree : Int
  deriving DecidableEq
def spcC (x : Spc) : List C := [LPg x.pg, LI x.free, LI x.fresh, LI x.gone, I x.ver, I x.tree]
def Spc.sp (x : Spc) : Sp := ⟨pgsE x.pg, x.free, x.fresh, x.gone, x.ver, x.tree⟩
theorem spcC_sp (x : Spc) : spC x.sp = spcC x := rfl
set_option maxRecDepth 8000 in
theorem sameSpace_c (x y : Spc) (hab : ∀ i (hi : i < x.pg.length) (hj : i < y.pg.length), x.pg[i].ents = y.pg[i].ents ∨ x.pg[i].ents = [] ∨ y.pg[i].ents = []) : Pure Tryz.prog 17 [.agg (spcC x), .agg (spcC y)] (Bo (decide (x = y))) := by
  intro s
  refine CallC_of Tryz.func17 rfl (by rfl) Tryz.ntmps17 (by simp) ?_
  refine W_seq (W_reg ?_)
  simp [go_sem]
  refine WL_box (by simp [go_sem, spcC]) (by simp) fun b2 hb2 => WL_run _ _ _ ?_
  simp [go_sem]
  refine WL_box (by simp [go_sem, spcC]) (by simp) fun b3 hb3 => WL_run _ _ _ ?_
  simp [go_sem]
  have hn : b2 ≠ b3 := fun e => by subst e; have := hb3.1; simp [VS.look] at this
  have v2 : VS.look (St.mk ((b3, spcC y) :: (b2, spcC x) :: s.objs) s.rows s.toks s.maps).objs b2 = some (spcC x) := by simp [VS.look, Ne.symm hn]
  have v3 : VS.look (St.mk ((b3, spcC y) :: (b2, spcC x) :: s.objs) s.rows s.toks s.maps).objs b3 = some (spcC y) := by simp [VS.look]
  have hsub := Sub.trans (sub_obj hb3 (spcC y)) (sub_obj hb2 (spcC x))
  refine (fun (h : ∀ s1 : St, VS.look s1.objs b2 = some (spcC x) → VS.look s1.objs b3 = some (spcC y) → Sub s1 s → W Tryz.prog ⟨45, none⟩ _ _ s1 _) => h _ v2 v3 hsub) ?_
  clear v2 v3 hsub hb2 hb3 hn
  intro s1 v2 v3 hsub
  simp only [spcC] at v2 v3
  refine W_keep [(2, ptr b2 0), (3, ptr b3 0)] (by simp [go_sem]) ?_
  have hxy : x = y ↔ x.pg = y.pg ∧ x.free = y.free ∧ x.fresh = y.fresh ∧ x.gone = y.gone ∧ x.ver = y.ver ∧ x.tree = y.tree := by
    constructor
    · rintro rfl; simp
    · rintro ⟨h1, h2, h3, h4, h5, h6⟩
      cases x; cases y; simp_all
  refine W_seq_k fun K hK => W_reg ?_
  have key : ∀ E' t, Has E' [(4, Bo t)] → E'.ds = [] → (t = decide (x = y)) → K E' s1 := fun E' t h1 h2 ht => hK _ _ (W_keep _ h1 (by
    rw [h2]
    refine W_ret ?_
    simp only [go_sem]
    exact ⟨trivial, _, rfl, s, hsub, by simp [go_sem, ht], rfl⟩))
  simp [go_sem, v2, v3]
  refine Pure.use (samePages_c x.pg y.pg hab) ?_
  by_cases c1 : x.pg = y.pg
  · simp [go_sem, v2, v3, c1]
    refine Pure.use (sameInts_c x.free y.free) ?_
    by_cases c2 : x.free = y.free
    · simp [go_sem, v2, v3, c2]
      refine Pure.use (sameInts_c x.fresh y.fresh) ?_
      by_cases c3 : x.fresh = y.fresh
      · simp [go_sem, v2, v3, c3]
        refine Pure.use (sameInts_c x.gone y.gone) ?_
        by_cases c4 : x.gone = y.gone
        · simp [go_sem, v2, v3, c4]
          by_cases c5 : x.ver = y.ver
          · simp [go_sem, v2, v3, c5]
            refine key _ (x.tree == y.tree) (by simp [go_sem]) (by simp [go_sem]) ?_
            by_cases c6 : x.tree = y.tree
            · have := hxy.2 ⟨c1, c2, c3, c4, c5, c6⟩
              simp [this]
            · have : ¬ x = y := fun e => c6 (by rw [e])
              simp [c6, this]
          · have d : (x.ver == y.ver) = false := by simpa using c5
            have : ¬ x = y := fun e => c5 (by rw [e])
            simp [go_sem, v2, v3, d]
            exact key _ false (by simp [go_sem]) (by simp [go_sem]) (by simp [this])
        · have : ¬ x = y := fun e => c4 (by rw [e])
          simp [go_sem, v2, v3, c4]
          exact key _ false (by simp [go_sem]) (by simp [go_sem]) (by simp [this])
      · have : ¬ x = y := fun e => c3 (by rw [e])
        simp [go_sem, v2, v3, c3]
        exact key _ false (by simp [go_sem]) (by simp [go_sem]) (by simp [this])
    · have : ¬ x = y := fun e => c2 (by rw [e])
      simp [go_sem, v2, v3, c2]
      exact key _ false (by simp [go_sem]) (by simp [go_sem]) (by simp [this])
  · have : ¬ x = y := fun e => c1 (by rw [e])
    simp [go_sem, v2, v3, c1]
    exact key _ false (by simp [go_sem]) (by simp [go_sem]) (by simp [this])
end Go.Proofs.YtpmknffollpnaaaGreat
namespace Go.Proofs.YtpmknffollpnaaaGreat
open Go Go.VS
structure AcS (s s' : St) (b6 bm N : Nat) (ns : List Int) : Prop where
  sub : Sub s' s
  v6 : VS.look s'.objs b6 = some [I 0, I 0]
  row : VS.look s'.rows bm = some (1, cntE N ns)
  n6 : VS.look s.objs b6 = none
  nm : VS.look s.rows bm = none
theorem AcS.put {s s' : St} {b6 bm N : Nat} {ns ms : List Int} (h : AcS s s' b6 bm N ns) : AcS s { s' with rows := putAt s'.rows bm (1, cntE N ms) } b6 bm N ms :=
  ⟨⟨h.sub.objs, fun k x hk => by
    have hne : k ≠ bm := fun e => by subst e; rw [h.nm] at hk; cases hk
    show VS.look (putAt s'.rows bm _) k = some x
    rw [look_putAt, if_neg hne]
    exact h.sub.rows _ _ hk, h.sub.toks, h.sub.maps⟩, h.v6, by show VS.look (putAt s'.rows bm _) bm = _; rw [look_putAt, if_pos rfl, h.row]; rfl, h.n6, h.nm⟩
theorem odd1_none (ns : List Int) : ∀ (f n : Nat), (∀ k, n ≤ k → k < n + f → ns.count (k : Int) = 1) → odd1 ns f n = none
  | 0, _, _ => rfl
  | f + 1, n, h => by
    unfold odd1
    rw [if_pos (h n (Nat.le_refl _) (by omega))]
    exact odd1_none ns f (n + 1) fun k h1 h2 => h k (by omega) (by omega)
theorem odd1_some (ns : List Int) : ∀ (f n m : Nat), n ≤ m → m < n + f → (∀ k, n ≤ k → k < m → ns.count (k : Int) = 1) → ns.count (m : Int) ≠ 1 → odd1 ns f n = some m
  | 0, n, m, h1, h2, _, _ => by omega
  | f + 1, n, m, h1, h2, h, hm => by
    unfold odd1
    by_cases e : m = n
    · subst e; rw [if_neg hm]
    · rw [if_pos (h n (Nat.le_refl _) (by omega))]
      exact odd1_some ns f (n + 1) m (by omega) (by omega) (fun k h1 h2 => h k (by omega) h2) hm
set_option maxRecDepth 8000 in
theorem refAccount_c (n : Nat) (pages : Int) (used : List Int) (l : List Fr) (hs : Sz n l) (hn : n ≤ 10000000) (hu : used.length ≤ 10000000) (ht : (nums l).length ≤ 10000000) :
    Pure Tryz.prog 23 [I pages, LI used, LF l] (.agg [I (accP pages used l).2, I (accP pages used l).1]) := by
  intro s
  refine CallC_of Tryz.func23 rfl (by rfl) Tryz.ntmps23 (by simp) ?_
  refine W_seq (W_reg ?_)
  simp [go_sem]
  refine WL_alloc tzero_45 (by simp) fun b6 hb6 => WL_run _ _ _ ?_
  simp [go_sem]
  have hA : accP pages used l = if checkE l pages = 0 then (if incr used pages then (match odd1 (used ++ nums l) (pages.toNat - 2) 2 with | some n => (9, (n : Int)) | none => (0, 0)) else (1, 0)) else (checkE l pages, 0) := rfl
  have hC : checkE l pages = if (decide (2 ≤ pages) && decide (pages ≤ 4096)) then (if validB l pages then 0 else 2) else 1 := rfl
  refine W_seq (W_seq (W_reg ?_))
  simp [go_sem]
  refine Pure.use (size_c _) ?_
  cases hsz : (decide (2 ≤ pages) && decide (pages ≤ 4096))
  · simp [go_sem]
    refine W_ifs true (by simp [go_sem]) (fun _ => W_seq (W_reg ?_)) (fun h => by cases h)
    simp [go_sem, VS.look]
    refine W_ret ?_
    simp only [go_sem]
    refine ⟨trivial, _, by simp [go_sem, VS.look]; rfl, s, sub_obj hb6 _, ?_, rfl⟩
    rw [hsz] at hC
    rw [hA, hC]
    simp [go_sem]
  have hp : 2 ≤ pages ∧ pages ≤ 4096 := by simpa using hsz
  obtain ⟨N, rfl⟩ : ∃ N : Nat, pages = (N : Int) := ⟨pages.toNat, by omega⟩
  rw [hsz] at hC
  simp only [if_true] at hC
  have hV : validB l N = isB l N := by rw [validB_isB, hsz, Bool.true_and]
  rw [hV] at hC
  simp [go_sem]
  refine W_ifs false (by simp [go_sem]) (fun h => by cases h) (fun _ => W_skip ?_)
  simp only [go_sem]
  refine W_seq (W_seq (W_reg ?_))
  simp [go_sem]
  refine Pure.use (is_c n N l hs (by omega) (by omega)) ?_
  cases hB : isB l N
  · simp [go_sem]
    refine W_ifs true (by simp [go_sem]) (fun _ => W_seq (W_reg ?_)) (fun h => by cases h)
    simp [go_sem, VS.look]
    refine W_ret ?_
    simp only [go_sem]
    refine ⟨trivial, _, by simp [go_sem, VS.look]; rfl, s, sub_obj hb6 _, ?_, rfl⟩
    rw [hB] at hC
    rw [hA, hC]
    simp [go_sem]
  have hgood := (isB_iff _ _).1 hB
  rw [hB] at hC
  simp only [if_true] at hC
  rw [hC] at hA
  simp only [if_true, Int.toNat_natCast] at hA
  simp [go_sem]
  refine W_ifs false (by simp [go_sem]) (fun h => by cases h) (fun _ => W_skip ?_)
  simp only [go_sem]
  refine W_seq (W_seq (W_reg ?_))
  simp [go_sem]
  refine Pure.use (once_c used N) ?_
  cases hi : incr used N
  · simp [go_sem]
    refine W_ifs true (by simp [go_sem]) (fun _ => W_seq (W_reg ?_)) (fun h => by cases h)
    simp [go_sem, VS.look]
    refine W_ret ?_
    simp only [go_sem]
    refine ⟨trivial, _, by simp [go_sem, VS.look]; rfl, s, sub_obj hb6 _, ?_, rfl⟩
    rw [hi] at hA
    rw [hA]
    simp [go_sem]
  have hinc := (incr_iff _ _).1 hi
  rw [hi] at hA
  simp only [if_true] at hA
  simp [go_sem]
  refine W_ifs false (by simp [go_sem]) (fun h => by cases h) (fun _ => W_skip ?_)
  simp only [go_sem]
  refine W_keep [(0, I N), (1, LI used), (2, LF l), (6, ptr b6 0)] (by simp [go_sem]) ?_
  refine W_seq (W_reg ?_)
  simp [go_sem]
  refine WL_makeSlice (n := N) (k := .i64) (zs := [I 0]) (by simp [go_sem]) (by simp [go_sem]) tel_23 tzero_3 (by simp [go_sem]) (by simp [go_sem]) (by simp [go_sem]; omega) (by unfold maxLen; omega) (by simp) fun bm hb1 hb2 => WL_run _ _ _ ?_
  have hS : AcS s (St.mk ((b6, [I 0, I 0]) :: s.objs) ((bm, (1, List.replicate N [I 0])) :: s.rows) s.toks s.maps) b6 bm N [] :=
    ⟨⟨(sub_obj hb6 _).objs, fun k x hk => lookCons hb1 hk, fun _ _ h => h, fun _ _ h => h⟩, by simp [VS.look], by simp [VS.look, cntE_nil], hb6.1, hb1⟩
  simp [go_sem]
  refine (fun (h : ∀ s1 : St, AcS s s1 b6 bm N [] → W Tryz.prog ⟨85, none⟩ _ _ s1 _) => h _ hS) ?_
  clear hS hb1 hb2 hb6
  intro s1 hS
  refine W_keep [(0, I N), (1, LI used), (2, LF l), (6, ptr b6 0), (7, .rs bm N)] (by simp [go_sem]) ?_
  refine W_seq_k fun K hK => W_seq (W_reg ?_)
  simp [go_sem]
  refine W_for used.length (fun k L s' => L = [(0, I N), (1, LI used), (2, LF l), (6, ptr b6 0), (7, .rs bm N), (8, I k)] ∧ AcS s s' b6 bm N (used.take k)) (l0 := [(0, I N), (1, LI used), (2, LF l), (6, ptr b6 0), (7, .rs bm N), (8, I 0)]) (ds := []) ⟨rfl, hS⟩ (by simp [go_sem]) rfl ?_
  clear hS
  rintro k _ s2 hk ⟨rfl, hS⟩ K2 hK2
  refine W_reg ?_
  simp [go_sem, intsE_length]
  refine hK2 _ _ (decide (k < used.length)) [(0, I N), (1, LI used), (2, LF l), (6, ptr b6 0), (7, .rs bm N), (8, I k)] (by simp [go_sem]) (by simp [go_sem]) (by simp [go_sem]) (fun hlt => ?_) (fun hge => ?_)
  · simp only [decide_eq_true_eq] at hlt
    have hw := wrap_succ hlt (by omega)
    have hx := hinc.2 _ (List.getElem_mem hlt)
    have hx0 : 0 ≤ used[k] := by omega
    have hx1 : used[k] < (N : Int) := by omega
    have hx2 : used[k].toNat < N := by omega
    have htn : ((used[k].toNat : Nat) : Int) = used[k] := Int.toNat_of_nonneg hx0
    have hget := cntE_get N (used.take k) _ hx2
    rw [htn] at hget
    have hset := cntE_set N (used.take k) used[k] hx0 hx1
    have hcl : (used.take k).count used[k] ≤ used.length := Nat.le_trans (List.count_le_length ..) (by simp; omega)
    have hw2 : IntKind.i64.wrap (((used.take k).count used[k] : Nat) + 1 : Int) = ((used.take k).count used[k] : Nat) + 1 := wrap_in (by omega) (by omega)
    rw [← List.take_succ_eq_append_getElem hlt] at hset
    refine ⟨hlt, W_reg ?_⟩
    simp [go_sem, intsE_get, hlt, hx0, hx1, hS.row, hget, hw2]
    refine W_reg ?_
    simp [go_sem, hw]
    rw [hset]
    exact ⟨_, ⟨rfl, hS.put⟩, by simp [go_sem]⟩
  simp only [decide_eq_false_iff_not] at hge
  rw [List.take_of_length_le (by omega)] at hS
  simp only [go_sem]
  refine hK _ _ ?_
  clear hK hK2
  refine W_keep [(0, I N), (2, LF l), (6, ptr b6 0), (7, .rs bm N)] (by simp [go_sem]) ?_
  refine W_seq_k fun K hK => W_seq (W_reg ?_)
  simp [go_sem]
  refine W_for l.length (fun k L s' => L = [(0, I N), (2, LF l), (6, ptr b6 0), (7, .rs bm N), (9, I k)] ∧ AcS s s' b6 bm N (used ++ nums (l.take k))) (l0 := [(0, I N), (2, LF l), (6, ptr b6 0), (7, .rs bm N), (9, I 0)]) (ds := []) ⟨rfl, by simpa [nums_nil] using hS⟩ (by simp [go_sem]) rfl ?_
  clear hS
  rintro k _ s3 hk ⟨rfl, hS⟩ K2 hK2
  refine W_reg ?_
  simp [go_sem, frsE_length]
  refine hK2 _ _ (decide (k < l.length)) [(0, I N), (2, LF l), (6, ptr b6 0), (7, .rs bm N), (9, I k)] (by simp [go_sem]) (by simp [go_sem]) (by simp [go_sem]) (fun hlt => ?_) (fun hge => ?_)
  · simp only [decide_eq_true_eq] at hlt
    have hl2 := hs.len
    have hw := wrap_succ hlt (by omega)
    have hpl := hs.p _ (List.getElem_mem hlt)
    have hsn := nums_take_succ l k hlt
    have hnk := nums_take l k
    refine ⟨hlt, W_seq (W_reg ?_)⟩
    simp [go_sem]
    refine W_for l[k].p.length (fun j L s' => L = [(0, I N), (2, LF l), (6, ptr b6 0), (7, .rs bm N), (9, I k), (10, I j)] ∧ AcS s s' b6 bm N (used ++ nums (l.take k) ++ l[k].p.take j)) (l0 := [(0, I N), (2, LF l), (6, ptr b6 0), (7, .rs bm N), (9, I k), (10, I 0)]) (ds := []) ⟨rfl, by simpa using hS⟩ (by simp [go_sem]) rfl ?_
    clear hS
    rintro j _ s4 hj ⟨rfl, hS⟩ K4 hK4
    refine W_reg ?_
    simp [go_sem, frsE_get, hlt, frC, intsE_length]
    refine hK4 _ _ (decide (j < l[k].p.length)) [(0, I N), (2, LF l), (6, ptr b6 0), (7, .rs bm N), (9, I k), (10, I j)] (by simp [go_sem]) (by simp [go_sem]) (by simp [go_sem]) (fun hlt2 => ?_) (fun hge2 => ?_)
    · simp only [decide_eq_true_eq] at hlt2
      have hw3 := wrap_succ hlt2 (by omega)
      have hx := good_mem hgood k j hlt hlt2
      have hx0 : 0 ≤ l[k].p[j] := by omega
      have hx1 : l[k].p[j] < (N : Int) := by omega
      have hx2 : l[k].p[j].toNat < N := by omega
      have htn : ((l[k].p[j].toNat : Nat) : Int) = l[k].p[j] := Int.toNat_of_nonneg hx0
      generalize hns : used ++ nums (l.take k) ++ l[k].p.take j = ns at hS
      have hnl : ns.length ≤ 100000000 := by rw [← hns]; simp; omega
      have hget := cntE_get N ns _ hx2
      rw [htn] at hget
      have hset := cntE_set N ns l[k].p[j] hx0 hx1
      have hcl : ns.count l[k].p[j] ≤ ns.length := List.count_le_length ..
      have hw2 : IntKind.i64.wrap ((ns.count l[k].p[j] : Nat) + 1 : Int) = (ns.count l[k].p[j] : Nat) + 1 := wrap_in (by omega) (by omega)
      have hns2 : used ++ nums (l.take k) ++ l[k].p.take (j + 1) = ns ++ [l[k].p[j]] := by rw [← hns, List.take_succ_eq_append_getElem hlt2, List.append_assoc (used ++ nums (l.take k))]
      rw [← hns2] at hset
      refine ⟨hlt2, W_reg ?_⟩
      simp [go_sem, frsE_get, hlt, frC, intsE_get, hlt2, hx0, hx1, hS.row, hget, hw2]
      refine W_reg ?_
      simp [go_sem, hw3]
      rw [hset]
      exact ⟨_, ⟨rfl, by simpa using hS.put (ms := used ++ nums (l.take k) ++ l[k].p.take (j + 1))⟩, by simp [go_sem]⟩
    · simp only [decide_eq_false_iff_not] at hge2
      have hj' : l[k].p.take j = l[k].p := List.take_of_length_le (by omega)
      rw [hj', List.append_assoc, ← hsn] at hS
      simp only [go_sem]
      refine W_reg ?_
      simp [go_sem, hw]
      exact ⟨_, ⟨rfl, hS⟩, by simp [go_sem]⟩
  simp only [decide_eq_false_iff_not] at hge
  rw [List.take_of_length_le (by omega)] at hS
  generalize used ++ nums l = ns at hS hA
  simp only [go_sem]
  refine hK _ _ ?_
  clear hK hK2
  refine W_keep [(0, I N), (6, ptr b6 0), (7, .rs bm N)] (by simp [go_sem]) ?_
  refine W_seq_k fun K hK => W_seq (W_reg ?_)
  simp [go_sem]
  refine W_for (N - 2) (fun k L s' => L = [(0, I N), (6, ptr b6 0), (7, .rs bm N), (11, I ((k + 2 : Nat) : Int))] ∧ s' = s3 ∧ ∀ j, 2 ≤ j → j < k + 2 → ns.count (j : Int) = 1) (l0 := [(0, I N), (6, ptr b6 0), (7, .rs bm N), (11, I 2)]) (ds := []) ⟨rfl, rfl, fun j h1 h2 => by omega⟩ (by simp [go_sem]) rfl ?_
  rintro k _ s4 hk ⟨rfl, rfl, hall⟩ K2 hK2
  have hkN : ((k + 2 : Nat) : Int) < (N : Int) ↔ k < N - 2 := by omega
  have hw : k < N - 2 → IntKind.i64.wrap (((k + 2 : Nat) : Int) + 1) = ((k + 1 + 2 : Nat) : Int) := fun h => by rw [wrap_in (by omega) (by omega)]; omega
  have hk0 : 0 ≤ ((k + 2 : Nat) : Int) := by omega
  have hkt : (((k + 2 : Nat) : Int)).toNat = k + 2 := by omega
  have hget : k + 2 < N → (cntE N ns)[k + 2]? = some [I (ns.count ((k + 2 : Nat) : Int) : Nat)] := cntE_get N ns (k + 2)
  generalize hX : ((k + 2 : Nat) : Int) = X at hkN hw hk0 hkt hget
  refine W_reg ?_
  simp [go_sem]
  refine hK2 _ _ (decide (X < (N : Int))) [(0, I N), (6, ptr b6 0), (7, .rs bm N), (11, I X)] (by simp [go_sem]) (by simp [go_sem]) (by simp [go_sem]) (fun hlt => ?_) (fun hge => ?_)
  · simp only [decide_eq_true_eq] at hlt
    have hkl := hkN.1 hlt
    refine ⟨hkl, W_seq (W_reg ?_)⟩
    simp [go_sem, hk0, hlt, hS.row, hkt, hget (by omega)]
    by_cases hc : ns.count X = 1
    · refine W_ifs false (by simp [go_sem, hc]) (fun h => by cases h) (fun _ => W_skip ?_)
      simp only [go_sem]
      refine W_reg ?_
      simp [go_sem, hw hkl]
      refine ⟨_, ⟨rfl, fun j h1 h2 => ?_⟩, by simp [go_sem]⟩
      by_cases e : j = k + 2
      · subst e; rw [hX]; exact hc
      · exact hall j h1 (by omega)
    · have hc' : ((ns.count X : Nat) : Int) ≠ 1 := by omega
      have hb : (((ns.count X : Nat) : Int) == 1) = false := by simpa using hc'
      refine W_ifs true (by simp [go_sem, bne, hb]) (fun _ => W_seq (W_reg ?_)) (fun h => by cases h)
      simp [go_sem, hS.v6]
      refine W_ret ?_
      simp only [go_sem]
      refine ⟨trivial, .agg [I X, I 9], by simp [go_sem, look_putAt, hS.v6], s, sub_put hS.sub hS.n6 _, ?_, rfl⟩
      rw [hA, odd1_some ns (N - 2) 2 (k + 2) (by omega) (by omega) hall (by rw [hX]; exact hc)]
      simp [go_sem, ← hX]
  · simp only [decide_eq_false_iff_not] at hge
    simp only [go_sem]
    refine hK _ _ ?_
    refine W_seq (W_reg ?_)
    simp [go_sem, hS.v6]
    refine W_ret ?_
    simp only [go_sem]
    refine ⟨trivial, .agg [I 0, I 0], by simp [go_sem, look_putAt, hS.v6], s, sub_put hS.sub hS.n6 _, ?_, rfl⟩
    rw [hA, odd1_none ns (N - 2) 2 fun j h1 h2 => hall j h1 (by omega)]
    simp [go_sem]
end Go.Proofs.YtpmknffollpnaaaGreat
namespace Go.Proofs.YtpmknffollpnaaaGreat
open Go Go.VS
def okFl (l : List Fr) : Prop := l.length ≤ 281474976710656 ∧ ∀ f ∈ l, f.p.length ≤ 281474976710656
def smallPg (p : Pg) : Bool := !(decide (p.ents.length > 20) || decide (p.data.size > 600) || decide (p.fr.length > 100) || !shortL p.fr)
def smallB (x : Spc) : Bool := !(decide (x.pg.length > 400) || decide (x.free.length > 400) || decide (x.fresh.length > 400) || decide (x.gone.length > 400)) && x.pg.all smallPg
set_option maxRecDepth 8000 in
theorem small_c (x : Spc) (hx : ∀ p ∈ x.pg, okFl p.fr) : Pure Tryz.prog 13 [.agg (spcC x)] (Bo (smallB x)) := by
  intro s
  refine CallC_of Tryz.func13 rfl (by rfl) Tryz.ntmps13 (by simp) ?_
  refine W_seq (W_reg ?_)
  simp [go_sem]
  refine WL_box (by simp [go_sem, spcC]) (by simp) fun b1 hb1 => WL_run _ _ _ ?_
  simp [go_sem]
  refine (fun (h : ∀ s1 : St, VS.look s1.objs b1 = some (spcC x) → Sub s1 s → W Tryz.prog ⟨62, none⟩ _ _ s1 _) => h _ (by simp [VS.look]) (sub_obj hb1 _)) ?_
  clear hb1
  intro s1 v1 hsub
  simp only [spcC] at v1
  refine W_keep [(1, ptr b1 0)] (by simp [go_sem]) ?_
  refine W_seq (W_seq_k fun K hK => W_reg ?_)
  have key : ∀ E' t, Has E' [(26, Bo t), (1, ptr b1 0)] → E'.ds = [] → t = (decide (x.pg.length > 400) || decide (x.free.length > 400) || decide (x.fresh.length > 400) || decide (x.gone.length > 400)) → K E' s1 := fun E' t h1 h2 ht => hK _ _ (W_keep _ h1 (by
    rw [h2]
    clear hK
    refine W_ifs t (by simp [go_sem]) (fun h => W_seq (W_reg ?_)) (fun h => W_skip ?_)
    · simp [go_sem]
      refine W_ret ?_
      simp only [go_sem]
      refine ⟨trivial, _, rfl, s, hsub, ?_, rfl⟩
      have : smallB x = false := by unfold smallB; rw [← ht, h]; rfl
      rw [this]
      simp [go_sem]
    · simp only [go_sem]
      have hB : smallB x = x.pg.all smallPg := by unfold smallB; rw [← ht, h]; rfl
      have hpl : x.pg.length ≤ 400 := by
        rw [h] at ht
        have ht' := ht.symm
        simp only [Bool.or_eq_false_iff, decide_eq_false_iff_not] at ht'
        omega
      refine W_keep [(1, ptr b1 0)] (by simp [go_sem]) ?_
      refine W_seq (W_seq (W_reg ?_))
      simp [go_sem]
      refine W_for x.pg.length (fun k L s' => L = [(1, ptr b1 0), (3, I k)] ∧ Sub s' s ∧ VS.look s'.objs b1 = some [LPg x.pg, LI x.free, LI x.fresh, LI x.gone, I x.ver, I x.tree] ∧ ∀ j (hj : j < x.pg.length), j < k → smallPg x.pg[j] = true) (l0 := [(1, ptr b1 0), (3, I 0)]) (ds := []) ⟨rfl, hsub, v1, fun j _ hj => by omega⟩ (by simp [go_sem]) rfl ?_
      clear hsub v1
      rintro k _ s2 hk ⟨rfl, hsub, v1, hall⟩ K2 hK2
      refine W_reg ?_
      simp [go_sem, v1, pgsE_length]
      refine hK2 _ _ (decide (k < x.pg.length)) [(1, ptr b1 0), (3, I k)] (by simp [go_sem]) (by simp [go_sem]) (by simp [go_sem]) (fun hlt => ?_) (fun hge => ?_)
      · simp only [decide_eq_true_eq] at hlt
        have hw := wrap_succ hlt (by omega)
        have hok := hx _ (List.getElem_mem hlt)
        refine ⟨hlt, W_seq (W_reg ?_)⟩
        simp [go_sem, v1, pgsE_get, hlt]
        generalize hp : x.pg[k] = p at hok
        rw [show (pgC p).length = 10 from rfl]
        simp [go_sem]
        refine WL_alloc tzero_89 (by simp) fun b4 hb4 => WL_run _ _ _ ?_
        simp [go_sem, pgC, VS.look]
        have hs3 := Sub.trans (sub_obj hb4 (pgC p)) hsub
        refine (fun (h : ∀ s3 : St, VS.look s3.objs b1 = some [LPg x.pg, LI x.free, LI x.fresh, LI x.gone, I x.ver, I x.tree] → VS.look s3.objs b4 = some (pgC p) → Sub s3 s → W Tryz.prog ⟨62, none⟩ _ _ s3 _) => h _ (lookCons hb4.1 v1) (by simp [VS.look, pgC]) hs3) ?_
        clear hs3 hsub v1 hb4
        intro s3 v1 v4 hsub
        simp only [pgC] at v4
        refine W_keep [(1, ptr b1 0), (3, I k), (4, ptr b4 0)] (by simp [go_sem]) ?_
        refine W_seq_k fun K3 hK3 => W_reg ?_
        have key2 : ∀ E' s4 t, Has E' [(61, Bo t), (1, ptr b1 0), (3, I k)] → E'.ds = [] → Sub s4 s3 → t = !(smallPg p) → K3 E' s4 := fun E' s4 t h1 h2 hs4 ht => hK3 _ _ (W_keep _ h1 (by
          rw [h2]
          clear hK3
          refine W_ifs t (by simp [go_sem]) (fun h => W_seq (W_reg ?_)) (fun h => W_skip ?_)
          · simp [go_sem]
            refine W_ret ?_
            simp only [go_sem]
            refine ⟨trivial, _, rfl, s, Sub.trans hs4 hsub, ?_, rfl⟩
            have hf : smallPg p = false := by rw [h] at ht; simpa using ht.symm
            have : smallB x = false := by
              rw [hB, List.all_eq_false]
              exact ⟨x.pg[k], List.getElem_mem hlt, by rw [hp, hf]; simp⟩
            rw [this]
            simp [go_sem]
          · have hf : smallPg p = true := by rw [h] at ht; simpa using ht.symm
            simp only [go_sem]
            refine W_reg ?_
            simp [go_sem, hw]
            refine ⟨_, ⟨rfl, Sub.trans hs4 hsub, hs4.objs _ _ v1, fun j hj hjk => ?_⟩, by simp [go_sem]⟩
            rcases Nat.lt_succ_iff_lt_or_eq.1 hjk with h' | h'
            · exact hall j hj h'
            · subst h'; rw [hp]; exact hf))
        have hSP : smallPg p = !(decide (p.ents.length > 20) || decide (p.data.size > 600) || decide (p.fr.length > 100) || !shortL p.fr) := rfl
        by_cases c1 : 20 < p.ents.length
        · have d1 : (20 : Int) < (p.ents.length : Int) := by omega
          simp [go_sem, v4, ensE_length, d1]
          exact key2 _ s3 true (by simp [go_sem]) (by simp [go_sem]) (Sub.refl _) (by rw [hSP]; simp [c1])
        · have d1 : ¬ (20 : Int) < (p.ents.length : Int) := by omega
          by_cases c2 : 600 < p.data.size
          · have d2 : (600 : Int) < (p.data.size : Int) := by omega
            simp [go_sem, v4, ensE_length, d1, d2]
            exact key2 _ s3 true (by simp [go_sem]) (by simp [go_sem]) (Sub.refl _) (by rw [hSP]; simp [c2])
          · have d2 : ¬ (600 : Int) < (p.data.size : Int) := by omega
            by_cases c3 : 100 < p.fr.length
            · have d3 : (100 : Int) < (p.fr.length : Int) := by omega
              simp [go_sem, v4, ensE_length, frsE_length, d1, d2, d3]
              exact key2 _ s3 true (by simp [go_sem]) (by simp [go_sem]) (Sub.refl _) (by rw [hSP]; simp [c3])
            · have d3 : ¬ (100 : Int) < (p.fr.length : Int) := by omega
              simp [go_sem, v4, ensE_length, frsE_length, d1, d2, d3]
              refine WL_buildSlice tel_90 (by simp [go_sem]) (by rfl) (by rfl) (by simp [VS.partsC, go_sem]) (by simp [VS.partsC, go_sem]) (by simp [go_sem]) (by simp) (by simp) fun r9 hr9 => WL_run _ _ _ ?_
              simp [go_sem, VS.partsC]
              have hs1 := sub_tok hr9 (tsz Tryz.prog 26, 1)
              have r1 : ∀ {a : Option Nat} {es : List (List C)}, Le (.li a es) (.li none es) := .li_of (.refl (F2.refl .refl) _)
              refine (((short_c [p.fr] (by simp) (by simp; exact hok)) _).le (.cons r1 .nil)).use (fun c s8 hc => ?_) (fun _ _ h => h.elim)
              obtain ⟨rfl, hc2⟩ := hc
              simp [go_sem]
              refine key2 _ s8 (!(shortL p.fr)) (by simp [go_sem, shortB]) (by simp [go_sem]) (by rw [hc2]; exact hs1) (by rw [hSP]; simp [c1, c2, c3])
      · simp only [decide_eq_false_iff_not] at hge
        simp only [go_sem]
        refine W_seq (W_reg ?_)
        simp [go_sem]
        refine W_ret ?_
        simp only [go_sem]
        refine ⟨trivial, _, rfl, s, hsub, ?_, rfl⟩
        have : smallB x = true := by
          rw [hB, List.all_eq_true]
          intro q hq
          obtain ⟨i, hi, rfl⟩ := List.getElem_of_mem hq
          exact hall i hi (by omega)
        rw [this]
        simp [go_sem]))
  by_cases c1 : 400 < x.pg.length
  · have d1 : (400 : Int) < (x.pg.length : Int) := by omega
    simp [go_sem, v1, pgsE_length, d1]
    exact key _ true (by simp [go_sem]) (by simp [go_sem]) (by simp [c1])
  · have d1 : ¬ (400 : Int) < (x.pg.length : Int) := by omega
    by_cases c2 : 400 < x.free.length
    · have d2 : (400 : Int) < (x.free.length : Int) := by omega
      simp [go_sem, v1, pgsE_length, intsE_length, d1, d2]
      exact key _ true (by simp [go_sem]) (by simp [go_sem]) (by simp [c2])
    · have d2 : ¬ (400 : Int) < (x.free.length : Int) := by omega
      by_cases c3 : 400 < x.fresh.length
      · have d3 : (400 : Int) < (x.fresh.length : Int) := by omega
        simp [go_sem, v1, pgsE_length, intsE_length, d1, d2, d3]
        exact key _ true (by simp [go_sem]) (by simp [go_sem]) (by simp [c3])
      · have d3 : ¬ (400 : Int) < (x.fresh.length : Int) := by omega
        have e4 : decide ((400 : Int) < (x.gone.length : Int)) = decide (400 < x.gone.length) := decide_eq_decide.2 (by omega)
        simp [go_sem, v1, pgsE_length, intsE_length, d1, d2, d3]
        exact key _ (decide (400 < x.gone.length)) (by simp [go_sem, e4]) (by simp [go_sem]) (by simp [c1, c2, c3])
end Go.Proofs.YtpmknffollpnaaaGreat
namespace Go.Proofs.YtpmknffollpnaaaGreat
open Go Go.VS
/-- What the loop of End leaves. -/
structure TkOk (P0 : List (List C)) (r : List (List C) × List Fr × List Int) : Prop where
  okl : OKL r.2.1 r.1.length r.2.2
  parts : (partsP r.2.1).length ≤ r.2.2.length
  two : 2 ≤ r.1.length
  four : r.1.length ≤ 4096
  ge : P0.length ≤ r.1.length
  el : ∀ e ∈ r.1, e ∈ P0 ∨ e = zpage
theorem takeLoop_ok : ∀ (f : Nat) (P : List (List C)) (l : List Fr) (tk : List Int) (r : List (List C) × List Fr × List Int), OKL l P.length tk → 2 ≤ P.length → P.length ≤ 4096 → takeLoop f P l tk = some r → TkOk P r
  | 0, P, l, tk, r, _, _, _, h => by cases h
  | f + 1, P, l, tk, r, hok, h2, h4, h => by
    unfold takeLoop at h
    split at h
    · rename_i hp
      cases h
      exact ⟨hok, hp, h2, h4, Nat.le_refl _, fun e he => .inl he⟩
    · split at h
      · rename_i hlb
        exact takeLoop_ok f P _ _ r (hok.least hlb) h2 h4 h
      · rename_i hlb
        have hlb' : leastB l = false := by simpa using hlb
        split at h
        · rename_i hlt
          have ih := takeLoop_ok f (P ++ [zpage]) l _ r (by simpa using hok.more hlb' h2) (by simp; omega) (by simp; omega) h
          refine ⟨ih.okl, ih.parts, ih.two, ih.four, by have := ih.ge; simp at this; omega, fun e he => ?_⟩
          rcases ih.el e he with h | h
          · rcases List.mem_append.1 h with h | h
            · exact .inl h
            · exact .inr (by simpa using h)
          · exact .inr h
        · cases h
theorem tk_listPages {P0 : List (List C)} {r : List (List C) × List Fr × List Int} {ver : Int} (h : TkOk P0 r) (hv : inV ver = true) : listPagesE r.2.1 r.2.2 ver = 0 := by
  have hver : 1 ≤ ver ∧ ver ≤ 1099511627776 := by simpa [inV] using hv
  unfold listPagesE
  rw [h.okl.freed, if_pos rfl]
  have h1 : numsOk r.2.2 ver = true := by
    unfold numsOk
    have : (r.2.2.any fun n => !numB n) = false := by
      rw [List.any_eq_false]
      intro x hx
      have := h.okl.t x hx
      have h4 := h.four
      simp [numB]; omega
    rw [this]
    simp; omega
  rw [h1, if_neg (by have := h.parts; simp; omega)]
theorem mem_set {α : Type} {l : List α} {i : Nat} {x e : α} (h : e ∈ l.set i x) : e ∈ l ∨ e = x := by
  obtain ⟨j, hj, rfl⟩ := List.getElem_of_mem h
  rw [List.getElem_set]
  split
  · exact .inr rfl
  · exact .inl (List.getElem_mem _)
theorem clearAt_el : ∀ (free : List Int) (P : List (List C)) (e : List C), e ∈ clearAt P free → e ∈ P ∨ e = zpage
  | [], P, e, h => .inl h
  | x :: free, P, e, h => by
    rcases clearAt_el free (P.set x.toNat zpage) e h with h | h
    · exact mem_set h
    · exact .inr h
theorem laidAt_el (P : List (List C)) (tk : List Int) (es : List (List C)) : ∀ (k : Nat) (e : List C), e ∈ laidAt P tk es k → e ∈ P ∨ ∃ i, i < k ∧ e = es.getD i []
  | 0, e, h => .inl h
  | k + 1, e, h => by
    rw [laidAt_succ] at h
    rcases mem_set h with h | h
    · rcases laidAt_el P tk es k e h with h | ⟨i, hi, h⟩
      · exact .inl h
      · exact .inr ⟨i, by omega, h⟩
    · exact .inr ⟨k, by omega, h⟩
/-- What End makes, when it does. -/
theorem endV_ok {sp : Sp} {rest : List Fr} {shrink : Bool} {r : List (List C) × List Fr × List Int} (h : endV sp rest shrink = .ok r) : inV sp.ver = true ∧ ∃ P0, TkOk P0 r ∧ (∀ e ∈ P0, e ∈ sp.pg ∨ e = zpage) ∧
    validB (putF (putF rest (sp.ver - 1) sp.gone) 0 sp.free) sp.pg.length = true ∧ validB rest sp.pg.length = true ∧ incr sp.free sp.pg.length = true ∧ incr sp.gone sp.pg.length = true ∧
    takeLoop ((nums (if shrink then keepP (putF (putF rest (sp.ver - 1) sp.gone) 0 sp.free) (tailP (putF (putF rest (sp.ver - 1) sp.gone) 0 sp.free) sp.pg.length) else putF (putF rest (sp.ver - 1) sp.gone) 0 sp.free)).length + 1) P0
      (if shrink then keepP (putF (putF rest (sp.ver - 1) sp.gone) 0 sp.free) (tailP (putF (putF rest (sp.ver - 1) sp.gone) 0 sp.free) sp.pg.length) else putF (putF rest (sp.ver - 1) sp.gone) 0 sp.free) [] = some r ∧
    P0 = (clearAt sp.pg sp.free).take (if shrink then (tailP (putF (putF rest (sp.ver - 1) sp.gone) 0 sp.free) sp.pg.length).toNat else sp.pg.length) := by
  unfold endV at h
  split at h
  · rename_i h0
    simp only [Bool.and_eq_true, decide_eq_true_eq] at h0
    obtain ⟨hv, hn2, hn4⟩ := h0
    refine ⟨hv, ?_⟩
    split at h
    · rename_i h1
      simp only [Bool.and_eq_true] at h1
      split at h
      · rename_i h2
        have hgood : Good (putF (putF rest (sp.ver - 1) sp.gone) 0 sp.free) sp.pg.length := by
          rw [validB_isB] at h2
          simp only [Bool.and_eq_true] at h2
          exact (isB_iff _ _).1 h2.2
        have hcl := clearAt_len sp.pg sp.free
        have htr := tail_range hgood (by omega)
        generalize hl2 : putF (putF rest (sp.ver - 1) sp.gone) 0 sp.free = l2 at h h2 hgood htr ⊢
        cases shrink
        · simp only [Bool.false_eq_true, if_false] at h ⊢
          split at h
          · rename_i r' hr
            cases h
            refine ⟨clearAt sp.pg sp.free, takeLoop_ok _ _ _ _ _ (by rw [hcl]; exact hgood.okl hn4) (by omega) (by omega) hr, clearAt_el _ _, h2, h1.1, h1.2.1, h1.2.2, hr, ?_⟩
            rw [List.take_of_length_le (by omega)]
          · cases h
        · simp only [if_true] at h ⊢
          obtain ⟨tn, htn⟩ : ∃ tn : Nat, tailP l2 sp.pg.length = (tn : Int) := ⟨(tailP l2 sp.pg.length).toNat, by omega⟩
          rw [htn] at h htr ⊢
          simp only [Int.toNat_natCast] at h ⊢
          have htl : ((clearAt sp.pg sp.free).take tn).length = tn := by rw [List.length_take]; omega
          split at h
          · rename_i r' hr
            cases h
            exact ⟨(clearAt sp.pg sp.free).take tn, takeLoop_ok _ _ _ _ _ (by rw [htl]; exact keep_okl (hgood.okl hn4)) (by omega) (by omega) hr, fun e he => clearAt_el _ _ e (List.mem_of_mem_take he), h2, h1.1, h1.2.1, h1.2.2, hr, rfl⟩
          · cases h
      · cases h
    · cases h
  · cases h
/-- A page, told with less, is one. -/
def PgL (e : List C) : Prop := ∃ p : Pg, F2 Le e (pgC p)
theorem PgL_pg (p : Pg) : PgL (pgC p) := ⟨p, F2.refl .refl _⟩
theorem PgL_mk (kind no ver next : Int) {fr : C} (h : ∃ q, Le fr (LF q)) : PgL (mkPg kind no ver next fr) := by
  obtain ⟨q, hq⟩ := h
  exact ⟨⟨kind, no, ver, 0, 0, false, [], next, ⟨#[]⟩, q⟩, .cons (.refl _) (.cons (.refl _) (.cons (.refl _) (.cons (.refl _) (.cons (.refl _) (.cons (.refl _) (.cons .nil (.cons (.refl _) (.cons (.refl _) (.cons hq .nil)))))))))⟩
theorem PgL_z : PgL zpage := PgL_mk 0 0 0 0 (fr := .v (.slice none 0 0)) ⟨[], .nil⟩
theorem frP_le (ps : List (List Fr)) (i : Nat) : ∃ q, Le (frP ps i) (LF q) := by
  unfold frP
  split
  · exact ⟨_, .refl _⟩
  · exact ⟨[], .nil⟩
theorem endPg_le {x : Spc} {rest : List Fr} {shrink : Bool} {r : List (List C) × List Fr × List Int} (h : endV x.sp rest shrink = .ok r) : ∀ e ∈ laidAt r.1 r.2.2 (listPagesC r.2.1 r.2.2 x.ver) r.2.2.length, PgL e := by
  obtain ⟨hv, P0, hT, hP, _⟩ := endV_ok h
  have hLE := tk_listPages (ver := x.ver) hT hv
  have hLC := lpF_C _ _ _ hLE
  have hz : ∀ e, e ∈ x.sp.pg ∨ e = zpage → PgL e := fun e he => by
    rcases he with he | rfl
    · have he' : e ∈ pgsE x.pg := he
      simp only [pgsE, List.mem_map] at he'
      obtain ⟨p, _, rfl⟩ := he'
      exact PgL_pg p
    · exact PgL_z
  intro e he
  rcases laidAt_el _ _ _ _ e he with he | ⟨i, hi, rfl⟩
  · rcases hT.el e he with he | rfl
    · exact hz e (hP e he)
    · exact PgL_z
  · rw [hLC]
    have : (rgE r.2.2.length (lpF r.2.1 r.2.2 x.ver)).getD i [] = lpF r.2.1 r.2.2 x.ver i := by
      rw [List.getD, rgE_get _ _ i hi]; rfl
    rw [this]
    exact PgL_mk _ _ _ _ (frP_le _ _)
theorem pgs_le : ∀ (P : List (List C)), (∀ e ∈ P, PgL e) → ∃ l : List Pg, F2 (F2 Le) P (pgsE l)
  | [], _ => ⟨[], F2.nil⟩
  | e :: P, h => by
    obtain ⟨p, hp⟩ := h e (by simp)
    obtain ⟨l, hl⟩ := pgs_le P fun x hx => h x (by simp [hx])
    exact ⟨p :: l, F2.cons hp hl⟩
/-- End and the reference's End, told alike. -/
theorem ends_alike (x : Spc) (rest : List Fr) (shrink : Bool) : ∃ (P : List (List C)) (ver tree list e : Int) (L : List Fr) (pg : List Pg),
    endP x.sp rest shrink = .tup [.agg [.li none P, LI [], LI [], LI [], I ver, I tree], I list, LF L, I e] ∧
    refEndC x.sp rest shrink = .agg [.li none P, LI [], LI [], LI [], I ver, I tree, LF L, I list, I e] ∧ F2 (F2 Le) P (pgsE pg) := by
  rw [endP_V]
  unfold refEndC
  rw [end_law]
  cases h : endV x.sp rest shrink with
  | ok r =>
    obtain ⟨pg, hpg⟩ := pgs_le _ (endPg_le h)
    exact ⟨_, _, _, _, _, _, pg, rfl, rfl, hpg⟩
  | error e => exact ⟨[], 0, 0, 0, e, [], [], rfl, rfl, F2.nil⟩
end Go.Proofs.YtpmknffollpnaaaGreat
namespace Go.Proofs.YtpmknffollpnaaaGreat
open Go Go.VS
theorem le_tok {a : Option Nat} {es : List (List C)} : Le (.li a es) (.li none es) := .li_of (.refl (F2.refl .refl) _)
theorem smallB_sz {x : Spc} (h : smallB x = true) : x.pg.length ≤ 400 ∧ x.free.length ≤ 400 ∧ x.fresh.length ≤ 400 ∧ x.gone.length ≤ 400 := by
  unfold smallB at h
  simp only [Bool.and_eq_true, Bool.not_eq_true', Bool.or_eq_false_iff, decide_eq_false_iff_not] at h
  omega
theorem pgE_sp (x : Spc) : PgE x.sp.pg := fun e he => by
  have he' : e ∈ pgsE x.pg := he
  simp only [pgsE, List.mem_map] at he'
  obtain ⟨p, _, rfl⟩ := he'
  exact ⟨rfl, by simp [pgC, go_sem]⟩
set_option maxRecDepth 8000 in
theorem spaceEnds_c (x : Spc) (l : List Fr) (shrink : Bool) (used : List Int) (pages : Int) (s : St) (hx : ∀ p ∈ x.pg, okFl p.fr) (hl : okFl l) (hu : used.length ≤ 281474976710656) :
    CallC Tryz.prog 3 [.agg (spcC x), LF l, Bo shrink, LI used, I pages] s (fun c s' => c = Bo true ∧ s' = s) (fun _ _ => False) := by
  refine CallC_of Tryz.func3 rfl (by rfl) Tryz.ntmps3 (by simp) ?_
  refine W_seq (W_reg ?_)
  simp [go_sem]
  refine WL_box (by simp [go_sem, spcC]) (by simp) fun b5 hb5 => WL_run _ _ _ ?_
  simp [go_sem]
  refine (fun (h : ∀ s1 : St, VS.look s1.objs b5 = some (spcC x) → Sub s1 s → W Tryz.prog ⟨131, none⟩ _ _ s1 _) => h _ (by simp [VS.look]) (sub_obj hb5 _)) ?_
  clear hb5
  intro s1 v5 hsub
  refine W_seq (W_reg ?_)
  simp [go_sem]
  refine (sane_c s1).use (fun c s2 hc => ?_) (fun _ _ h => h.elim)
  obtain ⟨rfl, hc2⟩ := hc
  subst hc2
  simp [go_sem]
  have v5' := v5
  simp only [spcC] at v5'
  refine W_keep [(1, LF l), (2, Bo shrink), (3, LI used), (4, I pages), (5, ptr b5 0), (11, Bo true)] (by simp [go_sem]) ?_
  refine W_seq (W_seq_k fun K hK => W_reg ?_)
  have key : ∀ E' s3 t, Has E' [(37, Bo t), (1, LF l), (2, Bo shrink), (3, LI used), (4, I pages), (5, ptr b5 0), (11, Bo true)] → E'.ds = [] → Sub s3 s2 → (t = false → smallB x = true ∧ shortL l = true ∧ used.length ≤ 400) → K E' s3 := fun E' s3 t h1 h2 hs3 ht => hK _ _ (W_keep _ h1 (by
    rw [h2]
    clear hK
    refine W_ifs t (by simp [go_sem]) (fun h => W_seq (W_reg ?_)) (fun h => W_skip ?_)
    · simp [go_sem]
      refine W_ret ?_
      simp only [go_sem]
      exact ⟨trivial, _, rfl, s, Sub.trans hs3 hsub, by simp [go_sem], rfl⟩
    · obtain ⟨hsm, hsh, hul⟩ := ht h
      obtain ⟨p1, p2, p3, p4⟩ := smallB_sz hsm
      obtain ⟨hsz, hsum⟩ := shortL_sz hsh
      have hnl := nums_sum l
      have v5 := hs3.objs _ _ v5
      have v5' := hs3.objs _ _ v5'
      have hsub := Sub.trans hs3 hsub
      clear hs3 h1
      simp only [go_sem]
      refine W_keep [(1, LF l), (2, Bo shrink), (3, LI used), (4, I pages), (5, ptr b5 0), (11, Bo true)] (by simp [go_sem]) ?_
      have hpgl : x.sp.pg.length = x.pg.length := by show (pgsE x.pg).length = _; rw [pgsE_length]
      have hE := end_c 900 400 x.sp l shrink hsz p2 p4 (by omega) (by omega) (pgE_sp x) (by omega) (by omega)
      have hR := refEnd_c 900 400 x.sp l shrink hsz p2 p4 (by omega) (by omega) (pgE_sp x) (by omega) (by omega)
      obtain ⟨P, ver, tree, list, e, L, pg, h1, h2', hpg⟩ := ends_alike x l shrink
      rw [h1, spcC_sp] at hE
      rw [h2', spcC_sp] at hR
      clear h1 h2'
      refine W_seq (W_reg ?_)
      simp [go_sem, v5']
      refine Pure.use hE ?_
      simp [go_sem]
      refine WL_alloc tzero_25 (by simp) fun b12 hb12 => WL_run _ _ _ ?_
      simp [go_sem]
      have hs4 := Sub.trans (sub_obj hb12 [.li none P, LI [], LI [], LI [], I ver, I tree]) hsub
      refine (fun (h : ∀ s4 : St, VS.look s4.objs b5 = some [LPg x.pg, LI x.free, LI x.fresh, LI x.gone, I x.ver, I x.tree] → VS.look s4.objs b12 = some [.li none P, LI [], LI [], LI [], I ver, I tree] → Sub s4 s → W Tryz.prog ⟨131, none⟩ _ _ s4 _) => h _ (lookCons hb12.1 v5') (by simp [VS.look]) hs4) ?_
      clear hs4 hsub v5 v5' hb12
      intro s4 v5 v12 hsub
      refine W_keep [(1, LF l), (2, Bo shrink), (3, LI used), (4, I pages), (5, ptr b5 0), (11, Bo true), (12, ptr b12 0), (13, I list), (14, LF L), (15, I e)] (by simp [go_sem]) ?_
      refine W_seq (W_reg ?_)
      simp [go_sem, v5]
      refine Pure.use hR ?_
      simp [go_sem]
      refine WL_alloc tzero_34 (by simp) fun b16 hb16 => WL_run _ _ _ ?_
      simp [go_sem]
      have hs5 := Sub.trans (sub_obj hb16 [.li none P, LI [], LI [], LI [], I ver, I tree, LF L, I list, I e]) hsub
      refine (fun (h : ∀ s5 : St, VS.look s5.objs b12 = some [.li none P, LI [], LI [], LI [], I ver, I tree] → VS.look s5.objs b16 = some [.li none P, LI [], LI [], LI [], I ver, I tree, LF L, I list, I e] → Sub s5 s → W Tryz.prog ⟨131, none⟩ _ _ s5 _) => h _ (lookCons hb16.1 v12) (by simp [VS.look]) hs5) ?_
      clear hs5 hsub v5 v12 hb16
      intro s5 v12 v16 hsub
      refine W_keep [(1, LF l), (3, LI used), (4, I pages), (11, Bo true), (12, ptr b12 0), (13, I list), (14, LF L), (15, I e), (16, ptr b16 0)] (by simp [go_sem]) ?_
      refine W_seq (W_seq (W_reg ?_))
      simp [go_sem, v12, v16]
      have hLe : F2 Le [.li none P, LI [], LI [], LI [], I ver, I tree] (spcC ⟨pg, [], [], [], ver, tree⟩) := .cons (.li_of hpg) (F2.refl .refl _)
      refine ((sameSpace_c ⟨pg, [], [], [], ver, tree⟩ ⟨pg, [], [], [], ver, tree⟩ (fun i hi hj => .inl rfl) s5).le (.cons (.agg_of hLe) (.cons (.agg_of hLe) .nil))).use (fun c s6 hc => ?_) (fun _ _ h => h.elim)
      obtain ⟨rfl, hc2⟩ := hc
      subst hc2
      simp [go_sem, v16]
      refine Pure.use (sameFreed_c L L) ?_
      simp [go_sem, v16]
      refine W_ifs false (by simp [go_sem]) (fun h => by cases h) (fun _ => W_skip ?_)
      simp only [go_sem]
      refine W_keep [(1, LF l), (3, LI used), (4, I pages), (11, Bo true)] (by simp [go_sem]) ?_
      clear v12 v16 hLe hpg
      refine W_seq (W_reg ?_)
      simp [go_sem]
      refine Pure.use (Tail_a 900 l pages hsz (by omega)) ?_
      simp [go_sem]
      refine W_keep [(1, LF l), (3, LI used), (4, I pages), (11, Bo true), (17, I (if checkE l pages = 0 then tailP l pages else 0)), (18, I (checkE l pages))] (by simp [go_sem]) ?_
      refine W_seq (W_reg ?_)
      simp [go_sem]
      refine Pure.use (refCheck_c 900 l pages hsz (by omega)) ?_
      simp [go_sem]
      refine W_keep [(1, LF l), (3, LI used), (4, I pages), (11, Bo true), (17, I (if checkE l pages = 0 then tailP l pages else 0)), (18, I (checkE l pages)), (19, I (checkE l pages))] (by simp [go_sem]) ?_
      refine W_seq (W_seq_k fun K hK => W_reg ?_)
      have key2 : ∀ E', Has E' [(106, Bo false), (1, LF l), (3, LI used), (4, I pages), (11, Bo true)] → E'.ds = [] → K E' s6 := fun E' h1 h2 => hK _ _ (W_keep _ h1 (by
        rw [h2]
        clear hK
        refine W_ifs false (by simp [go_sem]) (fun h => by cases h) (fun _ => W_skip ?_)
        simp only [go_sem]
        refine W_keep [(1, LF l), (3, LI used), (4, I pages), (11, Bo true)] (by simp [go_sem]) ?_
        refine W_seq (W_reg ?_)
        simp [go_sem]
        refine Pure.use (account_a 900 pages used l hsz (by omega) (by omega) (by omega)) ?_
        simp [go_sem]
        generalize hA1 : (accP pages used l).1 = a1
        generalize hA2 : (accP pages used l).2 = a2
        refine W_keep [(1, LF l), (3, LI used), (4, I pages), (11, Bo true), (20, I a1), (21, I a2)] (by simp [go_sem]) ?_
        have hRA := refAccount_c 900 pages used l hsz (by omega) (by omega) (by omega)
        rw [hA1, hA2] at hRA
        refine W_seq (W_reg ?_)
        simp [go_sem]
        refine Pure.use hRA ?_
        simp [go_sem]
        refine WL_alloc tzero_45 (by simp) fun b22 hb22 => WL_run _ _ _ ?_
        simp [go_sem]
        have hs7 := Sub.trans (sub_obj hb22 [I a2, I a1]) hsub
        refine (fun (h : ∀ s7 : St, VS.look s7.objs b22 = some [I a2, I a1] → Sub s7 s → W Tryz.prog ⟨131, none⟩ _ _ s7 _) => h _ (by simp [VS.look]) hs7) ?_
        clear hs7 hsub hb22
        intro s7 v22 hsub
        refine W_seq (W_reg ?_)
        simp [go_sem, v22]
        refine W_ret ?_
        simp only [go_sem]
        exact ⟨trivial, _, rfl, s, hsub, by simp [go_sem], rfl⟩))
      by_cases hC : checkE l pages = 0
      · have hval : 2 ≤ pages ∧ pages ≤ 4096 ∧ Good l pages := by
          unfold checkE at hC
          split at hC
          · rename_i h1
            simp at h1
            split at hC
            · rename_i h2
              rw [validB_isB] at h2
              simp only [Bool.and_eq_true] at h2
              exact ⟨h1.1, h1.2, (isB_iff _ _).1 h2.2⟩
            · cases hC
          · cases hC
        obtain ⟨N, rfl⟩ : ∃ N : Nat, pages = (N : Int) := ⟨pages.toNat, by omega⟩
        have htl := tail_law hval.2.2 (by omega)
        rw [hC]
        simp [go_sem]
        refine Pure.use (refTail_c l N (by omega) (by omega)) ?_
        rw [htl]
        simp [go_sem]
        exact key2 _ (by simp [go_sem]) (by simp [go_sem])
      · have hC' : (checkE l pages == 0) = false := by simpa using hC
        simp [go_sem, hC, hC', bne]
        exact key2 _ (by simp [go_sem, hC]) (by simp [go_sem])))
  simp [go_sem, v5']
  refine Pure.use (small_c x hx) ?_
  cases hsm : smallB x
  · simp [go_sem]
    exact key _ s2 true (by simp [go_sem]) (by simp [go_sem]) (Sub.refl _) (fun h => by cases h)
  · simp [go_sem]
    refine WL_buildSlice tel_90 (by simp [go_sem]) (by rfl) (by rfl) (by simp [VS.partsC, go_sem]) (by simp [VS.partsC, go_sem]) (by simp [go_sem]) (by simp) (by simp) fun r9 hr9 => WL_run _ _ _ ?_
    simp [go_sem, VS.partsC]
    have hs1 := sub_tok hr9 (tsz Tryz.prog 26, 1)
    refine (((short_c [l] (by simp) (by simp; exact hl)) _).le (.cons le_tok .nil)).use (fun c s8 hc => ?_) (fun _ _ h => h.elim)
    obtain ⟨rfl, hc2⟩ := hc
    have hsB : shortB [l] = shortL l := by simp [shortB]
    rw [hsB]
    have hs8 : Sub s8 s2 := by rw [hc2]; exact hs1
    cases hsh : shortL l
    · simp [go_sem]
      exact key _ s8 true (by simp [go_sem]) (by simp [go_sem]) hs8 (fun h => by cases h)
    · have e4 : decide ((400 : Int) < (used.length : Int)) = decide (400 < used.length) := decide_eq_decide.2 (by omega)
      simp [go_sem, intsE_length]
      exact key _ s8 (decide (400 < used.length)) (by simp [go_sem, e4]) (by simp [go_sem]) hs8 (fun h => ⟨hsm, hsh, by simpa using h⟩)
end Go.Proofs.YtpmknffollpnaaaGreat
namespace Go.VS
open Go
section
variable {H : Type} {enc : TypeId × Value → H} {P : Program} {w : World} {base : Nat} {sp : Nat → Bool} {hd : Bool}
/-- Fields from an offset on. -/
def RdFs (enc : TypeId × Value → H) (P : Program) (w : World) (base : Nat) (sp : Nat → Bool) (hd : Bool) (o tot : Nat) (fs : List (TypeId × Nat)) {α : Type} (f : α → List C) (p : α → Prop) : Prop :=
  ∀ (n : Nat) (cs : List Value) (xs : List (DataW H × List MemPlace)), xs.length = fs.length → o + tot ≤ cs.length → (∀ (i : Nat) (tf : TypeId × Nat), fs[i]? = some tf → DataW.trod enc P w base sp hd n tf.1 ((cs.drop tf.2).take (P.cellsOf tf.1)) = xs[i]?) →
    (∀ n ∈ DataW.weightsEach P (fs.map (·.1)) (xs.map (·.1)), n ≤ reachBytes) → ∃ q : α, (f q).length = tot ∧ (∀ j (hj : j < (f q).length) (hj' : o + j < cs.length), R w st0 gh0 (f q)[j] cs[o + j] ∧ cs[o + j].oneCell' = true) ∧ p q
theorem RdFs_nil (o : Nat) : RdFs enc P w base sp hd o 0 [] (fun _ : Unit => []) (fun _ => True) := fun n cs xs _ _ _ _ => ⟨(), rfl, fun j hj => absurd hj (by simp), trivial⟩
theorem RdFs_cons {o z tot : Nat} {t : TypeId} {fs : List (TypeId × Nat)} {α β : Type} {g : α → List C} {f : β → List C} {p0 : α → Prop} {p : β → Prop} (hz : P.cellsOf t = z) (h0 : Rd enc P w base sp hd t g p0) (hr : RdFs enc P w base sp hd (o + z) tot fs f p) :
    RdFs enc P w base sp hd o (z + tot) ((t, o) :: fs) (fun q : α × β => g q.1 ++ f q.2) (fun q => p0 q.1 ∧ p q.2) := fun n cs xs hl hlen ht hw => by
  cases xs with
  | nil => simp at hl
  | cons x xs =>
    have hx := ht 0 (t, o) rfl
    simp only [List.getElem?_cons_zero] at hx
    rw [hz] at hx
    simp only [List.map_cons, DataW.weightsEach] at hw
    obtain ⟨q0, a1, a2, a3⟩ := h0 _ _ _ hx (fun n hn => hw n (List.mem_append_left _ hn))
    obtain ⟨q1, b1, b2, b3⟩ := hr n cs xs (by simpa using hl) (by omega) (fun i tf hi => ht (i + 1) tf (by simpa using hi)) (fun n hn => hw n (List.mem_append_right _ hn))
    have l0 : (List.take z (List.drop o cs)).length = z := by simp; omega
    rw [l0] at a1
    refine ⟨(q0, q1), by simp; omega, fun j hj hj' => ?_, a3, b3⟩
    by_cases hjz : j < z
    · have hj0 : j < (g q0).length := by omega
      have hg : (g q0 ++ f q1)[j]'hj = (g q0)[j] := List.getElem_append_left hj0
      have hc : (List.take z (List.drop o cs))[j]'(by omega) = cs[o + j] := by simp
      show R w st0 gh0 ((g q0 ++ f q1)[j]'hj) _ ∧ _
      rw [hg, ← hc]
      exact a2 j hj0 (by omega)
    · have hj1 : j - z < (f q1).length := by
        have : j < (g q0 ++ f q1).length := hj
        simp at this
        omega
      have hg : (g q0 ++ f q1)[j]'hj = (f q1)[j - z] := by
        rw [List.getElem_append_right (by omega)]
        congr 1
        omega
      have hc : cs[o + z + (j - z)]'(by omega) = cs[o + j] := by
        congr 1
        omega
      show R w st0 gh0 ((g q0 ++ f q1)[j]'hj) _ ∧ _
      rw [hg, ← hc]
      exact b2 (j - z) hj1 (by omega)
theorem Rd_struct {t : TypeId} {fs : Array Field} {l : List (TypeId × Nat)} {α : Type} {f : α → List C} {p : α → Prop} {tot : Nat} (ht : P.underlying t = some (.struct fs)) (hl : fs.toList.map (fun f => (f.type, f.offset)) = l) (hz : P.cellsOf t = tot) (h : RdFs enc P w base sp hd 0 tot l f p) : Rd enc P w base sp hd t f p := fun fuel cs x hx hwt => by
  obtain ⟨xs, n, _, rfl, hc, hlen, hf⟩ := DataW.trod_struct ht hx
  subst hl
  have hw : DataW.weights P t (.agg (xs.map (·.1)) : DataW H) = DataW.weightsEach P (fs.toList.map (·.type)) (xs.map (·.1)) := by
    simp [DataW.weights, ht]
  obtain ⟨q, h1, h2, h3⟩ := h n cs xs (by simpa using hlen) (by omega) (fun i tf hi => by
    simp only [List.getElem?_map, Option.map_eq_some_iff] at hi
    obtain ⟨fd, hfd, rfl⟩ := hi
    exact hf i fd (by simpa using hfd)) (fun n hn => hwt n (by
      show n ∈ DataW.weights P t (.agg (xs.map (·.1)) : DataW H)
      rw [hw]
      simpa [List.map_map, Function.comp_def] using hn))
  refine ⟨q, by omega, fun j hj hj' => ?_, h3⟩
  have := h2 j hj (by omega)
  simpa using this
/-- An array of integers. -/
theorem Rd_ints {t e : TypeId} {n : Nat} {k : IntKind} (ht : P.underlying t = some (.array n e)) (he : P.underlying e = some (.int k)) (hz : P.cellsOf e = 1) (hzt : P.cellsOf t = n) : Rd enc P w base sp hd t (fun l : List Int => (l.map (.int k)).map .v) (fun l => l.length = n) := fun fuel cs x hx hwt => by
  obtain ⟨xs, m, _, rfl, hc, hlen, hf⟩ := DataW.trod_array ht hx
  obtain ⟨l, hl, hl2⟩ := list_choice (Q := fun i (v : Int) => ∃ hi : i < cs.length, cs[i] = .int k v) n fun i hi => by
    have h1 := hf i hi
    have hxi : xs[i]? = some xs[i] := List.getElem?_eq_getElem (by omega)
    rw [hz, Nat.mul_one, hxi] at h1
    obtain ⟨v, hv, _, _⟩ := DataW.trod_int he h1
    have hi' : i < cs.length := by omega
    refine ⟨v, hi', ?_⟩
    have : (cs.drop i).take 1 = [cs[i]] := by rw [List.drop_eq_getElem_cons hi']; rfl
    rw [this] at hv
    exact List.cons.inj hv |>.1
  refine ⟨l, by simp; omega, fun j hj hj' => ?_, hl⟩
  have hj2 : j < l.length := by simpa using hj
  obtain ⟨_, h1⟩ := hl2 j hj2
  simp only [List.getElem_map]
  rw [h1]
  exact ⟨.v _, rfl⟩
end
end Go.VS
namespace Go.Proofs.YtpmknffollpnaaaGreat
open Go Go.VS
theorem u229 : Tryz.prog.underlying 229 = some (.array 16 5) := by
  have := arrB_229
  unfold tarr at this
  split at this
  · rename_i hu; cases this; exact hu
  · cases this
theorem u87 : Tryz.prog.underlying 87 = some (.slice 231) := by kernel_rfl
theorem u22 : Tryz.prog.underlying 22 = some (.slice 89) := by kernel_rfl
theorem c4 : Tryz.prog.cellsOf 4 = 1 := by kernel_rfl
theorem c5 : Tryz.prog.cellsOf 5 = 1 := by kernel_rfl
theorem c9 : Tryz.prog.cellsOf 9 = 1 := by kernel_rfl
theorem c22 : Tryz.prog.cellsOf 22 = 1 := by kernel_rfl
theorem c26 : Tryz.prog.cellsOf 26 = 1 := by kernel_rfl
theorem c87 : Tryz.prog.cellsOf 87 = 1 := by kernel_rfl
theorem c229 : Tryz.prog.cellsOf 229 = 16 := by kernel_rfl
theorem c231 : Tryz.prog.cellsOf 231 = 22 := by kernel_rfl
theorem c89 : Tryz.prog.cellsOf 89 = 10 := by kernel_rfl
theorem c25 : Tryz.prog.cellsOf 25 = 6 := by kernel_rfl
theorem b231 : 0 < Tryz.prog.bytesOf 231 := by rw [show Tryz.prog.bytesOf 231 = 80 by kernel_rfl]; omega
theorem b89 : 0 < Tryz.prog.bytesOf 89 := by rw [show Tryz.prog.bytesOf 89 = 120 by kernel_rfl]; omega
theorem s89 : structB Tryz.prog 89 [(3, 0), (3, 1), (3, 2), (3, 3), (3, 4), (4, 5), (87, 6), (3, 7), (9, 8), (26, 9)] = true := by kernel_rfl
theorem s25 : structB Tryz.prog 25 [(22, 0), (23, 1), (23, 2), (23, 3), (3, 4), (3, 5)] = true := by kernel_rfl
section
variable {H : Type} {enc : TypeId × Value → H} {w : World} {base : Nat} {sp : Nat → Bool} {hd : Bool}
theorem rd_en : Rd enc Tryz.prog w base sp hd 231 enC (fun _ => True) := by
  obtain ⟨fs, h1, h2⟩ := struct_of structB_231
  have h := RdFs_cons (enc := enc) (w := w) (base := base) (sp := sp) (hd := hd) (o := 0) c9 (Rd_string u9s) (RdFs_cons c9 (Rd_string u9s) (RdFs_cons c3 rd_int (RdFs_cons c3 rd_int (RdFs_cons c3 rd_int (RdFs_cons c3 rd_int (RdFs_cons c229 (Rd_ints u229 u5s c5 c229) (RdFs_nil _)))))))
  have h3 := Rd_struct h1 h2 c231 h
  intro fuel cs x hx hwt
  obtain ⟨⟨k, v, a, b, c, d, l, u⟩, q1, q2, q3⟩ := h3 fuel cs x hx hwt
  have e : ([C.v (Value.string k)] ++ ([C.v (Value.string v)] ++ ([I a] ++ ([I b] ++ ([I c] ++ ([I d] ++ ((l.map (Value.int .u8)).map C.v ++ []))))))) = enC ⟨k, v, a, b, c, d, l, q3.2.2.2.2.2.2.1⟩ := by simp [enC, enV]
  have q1' := q1
  have q2' := q2
  simp only at q1' q2'
  rw [e] at q1'
  refine ⟨⟨k, v, a, b, c, d, l, q3.2.2.2.2.2.2.1⟩, q1', fun j hj hj' => ?_, trivial⟩
  have := q2' j (by rw [e]; exact hj) hj'
  simp only [e] at this
  exact this
theorem rd_ens : Rd enc Tryz.prog w base sp hd 87 (fun l : List En => [LE l]) (fun l => l.length ≤ reachBytes) :=
  (Rd_slice u87 c231 (by omega) b231 rd_en).map id _ _ (fun q _ => rfl) (fun q h => h.1)
def okPg (p : Pg) : Prop := p.ents.length ≤ reachBytes ∧ okFs p.fr
theorem rd_pg : Rd enc Tryz.prog w base sp hd 89 pgC okPg := by
  obtain ⟨fs, h1, h2⟩ := struct_of s89
  have h := RdFs_cons (enc := enc) (w := w) (base := base) (sp := sp) (hd := hd) (o := 0) c3 rd_int (RdFs_cons c3 rd_int (RdFs_cons c3 rd_int (RdFs_cons c3 rd_int (RdFs_cons c3 rd_int (RdFs_cons c4 (Rd_bool u4) (RdFs_cons c87 rd_ens (RdFs_cons c3 rd_int (RdFs_cons c9 (Rd_string u9s) (RdFs_cons c26 rd_frs (RdFs_nil _))))))))))
  have h3 := Rd_struct h1 h2 c89 h
  intro fuel cs x hx hwt
  obtain ⟨⟨a, b, c, d, e, f, g, i, j, l, u⟩, q1, q2, q3⟩ := h3 fuel cs x hx hwt
  exact ⟨⟨a, b, c, d, e, f, g, i, j, l⟩, q1, q2, q3.2.2.2.2.2.2.1, q3.2.2.2.2.2.2.2.2.2.1⟩
theorem rd_pgs : Rd enc Tryz.prog w base sp hd 22 (fun l : List Pg => [LPg l]) (fun l => l.length ≤ reachBytes ∧ ∀ p ∈ l, okPg p) :=
  (Rd_slice u22 c89 (by omega) b89 rd_pg).map id _ _ (fun q _ => rfl) (fun q h => h)
def okSp (x : Spc) : Prop := x.pg.length ≤ reachBytes ∧ (∀ p ∈ x.pg, okPg p) ∧ x.free.length ≤ reachBytes ∧ x.fresh.length ≤ reachBytes ∧ x.gone.length ≤ reachBytes
theorem rd_sp : Rd enc Tryz.prog w base sp hd 25 spcC okSp := by
  obtain ⟨fs, h1, h2⟩ := struct_of s25
  have h := RdFs_cons (enc := enc) (w := w) (base := base) (sp := sp) (hd := hd) (o := 0) c22 rd_pgs (RdFs_cons c23 rd_ints (RdFs_cons c23 rd_ints (RdFs_cons c23 rd_ints (RdFs_cons c3 rd_int (RdFs_cons c3 rd_int (RdFs_nil _))))))
  have h3 := Rd_struct h1 h2 c25 h
  intro fuel cs x hx hwt
  obtain ⟨⟨a, b, c, d, e, f, u⟩, q1, q2, q3⟩ := h3 fuel cs x hx hwt
  exact ⟨⟨a, b, c, d, e, f⟩, q1, q2, q3.1.1, q3.1.2, q3.2.1, q3.2.2.1, q3.2.2.2.1⟩
end
end Go.Proofs.YtpmknffollpnaaaGreat
