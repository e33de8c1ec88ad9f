/- ListOf, the program and the reference; what End stores; SpaceStores. No condition. -/
import Derived.Test.YtpmknffollpnaaaGreatMd
import Derived.Test.YtpmknffollpnaaaGreatMf
import Derived.Test.YtpmknffollpnaaaGreatRows
set_option linter.unusedVariables false
set_option linter.unusedSimpArgs false
namespace Go.VS
open Go
section
variable {P : Program} {w w' : World} {s s' : St} {g g' : Gh} {E E' : Env} {N : NR} {a : Act} {Q : Ends}
theorem nodup_le {l m : List Nat} (h : l.Nodup) (hs : l ⊆ m) : l.length ≤ m.length := by
  induction l generalizing m with
  | nil => simp
  | cons x l ih =>
    obtain ⟨h1, h2⟩ := List.nodup_cons.1 h
    have hx : x ∈ m := hs (by simp)
    have := ih (m := m.erase x) h2 fun y hy => (List.mem_erase_of_ne (fun e => h1 (by rw [← e]; exact hy))).2 (hs (by simp [hy]))
    rw [List.length_erase_of_mem hx] at this
    have : 0 < m.length := List.length_pos_of_mem hx
    simp
    omega
/-- 'p' operations may come in whatever order; some of them ('los') do more than read; then the others. -/
def drawOk3 (ops : Array Oper) (p : Nat) (los : List Nat) : Bool :=
  decide (p ≤ ops.size) && down ops &&
  ((List.range p).all fun i => (List.range p).all fun j => i == j || (dstOf ops i).isNone || dstOf ops i != dstOf ops j) &&
  ((List.range ops.size).all fun m => decide (m < p) || (List.range m).all fun j => reach ops ops.size m j) &&
  ((List.range p).filter (isLo los) == los) &&
  ((List.range p).all fun i => !isLo los i || louder (lro ops i).op) &&
  ((List.range p).all fun i => (looks (lro ops i)).all fun t => (List.range p).all fun j => dstOf ops j != some t ||
    ((decide (j < i) && edge ops i j && (isLo los i || !isLo los j)) || (decide (i < j) && reach ops ops.size j i && (!isLo los i || isLo los j))))
/-- The operations that do more than read, in each order that the region leaves open; 'D' are behind. -/
def LP (P : Program) (N : NR) (I : St → Prop) (ops : Array Oper) (los : List Nat) (K : Env → St → Prop) : Nat → List Nat → Env → St → Prop
  | 0, _, E, s => K E s
  | n + 1, D, E, s => ∀ i ∈ los, i ∉ D → (∀ j ∈ los, j ≠ i → reach ops ops.size i j = true → j ∈ D) →
      WL P N [lro ops i] E s (oneQ E (lro ops i).dst fun c s' => I s' ∧ LP P N I ops los K n (i :: D) (E.set (lro ops i).dst c) s')

structure Part3 (P : Program) (N : NR) (I : St → Prop) (ops : Array Oper) (p : Nat) (los : List Nat) (K : Env → St → Prop) (E0 Ef : Env) (w0 : World) (s0 : St) (g0 : Gh) (S : Array Bool) (a : Act) (w : World) : Prop where
  tail : ∀ m, p ≤ m → m < ops.size → ¬ isL S m
  env : ∃ n D Em sm gm, (D.Nodup ∧ D ⊆ los ∧ D.length + n = los.length) ∧ (∀ i ∈ los, isL S i ↔ i ∈ D) ∧ I sm ∧ LP P N I ops los K n D Em sm ∧ Rel w sm gm (EX E0 ops p los S 0 Em) N a ∧ Step w0 s0 g0 w sm gm ∧ Em.ds = E0.ds ∧
    (∀ t, (∃ i, i < p ∧ isLo los i = false ∧ dstOf ops i = some t) → Em.f t = Ef.f t) ∧ (∀ t, (¬ ∃ i, i < p ∧ dstOf ops i = some t) → Em.f t = E0.f t) ∧ ∀ t, (∃ i, i ∈ los ∧ ¬ isL S i ∧ dstOf ops i = some t) → Em.f t = E0.f t

theorem draw_core3 {ops : Array Oper} {p : Nat} {los : List Nat} (hok : drawOk3 ops p los = true) {I : St → Prop} {K : Env → St → Prop} {E0 Ef : Env}
    (hq : ∀ i o, i < p → isLo los i = false → ops[i]? = some o → dOk N o.dst = true ∧ ∀ s', I s' → ∃ c Ei, QR P s' (conv ops o) Ei c ∧ (∀ d, o.dst = some d → Ef.f d = c) ∧
      ∀ t ∈ looks (conv ops o), ((∃ j, j < i ∧ isLo los j = false ∧ dstOf ops j = some t) → Ei.f t = Ef.f t) ∧ ((¬ ∃ j, j < i ∧ isLo los j = false ∧ dstOf ops j = some t) → Ei.f t = E0.f t))
    {w0 : World} {s0 : St} {g0 : Gh} (Q2 : Exit → Act → World → Prop)
    (hfin : ∀ w sm g a Em, Rel w sm g Em N a → Step w0 s0 g0 w sm g → K Em sm → wpListIn (rf N.r) 0 P ops Q2 (ops.toList.drop p) a w) :
    ∀ (fuel : Nat) (S : Array Bool) (a : Act) (w : World), S.size = ops.size → unl S = fuel → Closed ops S →
      ((Part3 P N I ops p los K E0 Ef w0 s0 g0 S a w ∧ ∃ i, i < p ∧ ¬ isL S i) ∨ ∃ m, p ≤ m ∧ m ≤ ops.size ∧ (∀ i, i < ops.size → (isL S i ↔ i < m)) ∧ wpListIn (rf N.r) 0 P ops Q2 (ops.toList.drop m) a w) →
      wpAnyIn (rf N.r) 0 P .any ops Q2 fuel S a w := by
  simp only [drawOk3, Bool.and_eq_true, decide_eq_true_eq, List.all_eq_true, List.mem_range, Bool.or_eq_true, beq_iff_eq, Option.isNone_iff_eq_none, bne_iff_ne, ne_eq, Bool.not_eq_true'] at hok
  obtain ⟨⟨⟨⟨⟨⟨hp, hdown⟩, hdist⟩, htail⟩, hlos⟩, hloud⟩, hdata⟩ := hok
  have hlop : ∀ i ∈ los, i < p := fun i hi => by rw [← hlos] at hi; simpa using (List.mem_filter.1 hi).1
  have hnd : los.Nodup := by rw [← hlos]; exact (List.nodup_range (n := p)).filter _
  have hdist' : ∀ i j t, i < p → j < p → dstOf ops i = some t → dstOf ops j = some t → i = j := fun i j t hi hj h1 h2 => by
    rcases hdist i hi j hj with (h | h) | h
    · exact h
    · rw [h] at h1; cases h1
    · exact absurd (h1.trans h2.symm) h
  have hlro : ∀ i o, ops[i]? = some o → lro ops i = conv ops o := fun i o h => by simp [lro, h]
  have hback : ∀ (S : Array Bool), Closed ops S → ∀ i j, reach ops ops.size i j = true → isL S i → isL S j := fun S hc i j hr hi =>
    reach_listed hc ops.size i j (fun o e ho he hb => hc i o e ho hi he hb) hr
  have hready : ∀ S : Array Bool, S.size = ops.size → ∀ i, i ∈ Region.ready .any ops S → i < ops.size ∧ ¬ isL S i ∧ ∀ o e, ops[i]? = some o → e ∈ o.after → Region.binds .any e = true → isL S e.on := by
    intro S hsz i hi
    obtain ⟨h1, o, ho, h2⟩ := mem_ready.1 hi
    have hlt : i < ops.size := (Array.getElem?_eq_some_iff.1 ho).1
    refine ⟨hlt, fun h => ?_, fun o' e ho' he hb => ?_⟩
    · unfold isL at h
      simp [hsz, hlt] at h h1
      rw [h1] at h
      cases h
    · rw [ho] at ho'
      cases ho'
      exact h2 e he hb
  have hprog : ∀ S : Array Bool, S.size = ops.size → (∃ i, i < ops.size ∧ ¬ isL S i) → Region.ready .any ops S ≠ [] := by
    intro S hsz hex hnil
    obtain ⟨n, hn⟩ := hex
    obtain ⟨m, ⟨hm1, hm2⟩, hm3⟩ := least_of (p := fun i => i < ops.size ∧ ¬ isL S i) n hn
    have : m ∈ Region.ready .any ops S := by
      rw [mem_ready]
      have hget : ops[m]? = some ops[m] := Array.getElem?_eq_getElem hm1
      refine ⟨?_, ops[m], hget, fun e he hb => ?_⟩
      · unfold isL at hm2
        simp [hsz, hm1] at hm2 ⊢
        exact hm2
      · have hd := hdown
        unfold down at hd
        simp only [List.all_eq_true, List.mem_range] at hd
        have := hd m hm1
        rw [hget] at this
        simp only at this
        have h1 := Array.all_eq_true_iff_forall_mem.1 this e he
        simp only [hb, Bool.not_true, Bool.false_or, decide_eq_true_eq] at h1
        rcases Classical.em (isL S e.on) with h2 | h2
        · exact h2
        · exact absurd ⟨by omega, h2⟩ (hm3 e.on h1)
    rw [hnil] at this
    cases this
  have htl : ∀ S : Array Bool, Closed ops S → ∀ i, i < ops.size → p ≤ i → (∀ o e, ops[i]? = some o → e ∈ o.after → Region.binds .any e = true → isL S e.on) → ∀ j, j < i → isL S j := by
    intro S hc i hi hpi hpre j hj
    have := htail i hi
    rcases this with h | h
    · omega
    · exact reach_listed hc ops.size i j hpre (h j hj)
  have hclosed : ∀ S : Array Bool, S.size = ops.size → Closed ops S → ∀ i, i < ops.size → (∀ o e, ops[i]? = some o → e ∈ o.after → Region.binds .any e = true → isL S e.on) → Closed ops (S.setIfInBounds i true) := by
    intro S hsz hc i hi hpre j o e ho hj he hb
    rw [isL_set (by omega)] at hj ⊢
    rcases hj with rfl | hj
    · exact .inr (hpre o e ho he hb)
    · exact .inr (hc j o e ho hj he hb)
  intro fuel
  induction fuel with
  | zero =>
    intro S a w hsz hunl hc h
    have hall := fun i (hi : i < ops.size) => all_listed hunl i (by omega)
    refine ⟨?_, ?_⟩
    · cases hr : Region.ready .any ops S with
      | nil => rfl
      | cons x xs =>
        obtain ⟨h1, h2, _⟩ := hready S hsz x (by rw [hr]; simp)
        exact absurd (hall x h1) h2
    · rcases h with ⟨_, i, hi, hni⟩ | ⟨m, h1, h2, h3, h4⟩
      · exact absurd (hall i (by omega)) hni
      · have hm : m = ops.size := by
          rcases Nat.lt_or_ge m ops.size with h | h
          · have := (h3 m h).1 (hall m h); omega
          · omega
        rw [hm, List.drop_eq_nil_of_le (by simp)] at h4
        exact h4
  | succ fuel ih =>
    intro S a w hsz hunl hc h
    have hex : ∃ i, i < ops.size ∧ ¬ isL S i := by
      rcases Classical.em (∃ i, i < ops.size ∧ ¬ isL S i) with h' | h'
      · exact h'
      · exfalso
        have hall : ∀ b ∈ S.toList, b = true := fun b hb => by
          obtain ⟨i, hi, rfl⟩ := List.getElem_of_mem hb
          have hi' : i < ops.size := by simp at hi; omega
          rcases Classical.em (isL S i) with h1 | h1
          · unfold isL at h1
            simp [hsz, hi'] at h1
            simpa using h1
          · exact absurd ⟨i, hi', h1⟩ h'
        have : unl S = 0 := by
          unfold unl
          rw [List.length_eq_zero_iff, List.filter_eq_nil_iff]
          intro b hb
          simp [hall b hb]
        omega
    refine ⟨fun hnil => absurd hnil (hprog S hsz hex), fun i hi => ?_⟩
    obtain ⟨hi1, hi2, hi3⟩ := hready S hsz i hi
    have hsz' : (S.setIfInBounds i true).size = ops.size := by simpa using hsz
    have hunl' : unl (S.setIfInBounds i true) = fuel := by have := unl_set S i (by omega) hi2; omega
    have hc' := hclosed S hsz hc i hi1 hi3
    rcases h with ⟨hA, j0, hj0, hj0n⟩ | ⟨m, h1, h2, h3, h4⟩
    · have hip : i < p := by
        rcases Nat.lt_or_ge i p with h | h
        · exact h
        · exact absurd (htl S hc i hi1 h hi3 j0 (by omega)) hj0n
      have hget : ops[i]? = some ops[i] := Array.getElem?_eq_getElem hi1
      obtain ⟨n, D, Em, sm, gm, hm, hmS, hI, hLL, hr, hst, hEds, hEm1, hEm2, hEm3⟩ := hA.env
      have hdst : dstOf ops i = (ops[i]).dst := by simp [dstOf, hget]
      have htail' : ∀ m, p ≤ m → m < ops.size → ¬ isL (S.setIfInBounds i true) m := fun m hm hm2 hh => by
        rcases (isL_set (by omega)).1 hh with rfl | hh
        · omega
        · exact hA.tail m hm hm2 hh
      -- what an operation at 'k' looks at, when all that it waits for is behind
      have hlook : ∀ k o (X : Nat), k < p → X ≤ k → ¬ isL S k → ops[k]? = some o → isLo los k = false → (∀ j, j < p → edge ops k j = true → ¬ (X ≤ j ∧ isLo los j = false ∧ ¬ isL S j)) → ∀ s', I s' → ∃ c, QR P s' (conv ops o) (EX E0 ops p los S X Em) c ∧ ∀ d, o.dst = some d → Ef.f d = c := by
        intro k o X hk hXk hkn ho hlk hX s' hI'
        obtain ⟨_, hqs⟩ := hq k o hk hlk ho
        obtain ⟨c, Ei, q1, q3, q4⟩ := hqs s' hI'
        refine ⟨c, q1.congr fun t ht => ?_, q3⟩
        have hd := hdata k hk t (by rw [hlro k o ho]; exact ht)
        rcases Classical.em (∃ j, j < k ∧ isLo los j = false ∧ dstOf ops j = some t) with ⟨j, hj, hjl, hjt⟩ | hno
        · rw [(q4 t ht).1 ⟨j, hj, hjl, hjt⟩]
          have h7 : edge ops k j = true := by
            rcases hd j (by omega) with h | h | h
            · exact absurd hjt h
            · exact h.1.2
            · omega
          simp only [EX]
          rw [if_neg, hEm1 t ⟨j, by omega, hjl, hjt⟩]
          rintro ⟨i', a1, a2, a3, a4, a5⟩
          have := hdist' i' j t a1 (by omega) a5 hjt
          subst this
          exact hX _ a1 h7 ⟨a2, a3, a4⟩
        · rw [(q4 t ht).2 hno]
          rcases Classical.em (∃ j, j < p ∧ dstOf ops j = some t) with ⟨j, hj, hjt⟩ | hno2
          · have h7 : k < j ∧ reach ops ops.size j k = true := by
              rcases hd j hj with h | h | h
              · exact absurd hjt h
              · rcases h.2 with h2 | h2
                · rw [hlk] at h2; cases h2
                · exact absurd ⟨j, h.1.1, h2, hjt⟩ hno
              · exact h.1
            have hjn : ¬ isL S j := fun h => hkn (hback S hc j k h7.2 h)
            simp only [EX]
            cases hjl : isLo los j with
            | false => rw [if_pos ⟨j, hj, by omega, hjl, hjn, hjt⟩]
            | true =>
              rw [if_neg, hEm3 t ⟨j, isLo_mem.1 hjl, hjn, hjt⟩]
              rintro ⟨i', a1, a2, a3, a4, a5⟩
              have := hdist' i' j t a1 hj a5 hjt
              subst this
              rw [hjl] at a3
              cases a3
          · simp only [EX]
            rw [if_neg, hEm2 t hno2]
            rintro ⟨i', a1, _, _, _, a5⟩
            exact hno2 ⟨i', a1, a5⟩
      have hnextE : ∀ (n' : Nat) (D' : List Nat) (Em' : Env) (sm' : St) (g' : Gh) (a' : Act) (w' : World), (D'.Nodup ∧ D' ⊆ los ∧ D'.length + n' = los.length) → (∀ k ∈ los, isL (S.setIfInBounds i true) k ↔ k ∈ D') → I sm' → LP P N I ops los K n' D' Em' sm' →
          Rel w' sm' g' (EX E0 ops p los (S.setIfInBounds i true) 0 Em') N a' → Step w0 s0 g0 w' sm' g' → Em'.ds = E0.ds → (∀ t, (∃ i, i < p ∧ isLo los i = false ∧ dstOf ops i = some t) → Em'.f t = Ef.f t) → (∀ t, (¬ ∃ i, i < p ∧ dstOf ops i = some t) → Em'.f t = E0.f t) → (∀ t, (∃ k, k ∈ los ∧ ¬ isL (S.setIfInBounds i true) k ∧ dstOf ops k = some t) → Em'.f t = E0.f t) →
          wpAnyIn (rf N.r) 0 P .any ops Q2 fuel (S.setIfInBounds i true) a' w' := by
        intro n' D' Em' sm' g' a' w' b1 b2 b3 b4 b5 b6 b7 b8 b9 b10
        refine ih _ a' w' hsz' hunl' hc' ?_
        rcases Classical.em (∃ k, k < p ∧ ¬ isL (S.setIfInBounds i true) k) with hk | hk
        · exact .inl ⟨⟨htail', n', D', Em', sm', g', b1, b2, b3, b4, b5, b6, b7, b8, b9, b10⟩, hk⟩
        · have hfull : ∀ k, k < p → isL (S.setIfInBounds i true) k := fun k hkp => by
            rcases Classical.em (isL (S.setIfInBounds i true) k) with h | h
            · exact h
            · exact absurd ⟨k, hkp, h⟩ hk
          have hm' : n' = 0 := by
            have := nodup_le hnd (fun k hk => (b2 k hk).1 (hfull k (hlop k hk)))
            omega
          have hEX : EX E0 ops p los (S.setIfInBounds i true) 0 Em' = Em' := by
            cases Em'
            simp only [EX, Env.mk.injEq, and_true]
            funext t
            rw [if_neg]
            rintro ⟨i', a1, _, _, a4, _⟩
            exact a4 (hfull i' a1)
          rw [hEX] at b5
          rw [hm'] at b4
          refine .inr ⟨p, Nat.le_refl _, hp, fun k hk2 => ⟨fun hh => ?_, hfull k⟩, hfin w' sm' g' a' Em' b5 b6 b4⟩
          rcases Nat.lt_or_ge k p with h | h
          · exact h
          · exact absurd hh (htail' k h hk2)
      cases hlo : isLo los i with
      | false =>
        obtain ⟨hqd, _⟩ := hq i ops[i] hip hlo hget
        obtain ⟨c, q1, q3⟩ := hlook i ops[i] 0 hip (Nat.zero_le _) hi2 hget hlo (fun j hj hed h => by
          obtain ⟨o, e, ho, he, hb, rfl⟩ := edge_spec hed
          exact h.2.2 (hi3 o e ho he hb)) sm hI
        refine (q1.q1 (N := N)).op rfl hqd hr hget fun a' w' g' hr' hst' => hnextE n D Em sm g' a' w' hm (fun k hk => ?_) hI hLL ?_ (hst.trans hst') hEds hEm1 hEm2 (fun t ⟨k, b1, b2, b3⟩ => hEm3 t ⟨k, b1, fun h => b2 ((isL_set (by omega)).2 (.inr h)), b3⟩)
        · rw [isL_set (by omega), ← hmS k hk]
          constructor
          · rintro (rfl | h)
            · rw [isLo_mem.2 hk] at hlo; cases hlo
            · exact h
          · exact .inr
        · have heq : (EX E0 ops p los S 0 Em).set (conv ops ops[i]).dst c = EX E0 ops p los (S.setIfInBounds i true) 0 Em := by
            have hcd : (conv ops ops[i]).dst = (ops[i]).dst := rfl
            rw [hcd]
            have hiff : ∀ t, (ops[i]).dst ≠ some t → ((∃ i', i' < p ∧ 0 ≤ i' ∧ isLo los i' = false ∧ ¬ isL (S.setIfInBounds i true) i' ∧ dstOf ops i' = some t) ↔ ∃ i', i' < p ∧ 0 ≤ i' ∧ isLo los i' = false ∧ ¬ isL S i' ∧ dstOf ops i' = some t) := fun t ht => by
              constructor
              · rintro ⟨i', a1, a2, a3, a4, a5⟩
                exact ⟨i', a1, a2, a3, fun h => a4 ((isL_set (by omega)).2 (.inr h)), a5⟩
              · rintro ⟨i', a1, a2, a3, a4, a5⟩
                refine ⟨i', a1, a2, a3, fun h => ?_, a5⟩
                rcases (isL_set (by omega)).1 h with rfl | h
                · exact ht (by rw [← hdst]; exact a5)
                · exact a4 h
            cases hd : (ops[i]).dst with
            | none =>
              simp only [Env.set, EX, Env.mk.injEq, and_true]
              funext t
              exact ite_iff (hiff t (by rw [hd]; simp)).symm rfl rfl
            | some d =>
              simp only [Env.set, EX, Env.mk.injEq, and_true]
              funext t
              by_cases htd : t = d
              · subst htd
                rw [if_pos rfl, if_neg, hEm1 t ⟨i, hip, hlo, by rw [hdst, hd]⟩, q3 t hd]
                rintro ⟨i', a1, _, _, a4, a5⟩
                have := hdist' i' i t a1 hip a5 (by rw [hdst, hd])
                subst this
                exact a4 ((isL_set (by omega)).2 (.inl rfl))
              · rw [if_neg htd]
                exact ite_iff (hiff t (by rw [hd]; simpa using fun e => htd e.symm)).symm rfl rfl
          rw [← heq]
          exact hr'
      | true =>
        have hmem := isLo_mem.1 hlo
        have hiD : i ∉ D := fun h => hi2 ((hmS i hmem).2 h)
        have hlt : D.length + 1 ≤ los.length := nodup_le (l := i :: D) (List.nodup_cons.2 ⟨hiD, hm.1⟩) (fun k hk => by
          rcases List.mem_cons.1 hk with rfl | hk
          · exact hmem
          · exact hm.2.1 hk)
        obtain ⟨n, rfl⟩ : ∃ n', n = n' + 1 := ⟨n - 1, by omega⟩
        have hLL := hLL i hmem hiD (fun j hj _ hji => (hmS j hj).1 (reach_listed hc ops.size i j hi3 hji))
        rw [hlro i _ hget] at hLL
        have hW : ∀ X, X ≤ p → WL P N [conv ops ops[i]] (EX E0 ops p los S (p - X) Em) sm (oneQ (EX E0 ops p los S (p - X) Em) (ops[i]).dst fun c s' => I s' ∧ LP P N I ops los K n (i :: D) (Em.set (ops[i]).dst c) s') := by
          intro X
          induction X with
          | zero =>
            intro _
            have hEX : EX E0 ops p los S (p - 0) Em = Em := by
              cases Em
              simp only [EX, Env.mk.injEq, and_true]
              funext t
              rw [if_neg]
              rintro ⟨i', a1, a2, _⟩
              omega
            rw [hEX]
            exact hLL
          | succ X ihX =>
            intro hX
            have ihX := ihX (by omega)
            have hk : p - (X + 1) < p := by omega
            have hk1 : p - X = p - (X + 1) + 1 := by omega
            rw [hk1] at ihX
            generalize p - (X + 1) = k at *
            have hkget : ops[k]? = some (ops[k]'(by omega)) := Array.getElem?_eq_getElem (by omega)
            have hkd : dstOf ops k = (ops[k]'(by omega)).dst := by simp [dstOf, hkget]
            by_cases hkq : isLo los k = false ∧ ¬ isL S k
            · obtain ⟨c, q1, q3⟩ := hlook k _ k hk (Nat.le_refl _) hkq.2 hkget hkq.1 (fun j hj hed h => by
                obtain ⟨o, e, ho, he, hb, rfl⟩ := edge_spec hed
                have hd := hdown
                unfold down at hd
                simp only [List.all_eq_true, List.mem_range] at hd
                have := hd k (by omega)
                rw [ho] at this
                simp only at this
                have h1 := Array.all_eq_true_iff_forall_mem.1 this e he
                simp only [hb, Bool.not_true, Bool.false_or, decide_eq_true_eq] at h1
                omega) sm hI
              have heq : (EX E0 ops p los S k Em).set (conv ops (ops[k]'(by omega))).dst c = EX E0 ops p los S (k + 1) Em := by
                have hcd : (conv ops (ops[k]'(by omega))).dst = (ops[k]'(by omega)).dst := rfl
                rw [hcd]
                have hiff : ∀ t, (ops[k]'(by omega)).dst ≠ some t → ((∃ i', i' < p ∧ k + 1 ≤ i' ∧ isLo los i' = false ∧ ¬ isL S i' ∧ dstOf ops i' = some t) ↔ ∃ i', i' < p ∧ k ≤ i' ∧ isLo los i' = false ∧ ¬ isL S i' ∧ dstOf ops i' = some t) := fun t ht => by
                  constructor
                  · rintro ⟨i', a1, a2, a3⟩; exact ⟨i', a1, by omega, a3⟩
                  · rintro ⟨i', a1, a2, a3, a4, a5⟩
                    refine ⟨i', a1, ?_, a3, a4, a5⟩
                    rcases Nat.lt_or_ge k i' with h | h
                    · exact h
                    · have : i' = k := by omega
                      subst this
                      exact absurd (by rw [← hkd]; exact a5) ht
                cases hd : (ops[k]'(by omega)).dst with
                | none =>
                  simp only [Env.set, EX, Env.mk.injEq, and_true]
                  funext t
                  exact ite_iff (hiff t (by rw [hd]; simp)).symm rfl rfl
                | some d =>
                  simp only [Env.set, EX, Env.mk.injEq, and_true]
                  funext t
                  by_cases htd : t = d
                  · subst htd
                    rw [if_pos rfl, if_neg, hEm1 t ⟨k, hk, hkq.1, by rw [hkd, hd]⟩, q3 t hd]
                    rintro ⟨i', a1, a2, _, _, a5⟩
                    have := hdist' i' k t a1 hk a5 (by rw [hkd, hd])
                    omega
                  · rw [if_neg htd]
                    exact ite_iff (hiff t (by rw [hd]; simpa using fun e => htd e.symm)).symm rfl rfl
              have hno : ∀ t, (conv ops (ops[k]'(by omega))).dst = some t → t ∉ looks (conv ops ops[i]) ∧ (conv ops ops[i]).dst ≠ some t := by
                intro t ht
                have hkt : dstOf ops k = some t := by rw [hkd]; exact ht
                constructor
                · intro hl
                  rcases hdata i hip t (by rw [hlro i _ hget]; exact hl) k hk with h | h | h
                  · exact h hkt
                  · obtain ⟨o, e, ho, he, hb, rfl⟩ := edge_spec h.1.2
                    exact hkq.2 (hi3 o e ho he hb)
                  · rcases h.2 with h2 | h2
                    · rw [hlo] at h2; cases h2
                    · rw [hkq.1] at h2; cases h2
                · intro hl
                  have := hdist' i k t hip hk (by rw [hdst]; exact hl) hkt
                  subst this
                  rw [hlo] at hkq
                  cases hkq.1
              have hlouder : louder (conv ops ops[i]).op = true := by
                rcases hloud i hip with h | h
                · rw [hlo] at h; cases h
                · rw [hlro i _ hget] at h; exact h
              refine WL_back q1 (hq k _ hk hkq.1 hkget).1 hno hlouder ?_
              rw [heq]
              exact ihX
            · have heq : EX E0 ops p los S k Em = EX E0 ops p los S (k + 1) Em := by
                simp only [EX, Env.mk.injEq, and_true]
                funext t
                have hiff : (∃ i', i' < p ∧ k ≤ i' ∧ isLo los i' = false ∧ ¬ isL S i' ∧ dstOf ops i' = some t) ↔ (∃ i', i' < p ∧ k + 1 ≤ i' ∧ isLo los i' = false ∧ ¬ isL S i' ∧ dstOf ops i' = some t) := by
                  constructor
                  · rintro ⟨i', a1, a2, a3, a4, a5⟩
                    refine ⟨i', a1, ?_, a3, a4, a5⟩
                    rcases Nat.lt_or_ge k i' with h | h
                    · exact h
                    · have : i' = k := by omega
                      subst this
                      exact absurd ⟨a3, a4⟩ hkq
                  · rintro ⟨i', a1, a2, a3⟩; exact ⟨i', a1, by omega, a3⟩
                exact ite_iff hiff rfl rfl
              rw [heq]
              exact ihX
        have hW0 := hW p (Nat.le_refl _)
        rw [Nat.sub_self] at hW0
        refine WL_op1 hW0 hr hget fun a' w' g' c s' hr' hst' hK' => hnextE n (i :: D) (Em.set (ops[i]).dst c) s' g' a' w' ⟨List.nodup_cons.2 ⟨hiD, hm.1⟩, fun k hk => by
          rcases List.mem_cons.1 hk with rfl | hk
          · exact hmem
          · exact hm.2.1 hk, by have := hm.2.2; rw [List.length_cons]; omega⟩ (fun k hk => ?_) hK'.1 hK'.2 ?_ (hst.trans hst') (by rw [set_ds]; exact hEds) (fun t ht => ?_) (fun t ht => ?_) (fun t ht => ?_)
        · rw [isL_set (by omega), hmS k hk, List.mem_cons]
        · have heq : (EX E0 ops p los S 0 Em).set (ops[i]).dst c = EX E0 ops p los (S.setIfInBounds i true) 0 (Em.set (ops[i]).dst c) := by
            have hiff : ∀ t, (∃ i', i' < p ∧ 0 ≤ i' ∧ isLo los i' = false ∧ ¬ isL (S.setIfInBounds i true) i' ∧ dstOf ops i' = some t) ↔ ∃ i', i' < p ∧ 0 ≤ i' ∧ isLo los i' = false ∧ ¬ isL S i' ∧ dstOf ops i' = some t := fun t => by
              constructor
              · rintro ⟨i', a1, a2, a3, a4, a5⟩
                exact ⟨i', a1, a2, a3, fun h => a4 ((isL_set (by omega)).2 (.inr h)), a5⟩
              · rintro ⟨i', a1, a2, a3, a4, a5⟩
                refine ⟨i', a1, a2, a3, fun h => ?_, a5⟩
                rcases (isL_set (by omega)).1 h with rfl | h
                · rw [hlo] at a3; cases a3
                · exact a4 h
            cases hd : (ops[i]).dst with
            | none =>
              simp only [Env.set, EX, Env.mk.injEq, and_true]
              funext t
              exact ite_iff (hiff t).symm rfl rfl
            | some d =>
              simp only [Env.set, EX, Env.mk.injEq, and_true]
              funext t
              by_cases htd : t = d
              · subst htd
                rw [if_pos rfl, if_neg, if_pos rfl]
                rintro ⟨i', a1, _, a3, a4, a5⟩
                have := hdist' i' i t a1 hip a5 (by rw [hdst, hd])
                subst this
                rw [hlo] at a3
                cases a3
              · rw [if_neg htd, if_neg htd]
                exact ite_iff (hiff t).symm rfl rfl
          rw [← heq]
          exact hr'
        · cases hd : (ops[i]).dst with
          | none => exact hEm1 t ht
          | some d =>
            rw [set_f, if_neg]
            · exact hEm1 t ht
            · intro e
              subst e
              obtain ⟨i', a1, a2, a3⟩ := ht
              have := hdist' i' i t a1 hip a3 (by rw [hdst, hd])
              subst this
              rw [hlo] at a2
              cases a2
        · cases hd : (ops[i]).dst with
          | none => exact hEm2 t ht
          | some d =>
            rw [set_f, if_neg]
            · exact hEm2 t ht
            · intro e
              subst e
              exact ht ⟨i, hip, by rw [hdst, hd]⟩
        · obtain ⟨k, b1, b2, b3⟩ := ht
          have hki : k ≠ i := fun e => b2 (by rw [e]; exact (isL_set (by omega)).2 (.inl rfl))
          have hE := hEm3 t ⟨k, b1, fun h => b2 ((isL_set (by omega)).2 (.inr h)), b3⟩
          cases hd : (ops[i]).dst with
          | none => exact hE
          | some d =>
            rw [set_f, if_neg]
            · exact hE
            · intro e
              subst e
              exact hki (hdist' k i t (hlop k b1) hip b3 (by rw [hdst, hd]))
    · have him : i = m := by
        have hge : ¬ i < m := fun h => hi2 ((h3 i hi1).2 h)
        rcases Nat.lt_or_ge m i with h | h
        · have := (h3 m (by omega)).1 (htl S hc i hi1 (by omega) hi3 m h); omega
        · omega
      subst him
      have hget : ops[i]? = some ops[i] := Array.getElem?_eq_getElem hi1
      have hdrop : ops.toList.drop i = ops[i] :: ops.toList.drop (i + 1) := by
        rw [List.drop_eq_getElem_cons (by simpa using hi1)]
        simp
      rw [hdrop] at h4
      have hnext : ∀ a' w', wpListIn (rf N.r) 0 P ops Q2 (ops.toList.drop (i + 1)) a' w' → wpAnyIn (rf N.r) 0 P .any ops Q2 fuel (S.setIfInBounds i true) a' w' := fun a' w' h5 =>
        ih _ a' w' hsz' hunl' hc' (.inr ⟨i + 1, by omega, hi1, fun k hk => by
          rw [isL_set (by omega)]
          constructor
          · rintro (rfl | h)
            · omega
            · have := (h3 k hk).1 h; omega
          · intro h
            rcases Nat.lt_or_ge k i with h' | h'
            · exact .inr ((h3 k hk).2 h')
            · exact .inl (by omega), h5⟩)
      unfold wpOpIn
      simp only [hget]
      unfold wpListIn at h4
      split
      · rename_i hw
        rw [if_pos hw] at h4
        exact Oper.wpIn_mono hnext h4
      · rename_i hw
        rw [if_neg hw] at h4
        exact ⟨fun _ _ => rf_fn _ _, hnext _ _ h4.2⟩
/-- A REGION WHOSE ORDER IS OPEN: of 'p' operations some ('los') do more than read, and keep their order; the others in theirs. -/
theorem W_draw3 {id : Nat} {ops : Array Oper} {Ef : Env} (p : Nat) (los : List Nat) (I : St → Prop) (hm : P.follows .mixedOrders = true) (hok : drawOk3 ops p los = true) (hI : I s)
    (htr : ∀ s', I s' → TrQ P N s' los 0 ((ops.toList.take p).map (conv ops)) E Ef)
    (hk : LP P N I ops los (fun E' s' => WL P N ((ops.toList.drop p).map (conv ops)) E' s' Q) los.length [] Ef s) : W P N (.region id ops true) E s Q := by
  intro w g a hr
  refine wpIn_region_any hm ?_
  have hr' : Rel w.drew s g E N a := hr.drew
  have hok' := hok
  simp only [drawOk3, Bool.and_eq_true, decide_eq_true_eq, List.all_eq_true, List.mem_range, Bool.or_eq_true, beq_iff_eq, Option.isNone_iff_eq_none, bne_iff_ne, ne_eq, Bool.not_eq_true'] at hok'
  obtain ⟨⟨⟨⟨⟨⟨hp, hdown⟩, hdist⟩, htail⟩, hlos⟩, hloud⟩, hdata⟩ := hok'
  have hlen : ((ops.toList.take p).map (conv ops)).length = p := by simp; omega
  have hL : ∀ i (hi : i < p), ((ops.toList.take p).map (conv ops))[i]'(by omega) = conv ops (ops[i]'(by omega)) := fun i hi => by simp
  have hdst : ∀ i (hi : i < p), dstOf ops i = (ops[i]'(by omega)).dst := fun i hi => by simp [dstOf, Array.getElem?_eq_getElem (show i < ops.size by omega)]
  have hdist' : ∀ i j t, i < p → j < p → dstOf ops i = some t → dstOf ops j = some t → i = j := fun i j t hi hj h1 h2 => by
    rcases hdist i hi j hj with (h | h) | h
    · exact h
    · rw [h] at h1; cases h1
    · exact absurd (h1.trans h2.symm) h
  -- what the trace tells, in whatever memory
  have key : ∀ s', I s' → ∃ (Es : Nat → Env) (cs : Nat → C), Es 0 = E ∧ Es p = Ef ∧ (∀ i (hi : i < p), isLo los i = false → QR P s' (conv ops (ops[i]'(by omega))) (Es i) (cs i) ∧ dOk N (ops[i]'(by omega)).dst = true) ∧
      (∀ t i j, i ≤ j → j ≤ p → (∀ k, i ≤ k → k < j → isLo los k = false → dstOf ops k ≠ some t) → (Es j).f t = (Es i).f t) ∧ (∀ i (hi : i < p), isLo los i = false → ∀ d, (ops[i]'(by omega)).dst = some d → ∀ j, i < j → j ≤ p → (Es j).f d = cs i) ∧ ∀ i, i ≤ p → (Es i).ds = E.ds := by
    intro s' hI'
    obtain ⟨Es, cs, h0, hlast, hstep⟩ := (htr s' hI').fn
    rw [hlen] at hlast
    have hstep' : ∀ i (hi : i < p), (isLo los i = false → Es (i + 1) = (Es i).set (ops[i]'(by omega)).dst (cs i) ∧ QR P s' (conv ops (ops[i]'(by omega))) (Es i) (cs i) ∧ dOk N (ops[i]'(by omega)).dst = true) ∧ (isLo los i = true → Es (i + 1) = Es i) := fun i hi => by
      have := hstep i (by omega)
      rw [hL i hi, Nat.zero_add] at this
      exact this
    have hkeep : ∀ t i j, i ≤ j → j ≤ p → (∀ k, i ≤ k → k < j → isLo los k = false → dstOf ops k ≠ some t) → (Es j).f t = (Es i).f t := by
      intro t i j hij
      induction hij with
      | refl => intro _ _; rfl
      | @step j hij ih =>
        intro hj hno
        have hij' : i ≤ j := hij
        have ih := ih (by omega) fun k h1 h2 h3 => hno k h1 (by omega) h3
        cases hlo : isLo los j with
        | true => rw [(hstep' j (by omega)).2 hlo]; exact ih
        | false =>
          rw [((hstep' j (by omega)).1 hlo).1]
          have hne := hno j hij' (Nat.lt_succ_self _) hlo
          rw [hdst j (by omega)] at hne
          have : ((Es j).set (ops[j]'(by omega)).dst (cs j)).f t = (Es j).f t := by
            cases hd : (ops[j]'(by omega)).dst with
            | none => rfl
            | some d => rw [set_f, if_neg]; intro e; exact hne (by rw [hd, e])
          rw [this]
          exact ih
    refine ⟨Es, cs, h0, hlast, fun i hi hlo => ((hstep' i hi).1 hlo).2, hkeep, fun i hi hlo d hd j hij hj => ?_, fun i => ?_⟩
    · rw [hkeep d (i + 1) j hij hj, ((hstep' i hi).1 hlo).1, hd, set_f, if_pos rfl]
      intro k hk1 hk2 hkl hkd
      have := hdist' i k d hi (by omega) (by rw [hdst i hi, hd]) hkd
      omega
    · induction i with
      | zero => intro _; rw [h0]
      | succ i ih =>
        intro hi
        cases hlo : isLo los i with
        | true => rw [(hstep' i (by omega)).2 hlo]; exact ih (by omega)
        | false => rw [((hstep' i (by omega)).1 hlo).1, set_ds]; exact ih (by omega)
  obtain ⟨Es0, cs0, k0, k1, k2, k3, k4, k5⟩ := key s hI
  have hEfds : Ef.ds = E.ds := by rw [← k1]; exact k5 p (Nat.le_refl _)
  have hEf : ∀ t, (¬ ∃ i, i < p ∧ isLo los i = false ∧ dstOf ops i = some t) → Ef.f t = E.f t := fun t hno => by
    rw [← k1, k3 t 0 p (Nat.zero_le _) (Nat.le_refl _) (fun k _ hk hl hkt => hno ⟨k, hk, hl, hkt⟩), k0]
  refine draw_core3 (N := N) hok (I := I) (K := fun E' s' => WL P N ((ops.toList.drop p).map (conv ops)) E' s' Q) (E0 := E) (Ef := Ef) (w0 := w) (s0 := s) (g0 := g) (fun i o hi hlo ho => ?_) _ (fun w' sm g' a' Em hr2 hst2 hW => ?_) ops.size (Array.replicate ops.size false) a _ (by simp) (unl_rep _) (fun i o e _ h => absurd h (isL_rep _ _)) ?_
  · have ho' : o = ops[i]'(by omega) := by rw [Array.getElem?_eq_getElem (show i < ops.size by omega)] at ho; injection ho with ho; exact ho.symm
    subst ho'
    refine ⟨(k2 i hi hlo).2, fun s' hI' => ?_⟩
    obtain ⟨Es, cs, j0, j1, j2, j3, j4, j5⟩ := key s' hI'
    refine ⟨cs i, Es i, (j2 i hi hlo).1, fun d hd => ?_, fun t ht => ⟨fun ⟨j, hjt, hj⟩ => ?_, fun hno => ?_⟩⟩
    · rw [← j1]; exact j4 i hi hlo d hd p hi (Nat.le_refl _)
    · rw [j4 j (by omega) hj.1 t (by rw [← hdst j (by omega)]; exact hj.2) i hjt (by omega), ← j1, j4 j (by omega) hj.1 t (by rw [← hdst j (by omega)]; exact hj.2) p (by omega) (Nat.le_refl _)]
    · rw [j3 t 0 i (Nat.zero_le _) (by omega) (fun k _ hk hl hkt => hno ⟨k, hk, hl, hkt⟩), j0]
  · exact wpList_mono (fun e a w hp => Post.mono hst2 (fun _ _ _ h => h) hp) _ _ _ (hW ops _ rfl w' g' a' hr2)
  · have hnone := isL_rep ops.size
    by_cases hp0 : p = 0
    · subst hp0
      have hl0 : los = [] := by rw [← hlos]; rfl
      subst hl0
      refine .inr ⟨0, Nat.le_refl _, Nat.zero_le _, fun i _ => ⟨fun h => absurd h (hnone i), fun h => by omega⟩, ?_⟩
      have hE : Ef = E := by rw [← k1, k0]
      subst hE
      exact wpList_mono (fun e a w hp => Post.mono Step.drew (fun _ _ _ h => h) hp) _ _ _ (hk ops _ rfl w.drew g a hr')
    · refine .inl ⟨⟨fun m _ _ => hnone m, los.length, [], Ef, s, g, ⟨List.nodup_nil, fun _ h => by simp at h, by simp⟩, fun i _ => ⟨fun h => absurd h (hnone i), fun h => by simp at h⟩, hI, hk, ⟨hr'.st, hr'.size, by rw [hr'.ds]; exact hEfds.symm, fun t => ?_⟩, Step.drew, hEfds, fun t _ => rfl, fun t hno => hEf t fun ⟨i, a1, _, a3⟩ => hno ⟨i, a1, a3⟩, fun t ⟨i, a1, _, a3⟩ => hEf t fun ⟨j, b1, b2, b3⟩ => by
        have hip : i < p := by rw [← hlos] at a1; simpa using (List.mem_filter.1 a1).1
        have := hdist' i j t hip b1 a3 b3
        subst this
        rw [isLo_mem.2 a1] at b2
        cases b2⟩, 0, by omega, hnone 0⟩
      simp only [EX]
      split
      · exact hr'.f t
      · rename_i hno
        rw [hEf t fun ⟨i, a1, a2, a3⟩ => hno ⟨i, a1, Nat.zero_le _, a2, hnone i, a3⟩]
        exact hr'.f t


theorem W_drawp {id : Nat} {ops : Array Oper} {Ef : Env} (p : Nat) (los : List Nat) (I : St → Prop) (hm : P.follows .mixedOrders = true) (hok : drawOk3 ops p los = true) (hI : I s)
    (htr : ∀ s', I s' → qr P N los 0 ((ops.toList.take p).map (conv ops)) E s' fun E' => E' = Ef)
    (hk : LP P N I ops los (fun E' s' => WL P N ((ops.toList.drop p).map (conv ops)) E' s' Q) los.length [] Ef s) : W P N (.region id ops true) E s Q :=
  W_draw3 p los I hm hok hI (fun s' hI' => by obtain ⟨Ef', h1, h2⟩ := qr_tr _ _ _ _ (htr s' hI'); subst h2; exact h1) hk
theorem W_drawp_k {id : Nat} {ops : Array Oper} {Ef : Env} (p : Nat) (los : List Nat) (I : St → Prop) (hm : P.follows .mixedOrders = true) (hok : drawOk3 ops p los = true) (hI : I s)
    (htr : ∀ s', I s' → qr P N los 0 ((ops.toList.take p).map (conv ops)) E s' fun E' => E' = Ef)
    (hk : ∀ K : Env → St → Prop, (∀ E' s', WL P N ((ops.toList.drop p).map (conv ops)) E' s' Q → K E' s') → LP P N I ops los K los.length [] Ef s) : W P N (.region id ops true) E s Q :=
  W_drawp p los I hm hok hI htr (hk _ fun _ _ h => h)
theorem WL_keep {ro : List Ro} (l : List (Nat × C)) (h : Has E l) (hk : WL P N ro (envL l E.ds) s Q) : WL P N ro E s Q :=
  fun ops l' hl w g a hr => hk ops l' hl w g a (h.rel hr)
/-- The operations that may come next. -/
def nexts (ops : Array Oper) (los D : List Nat) : List Nat := los.filter fun i => !isLo D i && los.all fun j => j == i || isLo D j || !reach ops ops.size i j
theorem LP_step {I : St → Prop} {ops : Array Oper} {los D : List Nat} {K : Env → St → Prop} {n : Nat} (l : List Nat) (hl : nexts ops los D = l)
    (h : ∀ i ∈ l, ∀ Q' : Ends, (∀ c s', I s' → LP P N I ops los K n (i :: D) (E.set (lro ops i).dst c) s' → WL P N [] (E.set (lro ops i).dst c) s' Q') → WL P N [lro ops i] E s Q') : LP P N I ops los K (n + 1) D E s := by
  intro i hi hiD hj
  refine h i ?_ (oneQ E (lro ops i).dst fun c s' => I s' ∧ LP P N I ops los K n (i :: D) (E.set (lro ops i).dst c) s') fun c s' h1 h2 => WL_nil ⟨rfl, c, rfl, h1, h2⟩
  rw [← hl]
  simp only [nexts, List.mem_filter, Bool.and_eq_true, Bool.not_eq_true', List.all_eq_true, Bool.or_eq_true, beq_iff_eq]
  refine ⟨hi, ?_, fun j hjl => ?_⟩
  · cases h : isLo D i with
    | false => rfl
    | true => exact absurd (isLo_mem.1 h) hiD
  · by_cases h1 : j = i
    · exact .inl (.inl h1)
    · cases h2 : reach ops ops.size i j with
      | false => exact .inr rfl
      | true => exact .inl (.inr (isLo_mem.2 (hj j hjl h1 h2)))
theorem LP_nil {I : St → Prop} {ops : Array Oper} {los D : List Nat} {K : Env → St → Prop} (h : K E s) : LP P N I ops los K 0 D E s := h
end
end Go.VS
namespace Go.VS
open Go
section
variable {P : Program} {w w' : World} {s s' : St} {g g' : Gh} {E E' : Env} {N : NR} {a : Act} {Q : Ends}
/-- A row's cells, told with less. -/
theorem rcells_step (hst : StRel w s g) {b z : Nat} {es es' : List (List C)} (hl : look s.rows b = some (z, es)) (hlen : es'.length = es.length) (hz : ∀ x ∈ es', x.length = z)
    (hle : ∀ (i j : Nat) (hi : i < es.length) (hj : j < (es[i]).length) (hj' : j < (es'[i]'(by omega)).length) v, R w s g (es[i])[j] v → R w s g ((es'[i]'(by omega))[j]) v) :
    StRel w { s with rows := putAt s.rows b (z, es') } g ∧ Step w s g w { s with rows := putAt s.rows b (z, es') } g := by
  have hiS : ∀ k, (look (putAt s.rows b (z, es')) k).isSome = (look s.rows k).isSome := fun k => isSome_putAt _ _ _ _
  have hstep : Step w s g w { s with rows := putAt s.rows b (z, es') } g := by
    refine ⟨rfl, rfl, rfl, Nat.le_refl _, fun _ _ _ => rfl, fun a u hu ho => ⟨hu, fun h => ho ?_⟩, fun k hk h => ?_, fun _ _ => rfl, fun _ _ => rfl, Nat.le_refl _, fun _ _ _ h => h⟩
    · rcases h with h | h | h
      · exact .inl h
      · rw [hiS] at h; exact .inr (.inl h)
      · exact .inr (.inr h)
    · rcases h with h | h | h
      · exact .inl h
      · rw [hiS] at h; exact .inr (.inl h)
      · exact .inr (.inr h)
  refine ⟨hst.next hstep (fun k cs hk => .inl ⟨hk, rfl⟩) (fun k z' es2 hk => ?_) (fun r z0 L hr => ⟨(hst.toks r z0 L hr).1, .inl ⟨hr, rfl, fun _ _ _ _ => rfl⟩⟩) (fun k m hk => .inl ⟨hk, rfl⟩)
    (fun k h1 h2 => hst.d1 k h1 (by rw [← hiS]; exact h2)) (fun k r zL o c h1 h2 h3 => hst.d2 k r zL o c h1 h2 (h3.imp id fun h => by rw [← hiS]; exact h)) hst.d3, hstep⟩
  have hk' : look (putAt s.rows b (z, es')) k = some (z', es2) := hk
  rw [look_putAt] at hk'
  split at hk'
  · rename_i hkb
    subst hkb
    rw [hl] at hk'
    simp only [Option.map_some, Option.some.injEq, Prod.mk.injEq] at hk'
    obtain ⟨rfl, rfl⟩ := hk'
    obtain ⟨arr, e, h3, hrz, hne, hasz, hcm, hes, hel⟩ := hst.rows k _ es hl
    refine .inr ⟨arr, e, h3, hrz, by omega, hasz, hcm, hz, fun i j hi hj => ?_⟩
    have hj' : j < (es[i]'(by omega)).length := by rw [hes _ (List.getElem_mem _), ← hz _ (List.getElem_mem hi)]; exact hj
    obtain ⟨u, q1, q2⟩ := hel i j (by omega) hj'
    exact ⟨u, q1, (hle i j (by omega) hj' hj u q2).step hstep⟩
  · exact .inl ⟨hk', rfl⟩
/-- A row in a row is not written any more. -/
theorem W_freezer {c : Code} {b z : Nat} {es : List (List C)} {cs : List C} (i j z2 : Nat) {cj : C} (es2 : List (List C)) (R0 : Rows) (hl : look R0 b = some (z, es)) (hz : ∀ x ∈ es, x.length = z) (hi : es[i]? = some cs) (hj : cs[j]? = some cj)
    (hx : RowIn R0 s.rows cj z2 es2) (hone : es2.all (fun e => e.all one) = true) (h : W P N c E { s with rows := putAt R0 b (z, es.set i (cs.set j (.li none es2))) } Q) : W P N c E s Q :=
  W_ghost2 fun w g a hr => by
    have hsub := rows_sub (s := s) hx.old
    obtain ⟨hil, hiv⟩ := List.getElem?_eq_some_iff.1 hi
    obtain ⟨hjl, hjv⟩ := List.getElem?_eq_some_iff.1 hj
    have h1 := hsub.st hr.st
    have h2 := hsub.step w g
    obtain ⟨h4, h5⟩ := rcells_step (s := { s with rows := R0 }) (es' := es.set i (cs.set j (.li none es2))) h1 hl (by simp) (fun x hx => by
      rcases List.mem_or_eq_of_mem_set hx with hx | rfl
      · exact hz x hx
      · rw [List.length_set, ← hiv]; exact hz _ (List.getElem_mem hil)) (fun i' j' hi' hj' hj2 v hv => by
      by_cases e : i = i'
      · subst e
        simp only [List.getElem_set_self]
        by_cases e2 : j = j'
        · subst e2
          simp only [List.getElem_set_self]
          have hv' : R w { s with rows := R0 } g cj v := by
            have e3 : (es[i])[j] = cj := by rw [← hjv]; simp only [hiv]
            rw [← e3]; exact hv
          exact hx.froze hone hr.st (hx.back hv')
        · rw [List.getElem_set_ne e2]
          have e3 : (es[i])[j'] = cs[j']'(by rw [← hiv]; exact hj') := by simp only [hiv]
          rw [← e3]; exact hv
      · have e3 : ((es.set i (cs.set j (.li none es2)))[i']'(by simpa using hi'))[j']'hj2 = (es[i'])[j'] := by simp only [List.getElem_set_ne e]
        rw [e3]; exact hv)
    exact ⟨E, _, _, (hr.step h2 h1).step h5 h4, h2.trans h5, h⟩
/-- Three parts: what the first two leave goes to the third. -/
theorem W_seq3_k {x y z : Code} (h : ∀ K : Env → St → Prop, (∀ E' s', W P N z E' s' Q → K E' s') → W P N x E s (nextQ (fun E' s' => W P N y E' s' (nextQ K Q)) Q)) : W P N (.seq x (.seq y z)) E s Q :=
  W_seq ((h _ fun _ _ h => h).mono fun e E' s' hp => by
    cases e <;> first
      | exact W_seq hp
      | exact hp)
def retN (P : Program) (rs : List ResultVar) (K : KR) (Kp : KP) : Ends
  | .normal, E, s => E.ds = [] ∧ ∃ c, resC P rs E.f s = some c ∧ ∃ s', Sub s s' ∧ K c s'
  | .ret, E, s => E.ds = [] ∧ ∃ c, resC P rs E.f s = some c ∧ ∃ s', Sub s s' ∧ K c s'
  | .panic ch, E, s => E.ds = [] ∧ ∃ s', Sub s s' ∧ Kp ch s'
  | _, _, _ => False
theorem retN_ret (rs : List ResultVar) (K : KR) (Kp : KP) (E : Env) (s : St) : retN P rs K Kp .ret E s = (E.ds = [] ∧ ∃ c, resC P rs E.f s = some c ∧ ∃ s', Sub s s' ∧ K c s') := id rfl
theorem retN_normal (rs : List ResultVar) (K : KR) (Kp : KP) (E : Env) (s : St) : retN P rs K Kp .normal E s = (E.ds = [] ∧ ∃ c, resC P rs E.f s = some c ∧ ∃ s', Sub s s' ∧ K c s') := id rfl
/-- A function without deferred calls whose result is told as it is: nil stays nil. -/
theorem CallC_ofN {k : FuncId} {fn : Func} {c : Code} {args : List C} {K : KR} {Kp : KP} (hf : P.funcs[k]? = some fn) (hb : fn.body = some c) (hname : (fn.name == "runtime.NumGoroutine") = false) {n : Nat} (hN : fn.ntmps = n) (hl : args.length ≤ n)
    (h : W P ⟨n, none⟩ c (env0 args) s (retN P fn.results.toList K Kp)) : CallC P k args s K Kp := by
  refine ⟨callable_of hf (by rw [hb]; rfl) hname, fun w g vals hst hn hr => calls_of_wp hf hb ?_⟩
  rw [hN]
  refine Code.wp_mono (fun e a' w' hp => ?_) (wpIn_wide.1 (h w g _ (Rel.env0 hst hn hr hl)))
  cases e with
  | normal =>
    obtain ⟨E', s', g', h1, h2, h3, c, h4, s'', h5, h6⟩ := hp
    obtain ⟨v, h7, h8⟩ := resC_run (P := P) h1 h4
    exact ⟨h1.ds.trans h3, v, h7, c, s'', g', h5.st h1.st, h2.trans (h5.step _ _), h8.step (h5.step _ _), h6⟩
  | ret =>
    obtain ⟨E', s', g', h1, h2, h3, c, h4, s'', h5, h6⟩ := hp
    obtain ⟨v, h7, h8⟩ := resC_run (P := P) h1 h4
    exact ⟨h1.ds.trans h3, v, h7, c, s'', g', h5.st h1.st, h2.trans (h5.step _ _), h8.step (h5.step _ _), h6⟩
  | panic ch =>
    obtain ⟨E', s', g', h1, h2, h3, s'', h5, h6⟩ := hp
    exact ⟨h1.ds.trans h3, s'', g', h5.st h1.st, h2.trans (h5.step _ _), h6⟩
  | exit id => obtain ⟨_, _, _, _, _, h⟩ := hp; exact h
  | goto l => obtain ⟨_, _, _, _, _, h⟩ := hp; exact h
  | outgrown => exact hp
end
attribute [go_sem] retN_ret retN_normal
end Go.VS
namespace Go.Proofs.YtpmknffollpnaaaGreat
open Go Go.VS
theorem intsE_snoc (a : List Int) (x : Int) : intsE a ++ [[I x]] = intsE (a ++ [x]) := by rw [intsE_append]; rfl
theorem pgsE_all (l : List Pg) : ∀ q ∈ pgsE l, q.length = 10 := by
  intro q hq
  obtain ⟨p, _, rfl⟩ := List.mem_map.1 hq
  rfl
theorem pgC_strip (p : Pg) : (pgC p).map dropA = pgC p := rfl
set_option maxRecDepth 4000 in
theorem numbersR_c (l : List Pg) (hl : l.length ≤ 1000000000) : Pure Tryz.prog 123 [LPg l] (LI (l.map (·.no))) := by
  intro s
  refine CallC_of Tryz.func123 rfl (by rfl) Tryz.ntmps123 (by simp) ?_
  refine W_seq (W_reg ?_)
  simp [go_sem]
  refine W_seq (W_reg ?_)
  simp [go_sem]
  refine W_tok 3 1 (by simp [go_sem]) fun r hr => ?_
  refine W_seq (W_seq (W_reg ?_))
  simp [go_sem]
  refine W_for l.length (fun k L s' => L = [(0, LPg l), (4, I k), (3, .li (some r) (intsE ((l.take k).map (·.no))))] ∧ TokI s s' r 1 k)
    (l0 := [(0, LPg l), (4, I 0), (3, .li (some r) [])]) (ds := []) ⟨rfl, TokI.init hr⟩ (by simp [go_sem]) rfl ?_
  rintro k _ s2 hk ⟨rfl, hT⟩ K hK
  refine W_reg ?_
  simp [go_sem, pgsE_length]
  refine hK _ _ (decide (k < l.length)) [(0, LPg l), (4, I k), (3, .li (some r) (intsE ((l.take k).map (·.no))))] (by simp [go_sem]) (by simp [go_sem]) (by simp [go_sem]) (fun hlt => ?_) (fun hge => ?_)
  · simp only [decide_eq_true_eq] at hlt
    have hw := wrap_succ hlt (by omega)
    have hlen : ((l.take k).map (·.no)).length = k := by simp; omega
    refine ⟨hlt, W_reg ?_⟩
    simp [go_sem, pgsE_get, hlt, pgC]
    refine WL_push (s0 := s) (z := 1) (es := intsE ((l.take k).map (·.no))) (new := [I l[k].no]) (by rw [intsE_length, hlen]; exact hT) tel_23 (by simp [go_sem]) (by simp [go_sem]) (by simp [go_sem]) (by simp [go_sem]) (by simp [go_sem]) (by simp [go_sem]) (fun c => by simp [go_sem]) (by simp) (by simp [go_sem]) (intsE_len _) (by rw [intsE_length, hlen]; simp [go_sem]; omega) (by simp) (by simp) fun s4 hT4 _ _ _ _ c1 => WL_run _ _ _ ?_
    have he : intsE ((l.take k).map (·.no)) ++ [[I l[k].no]] = intsE ((l.take (k + 1)).map (·.no)) := by
      rw [intsE_snoc, List.take_succ_eq_append_getElem hlt, List.map_append]; rfl
    rw [he] at hT4 ⊢
    have hlen2 : ((l.take (k + 1)).map (·.no)).length = k + 1 := by simp; omega
    rw [intsE_length, hlen2] at hT4
    simp [go_sem]
    refine W_reg ?_
    simp [go_sem, hw]
    exact ⟨_, ⟨rfl, hT4⟩, by simp [go_sem]⟩
  · simp only [decide_eq_false_iff_not] at hge
    simp only [go_sem]
    refine W_seq (W_reg ?_)
    simp [go_sem]
    refine W_ret ?_
    simp only [go_sem]
    have hfull : List.take k (l.map (·.no)) = l.map (·.no) := List.take_of_length_le (by simp; omega)
    exact ⟨trivial, _, rfl, s, hT.sub, by simp [go_sem, hfull], rfl⟩
set_option maxRecDepth 4000 in
theorem numbersOf_c (l : List Pg) (hl : l.length ≤ 1000000000) : Pure Tryz.prog 115 [LPg l] (LI (l.map (·.no))) := by
  intro s
  refine CallC_of Tryz.func115 rfl (by rfl) Tryz.ntmps115 (by simp) ?_
  refine W_seq (W_reg ?_)
  simp [go_sem]
  refine W_seq (W_reg ?_)
  simp [go_sem]
  refine W_tok 3 1 (by simp [go_sem]) fun r hr => ?_
  refine W_seq_k fun K hK => W_seq (W_reg ?_)
  simp [go_sem, pgsE_length]
  refine W_range l.length (fun k L s' => L = [(6, LPg l), (3, .li (some r) (intsE ((l.take k).map (·.no))))] ∧ TokI s s' r 1 k) (l0 := [(6, LPg l), (3, .li (some r) [])]) (ds := []) (by omega) (by decide)
    ⟨rfl, TokI.init hr⟩ (by simp [go_sem]) rfl (by rintro k _ _ ⟨rfl, _⟩; simp [notIn]) ?_ ?_
  · rintro k _ s1 hk ⟨rfl, hT⟩
    have hlen : ((l.take k).map (·.no)).length = k := by simp; omega
    refine W_seq (W_reg ?_)
    simp [go_sem, pgsE_get, hk]
    refine WL_alloc tzero_89 (by simp) fun bx hbx => WL_run _ _ _ ?_
    simp [go_sem, pgC]
    refine W_reg ?_
    simp [go_sem, VS.look]
    refine WL_push (s0 := s) (z := 1) (es := intsE ((l.take k).map (·.no))) (new := [I l[k].no]) (by rw [intsE_length, hlen]; exact hT.obj hbx _) tel_23 (by simp [go_sem]) (by simp [go_sem]) (by simp [go_sem]) (by simp [go_sem]) (by simp [go_sem]) (by simp [go_sem]) (fun c => by simp [go_sem]) (by simp) (by simp [go_sem]) (intsE_len _) (by rw [intsE_length, hlen]; simp [go_sem]; omega) (by simp) (by simp) fun s4 hT4 _ _ _ _ c1 => WL_run _ _ _ ?_
    have he : intsE ((l.take k).map (·.no)) ++ [[I l[k].no]] = intsE ((l.take (k + 1)).map (·.no)) := by
      rw [intsE_snoc, List.take_succ_eq_append_getElem hk, List.map_append]; rfl
    rw [he] at hT4 ⊢
    have hlen2 : ((l.take (k + 1)).map (·.no)).length = k + 1 := by simp; omega
    rw [intsE_length, hlen2] at hT4
    simp [go_sem]
    exact ⟨_, ⟨rfl, hT4⟩, by simp [go_sem]⟩
  · rintro _ s1 x ⟨rfl, hT⟩
    simp only [go_sem]
    refine hK _ _ (W_seq (W_reg ?_))
    simp [go_sem]
    refine W_ret ?_
    simp only [go_sem]
    exact ⟨trivial, _, rfl, s, hT.sub, by simp [go_sem], rfl⟩
theorem equalI_c (a b : List Int) (hla : a.length ≤ 1000000000) : Pure Tryz.prog 126 [LI a, LI b] (Bo (decide (a = b))) := by
  intro s
  refine CallC_of Tryz.func126 rfl (by rfl) Tryz.ntmps126 (by simp) ?_
  refine W_seq (W_reg ?_)
  simp [go_sem]
  refine W_seq (W_seq (W_reg ?_))
  simp [go_sem, intsE_length]
  by_cases hl : a.length = b.length
  · refine W_ifs false (by simp [go_sem, hl]) (fun h => by cases h) (fun _ => W_skip ?_)
    simp only [go_sem]
    refine W_seq_k fun K hK => W_seq (W_reg ?_)
    simp [go_sem, intsE_length]
    refine W_range a.length (fun k l s' => l = [(11, LI a), (0, LI a), (1, LI b)] ∧ s' = s ∧ ∀ j, j < k → a[j]? = b[j]?) (l0 := [(11, LI a), (0, LI a), (1, LI b)]) (ds := []) (by omega) (by decide)
      ⟨rfl, rfl, fun j hj => by omega⟩ (by simp [go_sem]) rfl (by rintro k _ _ ⟨rfl, _⟩; simp [notIn]) ?_ ?_
    · rintro k _ s1 hk ⟨rfl, rfl, hall⟩
      have hkb : k < b.length := by omega
      refine W_seq (W_reg ?_)
      simp [go_sem]
      refine W_seq_k fun K2 hK2 => W_drawr 9 Tryz.mixed (by kernel_rfl) ?_
      simp [go_sem, intsE_get, hk, hkb]
      refine hK2 _ _ ?_
      by_cases he : a[k] = b[k]
      · refine W_ifs false (by simp [go_sem, he]) (fun h => by cases h) (fun _ => W_skip ?_)
        simp only [go_sem]
        refine ⟨_, ⟨rfl, trivial, fun j hj => ?_⟩, by simp [go_sem]⟩
        rcases Nat.lt_succ_iff_lt_or_eq.1 hj with hj | hj
        · exact hall j hj
        · rw [hj]; simp [hk, hkb, he]
      · refine W_ifs true (by simp [go_sem, he]) (fun _ => W_seq (W_reg ?_)) (fun h => by cases h)
        simp [go_sem]
        refine W_ret ?_
        simp only [go_sem]
        refine ⟨trivial, _, rfl, s1, Sub.refl _, ?_, rfl⟩
        have : a ≠ b := fun e => he (by subst e; rfl)
        simp [this, go_sem]
    · rintro _ s1 x ⟨rfl, rfl, hall⟩
      simp only [go_sem]
      refine hK _ _ (W_seq (W_reg ?_))
      simp [go_sem]
      refine W_ret ?_
      simp only [go_sem]
      refine ⟨trivial, _, rfl, s1, Sub.refl _, ?_, rfl⟩
      have : a = b := List.ext_getElem? fun j => by
        by_cases hj : j < a.length
        · exact hall j hj
        · rw [List.getElem?_eq_none (by omega), List.getElem?_eq_none (by omega)]
      simp [this, go_sem]
  · have hl' : ¬ (a.length : Int) = b.length := by omega
    refine W_ifs true (by simp [go_sem, hl, hl']) (fun _ => W_seq (W_reg ?_)) (fun h => by cases h)
    simp [go_sem]
    refine W_ret ?_
    simp only [go_sem]
    refine ⟨trivial, _, rfl, s, Sub.refl _, ?_, rfl⟩
    have : a ≠ b := fun e => hl (by rw [e])
    simp [this, go_sem]
theorem frC_strip (f : Fr) : (frC f).map dropA = frC f := rfl
theorem same161_c (x y : Fr) (hx : x.p.length ≤ 1000000000) : Pure Tryz.prog 161 [.agg (frC x), .agg (frC y)] (Bo (decide (x = y))) := by
  intro s
  refine CallC_of Tryz.func161 rfl (by rfl) Tryz.ntmps161 (by simp) ?_
  refine W_seq (W_reg ?_)
  simp [go_sem]
  refine WL_box (by simp [go_sem, frC]) (by simp) fun b2 hb2 => WL_run _ _ _ ?_
  simp [go_sem]
  refine WL_box (by simp [go_sem, frC]) (by simp) fun b3 hb3 => WL_run _ _ _ ?_
  simp [go_sem, frC]
  have hn : b2 ≠ b3 := fun e => by subst e; have := hb3.1; simp [VS.look] at this
  have v2 : VS.look (St.mk ((b3, frC y) :: (b2, frC x) :: s.objs) s.rows s.toks s.maps).objs b2 = some [I x.v, LI x.p] := by simp [VS.look, Ne.symm hn, frC]
  have v3 : VS.look (St.mk ((b3, frC y) :: (b2, frC x) :: s.objs) s.rows s.toks s.maps).objs b3 = some [I y.v, LI y.p] := by simp [VS.look, frC]
  have hsub := Sub.trans (sub_obj hb3 (frC y)) (sub_obj hb2 (frC x))
  refine (fun (h : ∀ s1 : St, VS.look s1.objs b2 = some [I x.v, LI x.p] → VS.look s1.objs b3 = some [I y.v, LI y.p] → Sub s1 s → W Tryz.prog ⟨17, none⟩ _ _ s1 _) => h _ v2 v3 hsub) ?_
  clear v2 v3 hsub hb2 hb3 hn
  intro s1 v2 v3 hsub
  refine W_keep [(2, ptr b2 0), (3, ptr b3 0)] (by simp [go_sem]) ?_
  by_cases hv : x.v = y.v
  · refine W_seq (W_reg ?_)
    simp [go_sem, v2, v3, hv]
    refine Pure.use (equalI_c x.p y.p hx) ?_
    simp [go_sem]
    refine W_ret ?_
    simp only [go_sem]
    refine ⟨trivial, _, rfl, s, hsub, ?_, rfl⟩
    simp [go_sem, fr_eq, hv]
  · refine W_seq (W_reg ?_)
    have hv' : (x.v == y.v) = false := by simpa using hv
    simp [go_sem, v2, v3, hv']
    refine W_ret ?_
    simp only [go_sem]
    refine ⟨trivial, _, rfl, s, hsub, ?_, rfl⟩
    simp [go_sem, fr_eq, hv]
end Go.Proofs.YtpmknffollpnaaaGreat
namespace Go.Proofs.YtpmknffollpnaaaGreat
open Go Go.VS
theorem same125_c (x y : Fr) (hx : x.p.length ≤ 1000000000) : Pure Tryz.prog 125 [.agg (frC x), .agg (frC y)] (Bo (decide (x = y))) := by
  intro s
  refine CallC_of Tryz.func125 rfl (by rfl) Tryz.ntmps125 (by simp) ?_
  refine W_seq (W_reg ?_)
  simp [go_sem]
  refine WL_box (by simp [go_sem, frC]) (by simp) fun b2 hb2 => WL_run _ _ _ ?_
  simp [go_sem]
  refine WL_box (by simp [go_sem, frC]) (by simp) fun b3 hb3 => WL_run _ _ _ ?_
  simp [go_sem, frC]
  have hn : b2 ≠ b3 := fun e => by subst e; have := hb3.1; simp [VS.look] at this
  have v2 : VS.look (St.mk ((b3, frC y) :: (b2, frC x) :: s.objs) s.rows s.toks s.maps).objs b2 = some [I x.v, LI x.p] := by simp [VS.look, Ne.symm hn, frC]
  have v3 : VS.look (St.mk ((b3, frC y) :: (b2, frC x) :: s.objs) s.rows s.toks s.maps).objs b3 = some [I y.v, LI y.p] := by simp [VS.look, frC]
  have hsub := Sub.trans (sub_obj hb3 (frC y)) (sub_obj hb2 (frC x))
  refine (fun (h : ∀ s1 : St, VS.look s1.objs b2 = some [I x.v, LI x.p] → VS.look s1.objs b3 = some [I y.v, LI y.p] → Sub s1 s → W Tryz.prog ⟨17, none⟩ _ _ s1 _) => h _ v2 v3 hsub) ?_
  clear v2 v3 hsub hb2 hb3 hn
  intro s1 v2 v3 hsub
  refine W_keep [(2, ptr b2 0), (3, ptr b3 0)] (by simp [go_sem]) ?_
  by_cases hv : x.v = y.v
  · refine W_seq (W_reg ?_)
    simp [go_sem, v2, v3, hv]
    refine Pure.use (equalI_c x.p y.p hx) ?_
    simp [go_sem]
    refine W_ret ?_
    simp only [go_sem]
    refine ⟨trivial, _, rfl, s, hsub, ?_, rfl⟩
    simp [go_sem, fr_eq, hv]
  · refine W_seq (W_reg ?_)
    have hv' : (x.v == y.v) = false := by simpa using hv
    simp [go_sem, v2, v3, hv']
    refine W_ret ?_
    simp only [go_sem]
    refine ⟨trivial, _, rfl, s, hsub, ?_, rfl⟩
    simp [go_sem, fr_eq, hv]
set_option maxRecDepth 4000 in
theorem equalF_c (k : Nat) (a b : List Fr) (hla : a.length ≤ 1000000000) (hp : ∀ f ∈ a, f.p.length ≤ 1000000000) (hk : ∀ x y : Fr, x.p.length ≤ 1000000000 → Pure Tryz.prog k [.agg (frC x), .agg (frC y)] (Bo (decide (x = y)))) :
    Pure Tryz.prog 124 [LF a, LF b, fnC k] (Bo (decide (a = b))) := by
  intro s
  refine CallC_of Tryz.func124 rfl (by rfl) Tryz.ntmps124 (by simp) ?_
  refine W_seq (W_reg ?_)
  simp [go_sem]
  refine W_seq (W_seq (W_reg ?_))
  simp [go_sem, frsE_length]
  by_cases hl : a.length = b.length
  · refine W_ifs false (by simp [go_sem, hl]) (fun h => by cases h) (fun _ => W_skip ?_)
    simp only [go_sem]
    refine W_seq_k fun K hK => W_seq (W_reg ?_)
    simp [go_sem, frsE_length]
    refine W_range a.length (fun j l s' => l = [(15, LF a), (0, LF a), (1, LF b), (2, fnC k)] ∧ Sub s' s ∧ ∀ i, i < j → a[i]? = b[i]?) (l0 := [(15, LF a), (0, LF a), (1, LF b), (2, fnC k)]) (ds := []) (by omega) (by decide)
      ⟨rfl, Sub.refl _, fun j hj => by omega⟩ (by simp [go_sem]) rfl (by rintro k _ _ ⟨rfl, _⟩; simp [notIn]) ?_ ?_
    · rintro j _ s1 hj ⟨rfl, hsub, hall⟩
      have hjb : j < b.length := by omega
      refine W_seq (W_reg ?_)
      simp [go_sem, frsE_get, hj]
      refine WL_alloc tzero_64 (by simp) fun b8 hb8 => WL_run _ _ _ ?_
      simp [go_sem, frC]
      refine W_seq (W_reg ?_)
      simp [go_sem, frsE_get, hjb]
      refine WL_alloc tzero_64 (by simp) fun b9 hb9 => WL_run _ _ _ ?_
      simp [go_sem, frC]
      have h1 := hb9.1
      have hn : b8 ≠ b9 := fun e => by subst e; simp [VS.look] at h1
      refine W_seq (W_reg ?_)
      simp [go_sem, VS.look, hn, Ne.symm hn]
      refine Pure.use (hk a[j] b[j] (hp _ (List.getElem_mem hj))) ?_
      simp [go_sem]
      have hs2 : Sub { objs := (b9, frC b[j]) :: (b8, frC a[j]) :: s1.objs, rows := s1.rows, toks := s1.toks, maps := s1.maps } s1 := Sub.trans (sub_obj hb9 _) (sub_obj hb8 _)
      by_cases he : a[j] = b[j]
      · refine W_ifs false (by simp [go_sem, he]) (fun h => by cases h) (fun _ => W_skip ?_)
        simp only [go_sem]
        refine ⟨_, ⟨rfl, Sub.trans hs2 hsub, fun i hi => ?_⟩, by simp [go_sem]⟩
        rcases Nat.lt_succ_iff_lt_or_eq.1 hi with hi | hi
        · exact hall i hi
        · rw [hi]; simp [hj, hjb, he]
      · refine W_ifs true (by simp [go_sem, he]) (fun _ => W_seq (W_reg ?_)) (fun h => by cases h)
        simp [go_sem]
        refine W_ret ?_
        simp only [go_sem]
        refine ⟨trivial, _, rfl, s, Sub.trans hs2 hsub, ?_, rfl⟩
        have : a ≠ b := fun e => he (by subst e; rfl)
        simp [this, go_sem]
    · rintro _ s1 x ⟨rfl, hsub, hall⟩
      simp only [go_sem]
      refine hK _ _ (W_seq (W_reg ?_))
      simp [go_sem]
      refine W_ret ?_
      simp only [go_sem]
      refine ⟨trivial, _, rfl, s, hsub, ?_, rfl⟩
      have : a = b := List.ext_getElem? fun j => by
        by_cases hj : j < a.length
        · exact hall j hj
        · rw [List.getElem?_eq_none (by omega), List.getElem?_eq_none (by omega)]
      simp [this, go_sem]
  · have hl' : ¬ (a.length : Int) = b.length := by omega
    refine W_ifs true (by simp [go_sem, hl, hl']) (fun _ => W_seq (W_reg ?_)) (fun h => by cases h)
    simp [go_sem]
    refine W_ret ?_
    simp only [go_sem]
    refine ⟨trivial, _, rfl, s, Sub.refl _, ?_, rfl⟩
    have : a ≠ b := fun e => hl (by rw [e])
    simp [this, go_sem]
def plainB (p : Pg) : Bool := decide (p.tree = 0) && decide (p.level = 0) && !p.top && decide (p.ents.length = 0)
theorem plain_c (p : Pg) : Pure Tryz.prog 160 [.agg (pgC p)] (Bo (plainB p)) := by
  intro s
  refine CallC_of Tryz.func160 rfl (by rfl) Tryz.ntmps160 (by simp) ?_
  refine W_seq (W_reg ?_)
  simp [go_sem]
  refine WL_box (by simp [go_sem, pgC]) (by simp) fun b1 hb1 => WL_run _ _ _ ?_
  simp [go_sem]
  have hsub := sub_obj hb1 (pgC p)
  have v1 : VS.look (St.mk ((b1, pgC p) :: s.objs) s.rows s.toks s.maps).objs b1 = some (pgC p) := by simp [VS.look]
  refine (fun (h : ∀ s1 : St, VS.look s1.objs b1 = some (pgC p) → Sub s1 s → W Tryz.prog ⟨22, none⟩ _ _ s1 _) => h _ v1 hsub) ?_
  clear v1 hsub hb1
  intro s1 v1 hsub
  simp only [pgC] at v1
  refine W_keep [(1, ptr b1 0)] (by simp [go_sem]) ?_
  have key : ∀ t, t = plainB p → (∀ E' : Env, E'.ds = [] → E'.f 2 = Bo t → W Tryz.prog ⟨22, none⟩ .ret E' s1 (retQ Tryz.prog [.tmp 2] (fun c s2 => c = Bo (plainB p) ∧ s2 = s) (fun _ _ => False))) := by
    intro t ht E' h1 h2
    refine W_ret ?_
    simp only [go_sem]
    refine ⟨h1, _, rfl, s, hsub, ?_, rfl⟩
    rw [h2, ht]; simp [go_sem]
  have nb : ∀ x y : Int, x ≠ y → (x == y) = false := fun x y h => by simpa using h
  by_cases c1 : p.tree = 0
  · by_cases c2 : p.level = 0
    · cases c3 : p.top with
      | false =>
        refine W_seq (W_reg ?_)
        simp [go_sem, v1, c1, c2, c3, ensE_length]
        exact key (decide (p.ents.length = 0)) (by simp [plainB, c1, c2, c3]) _ (by simp [go_sem]) (by
          simp [go_sem]
          cases p.ents
          · rfl
          · simp; omega)
      | true =>
        refine W_seq (W_reg ?_)
        simp [go_sem, v1, c1, c2, c3]
        exact key false (by simp [plainB, c3]) _ (by simp [go_sem]) (by simp [go_sem])
    · have d := nb _ _ c2
      refine W_seq (W_reg ?_)
      simp [go_sem, v1, c1, d]
      exact key false (by simp [plainB, c2]) _ (by simp [go_sem]) (by simp [go_sem])
  · have d := nb _ _ c1
    refine W_seq (W_reg ?_)
    simp [go_sem, v1, d]
    exact key false (by simp [plainB, c1]) _ (by simp [go_sem]) (by simp [go_sem])
def psame (p q : Pg) : Bool := decide (p.kind = q.kind ∧ p.no = q.no ∧ p.ver = q.ver ∧ p.next = q.next ∧ p.data = q.data) && plainB p && plainB q && decide (p.fr = q.fr)
set_option maxRecDepth 4000 in
theorem psame_c (p q : Pg) (hl : p.fr.length ≤ 1000000000) (hp : ∀ f ∈ p.fr, f.p.length ≤ 1000000000) : Pure Tryz.prog 117 [.agg (pgC p), .agg (pgC q)] (Bo (psame p q)) := by
  intro s
  refine CallC_of Tryz.func117 rfl (by rfl) Tryz.ntmps117 (by simp) ?_
  refine W_seq (W_reg ?_)
  simp [go_sem]
  refine WL_box (by simp [go_sem, pgC]) (by simp) fun b2 hb2 => WL_run _ _ _ ?_
  simp [go_sem]
  refine WL_box (by simp [go_sem, pgC]) (by simp) fun b3 hb3 => WL_run _ _ _ ?_
  simp [go_sem]
  have hn : b2 ≠ b3 := fun e => by subst e; have := hb3.1; simp [VS.look] at this
  have v2 : VS.look (St.mk ((b3, pgC q) :: (b2, pgC p) :: s.objs) s.rows s.toks s.maps).objs b2 = some (pgC p) := by simp [VS.look, Ne.symm hn]
  have v3 : VS.look (St.mk ((b3, pgC q) :: (b2, pgC p) :: s.objs) s.rows s.toks s.maps).objs b3 = some (pgC q) := by simp [VS.look]
  have hsub := Sub.trans (sub_obj hb3 (pgC q)) (sub_obj hb2 (pgC p))
  refine (fun (h : ∀ s1 : St, VS.look s1.objs b2 = some (pgC p) → VS.look s1.objs b3 = some (pgC q) → Sub s1 s → W Tryz.prog ⟨53, none⟩ _ _ s1 _) => h _ v2 v3 hsub) ?_
  clear v2 v3 hsub hb2 hb3 hn
  intro s1 v2 v3 hsub
  have hP := plain_c p
  have hQ := plain_c q
  simp only [pgC] at v2 v3 hP hQ
  refine W_keep [(2, ptr b2 0), (3, ptr b3 0)] (by simp [go_sem]) ?_
  refine W_seq (W_seq_k fun K hK => W_reg ?_)
  have key : ∀ E' t, Has E' [(47, Bo t), (2, ptr b2 0), (3, ptr b3 0)] → E'.ds = [] → (t = true → psame p q = false) → (t = false → psame p q = decide (p.fr = q.fr)) → K E' s1 := fun E' t h1 h2 ht hf => hK _ _ (W_keep _ h1 (by
    rw [h2]
    refine W_ifs t (by simp [go_sem]) (fun h => W_seq (W_reg ?_)) (fun h => W_skip ?_)
    · simp [go_sem]
      refine W_ret ?_
      simp only [go_sem]
      refine ⟨trivial, _, rfl, s, hsub, ?_, rfl⟩
      simp [ht h, go_sem]
    · simp only [go_sem]
      refine W_keep [(2, ptr b2 0), (3, ptr b3 0)] (by simp [go_sem]) ?_
      refine W_seq (W_reg ?_)
      simp [go_sem, v2, v3]
      refine Pure.use (equalF_c 161 p.fr q.fr hl hp same161_c) ?_
      simp [go_sem]
      refine W_ret ?_
      simp only [go_sem]
      refine ⟨trivial, _, rfl, s, hsub, ?_, rfl⟩
      simp [go_sem, hf h]))
  have nb : ∀ x y : Int, x ≠ y → (x == y) = false := fun x y h => by simpa using h
  by_cases c1 : p.kind = q.kind
  · by_cases c2 : p.no = q.no
    · by_cases c3 : p.ver = q.ver
      · by_cases c4 : p.next = q.next
        · have hdat := bytesNe p.data q.data
          by_cases c5 : p.data = q.data
          · cases c6 : plainB p with
            | true =>
              rw [c6] at hP
              rw [c5] at hdat v2 hP
              rw [c1, c2, c3, c4] at hP
              simp [go_sem, v2, v3, c1, c2, c3, c4, bne]
              refine Pure.use hP ?_
              simp [go_sem, v3]
              refine Pure.use hQ ?_
              simp [go_sem]
              exact key _ (!plainB q) (by simp [go_sem]) (by simp [go_sem]) (fun h => by simp [psame] at h ⊢; simp [h]) (fun h => by simp at h; simp [psame, c1, c2, c3, c4, c5, c6, h])
            | false =>
              rw [c6] at hP
              rw [c5] at hdat v2 hP
              rw [c1, c2, c3, c4] at hP
              simp [go_sem, v2, v3, c1, c2, c3, c4, bne]
              refine Pure.use hP ?_
              simp [go_sem]
              exact key _ true (by simp [go_sem]) (by simp [go_sem]) (fun h => by simp [psame, c6]) (fun h => by cases h)
          · have hd : (p.data.toList == q.data.toList) = false := by
              have := hdat
              simp [c5] at this
              simpa using this
            simp [go_sem, v2, v3, c1, c2, c3, c4, bne, hd]
            exact key _ true (by simp [go_sem]) (by simp [go_sem]) (fun h => by simp [psame, c5]) (fun h => by cases h)
        · have d := nb _ _ c4
          simp [go_sem, v2, v3, c1, c2, c3, d, bne]
          exact key _ true (by simp [go_sem]) (by simp [go_sem]) (fun h => by simp [psame, c4]) (fun h => by cases h)
      · have d := nb _ _ c3
        simp [go_sem, v2, v3, c1, c2, d, bne]
        exact key _ true (by simp [go_sem]) (by simp [go_sem]) (fun h => by simp [psame, c3]) (fun h => by cases h)
    · have d := nb _ _ c2
      simp [go_sem, v2, v3, c1, d, bne]
      exact key _ true (by simp [go_sem]) (by simp [go_sem]) (fun h => by simp [psame, c2]) (fun h => by cases h)
  · have d := nb _ _ c1
    simp [go_sem, v2, v3, d, bne]
    exact key _ true (by simp [go_sem]) (by simp [go_sem]) (fun h => by simp [psame, c1]) (fun h => by cases h)
end Go.Proofs.YtpmknffollpnaaaGreat
namespace Go.VS
open Go
theorem Pure.leR {P : Program} {k : FuncId} {args : List C} {r r' : C} (h : Pure P k args r) (hl : Le r r') : Pure P k args r' := fun s =>
  ⟨(h s).1, fun w g vals hs hn hr => ((h s).2 w g vals hs hn hr).mono fun e w' he => by
    cases e with
    | returned v => obtain ⟨c, s', g', q1, q2, q3, q4, q5⟩ := he; subst q4; exact ⟨r', s', g', q1, q2, hl.R q3, rfl, q5⟩
    | panicked ch => exact he
    | outgrown => exact he⟩
theorem Pure.leT {P : Program} {k : FuncId} {args : List C} {cs cs' : List C} (h : Pure P k args (.tup cs)) (hl : F2 Le cs cs') : Pure P k args (.tup cs') := fun s =>
  ⟨(h s).1, fun w g vals hs hn hr => ((h s).2 w g vals hs hn hr).mono fun e w' he => by
    cases e with
    | returned v =>
      obtain ⟨c, s', g', q1, q2, q3, q4, q5⟩ := he
      subst q4
      refine ⟨_, s', g', q1, q2, ?_, rfl, q5⟩
      obtain ⟨vs, hn', rfl, hr'⟩ := q3.tup_inv
      exact .tup _ vs (by rw [← hl.1]; exact hn') (fun j hj => (hl.2 j (by rw [hl.1]; exact hj) hj).R (hr' j (by rw [hl.1]; exact hj)))
    | panicked ch => exact he
    | outgrown => exact he⟩
end Go.VS
namespace Go.Proofs.YtpmknffollpnaaaGreat
open Go Go.VS
theorem psame_eq (p q : Pg) (h : plainB q = true) : psame p q = decide (p = q) := by
  simp only [plainB, Bool.and_eq_true, decide_eq_true_eq, Bool.not_eq_true'] at h
  obtain ⟨⟨⟨h1, h2⟩, h3⟩, h4⟩ := h
  have h4' : q.ents = [] := List.eq_nil_of_length_eq_zero h4
  rw [Bool.eq_iff_iff]
  simp only [psame, plainB, Bool.and_eq_true, decide_eq_true_eq, Bool.not_eq_true']
  constructor
  · rintro ⟨⟨⟨⟨a1, a2, a3, a4, a5⟩, ⟨⟨b1, b2⟩, b3⟩, b4⟩, _⟩, a6⟩
    have b4' : p.ents = [] := List.eq_nil_of_length_eq_zero b4
    cases p; cases q
    simp_all
  · rintro rfl
    simp [h1, h2, h3, h4]
set_option maxRecDepth 4000 in
theorem equalP_c (a b : List Pg) (hla : a.length ≤ 1000000000) (hp : ∀ p ∈ a, p.fr.length ≤ 1000000000 ∧ ∀ f ∈ p.fr, f.p.length ≤ 1000000000) (hb : ∀ q ∈ b, plainB q = true) :
    Pure Tryz.prog 116 [LPg a, LPg b, fnC 117] (Bo (decide (a = b))) := by
  intro s
  refine CallC_of Tryz.func116 rfl (by rfl) Tryz.ntmps116 (by simp) ?_
  refine W_seq (W_reg ?_)
  simp [go_sem]
  refine W_seq (W_seq (W_reg ?_))
  simp [go_sem, pgsE_length]
  by_cases hl : a.length = b.length
  · refine W_ifs false (by simp [go_sem, hl]) (fun h => by cases h) (fun _ => W_skip ?_)
    simp only [go_sem]
    refine W_seq_k fun K hK => W_seq (W_reg ?_)
    simp [go_sem, pgsE_length]
    refine W_range a.length (fun j l s' => l = [(15, LPg a), (0, LPg a), (1, LPg b), (2, fnC 117)] ∧ Sub s' s ∧ ∀ i, i < j → a[i]? = b[i]?) (l0 := [(15, LPg a), (0, LPg a), (1, LPg b), (2, fnC 117)]) (ds := []) (by omega) (by decide)
      ⟨rfl, Sub.refl _, fun j hj => by omega⟩ (by simp [go_sem]) rfl (by rintro k _ _ ⟨rfl, _⟩; simp [notIn]) ?_ ?_
    · rintro j _ s1 hj ⟨rfl, hsub, hall⟩
      have hjb : j < b.length := by omega
      refine W_seq (W_reg ?_)
      simp [go_sem, pgsE_get, hj]
      refine WL_alloc tzero_89 (by simp) fun b8 hb8 => WL_run _ _ _ ?_
      simp [go_sem, pgC]
      refine W_seq (W_reg ?_)
      simp [go_sem, pgsE_get, hjb]
      refine WL_alloc tzero_89 (by simp) fun b9 hb9 => WL_run _ _ _ ?_
      simp [go_sem, pgC]
      have h1 := hb9.1
      have hn : b8 ≠ b9 := fun e => by subst e; simp [VS.look] at h1
      refine W_seq (W_reg ?_)
      simp [go_sem, VS.look, hn, Ne.symm hn]
      have hps := psame_c a[j] b[j] (hp _ (List.getElem_mem hj)).1 (hp _ (List.getElem_mem hj)).2
      rw [psame_eq _ _ (hb _ (List.getElem_mem hjb))] at hps
      refine Pure.use hps ?_
      simp [go_sem]
      have hs2 : Sub { objs := (b9, pgC b[j]) :: (b8, pgC a[j]) :: s1.objs, rows := s1.rows, toks := s1.toks, maps := s1.maps } s1 := Sub.trans (sub_obj hb9 _) (sub_obj hb8 _)
      by_cases he : a[j] = b[j]
      · refine W_ifs false (by simp [go_sem, he]) (fun h => by cases h) (fun _ => W_skip ?_)
        simp only [go_sem]
        refine ⟨_, ⟨rfl, Sub.trans hs2 hsub, fun i hi => ?_⟩, by simp [go_sem]⟩
        rcases Nat.lt_succ_iff_lt_or_eq.1 hi with hi | hi
        · exact hall i hi
        · rw [hi]; simp [hj, hjb, he]
      · refine W_ifs true (by simp [go_sem, he]) (fun _ => W_seq (W_reg ?_)) (fun h => by cases h)
        simp [go_sem]
        refine W_ret ?_
        simp only [go_sem]
        refine ⟨trivial, _, rfl, s, Sub.trans hs2 hsub, ?_, rfl⟩
        have : a ≠ b := fun e => he (by subst e; rfl)
        simp [this, go_sem]
    · rintro _ s1 x ⟨rfl, hsub, hall⟩
      simp only [go_sem]
      refine hK _ _ (W_seq (W_reg ?_))
      simp [go_sem]
      refine W_ret ?_
      simp only [go_sem]
      refine ⟨trivial, _, rfl, s, hsub, ?_, rfl⟩
      have : a = b := List.ext_getElem? fun j => by
        by_cases hj : j < a.length
        · exact hall j hj
        · rw [List.getElem?_eq_none (by omega), List.getElem?_eq_none (by omega)]
      simp [this, go_sem]
  · have hl' : ¬ (a.length : Int) = b.length := by omega
    refine W_ifs true (by simp [go_sem, hl, hl']) (fun _ => W_seq (W_reg ?_)) (fun h => by cases h)
    simp [go_sem]
    refine W_ret ?_
    simp only [go_sem]
    refine ⟨trivial, _, rfl, s, Sub.refl _, ?_, rfl⟩
    have : a ≠ b := fun e => hl (by rw [e])
    simp [this, go_sem]
/-- The pages that are made for a list. -/
def mkP (l : List Fr) (nos : List Int) (ver : Int) (i : Nat) : Pg := ⟨4, nos.getD i 0, ver, 0, 0, false, [], nos.getD (i + 1) 0, ⟨#[]⟩, ((partsP l)[i]?).getD []⟩
def mkPgs (l : List Fr) (nos : List Int) (ver : Int) : List Pg := if listPagesE l nos ver = 0 then (List.range nos.length).map (mkP l nos ver) else []
theorem mkPgs_le (l : List Fr) (nos : List Int) (ver : Int) : F2 (F2 Le) (listPagesC l nos ver) (pgsE (mkPgs l nos ver)) := by
  by_cases h : listPagesE l nos ver = 0
  · rw [lpF_C _ _ _ h]
    unfold mkPgs
    rw [if_pos h]
    refine ⟨by simp [rgE_len, pgsE_length], fun i hi hi' => ?_⟩
    have e1 : (rgE nos.length (lpF l nos ver))[i] = lpF l nos ver i := by simp [rgE]
    have e2 : (pgsE ((List.range nos.length).map (mkP l nos ver)))[i] = pgC (mkP l nos ver i) := by simp [pgsE]
    rw [e1, e2]
    have hfr : Le (frP (partsP l) i) (LF (((partsP l)[i]?).getD [])) := by
      unfold frP
      split
      · rename_i q hq; rw [hq]; exact .refl _
      · rename_i hq; rw [hq]; exact .nil
    exact .cons (.refl _) (.cons (.refl _) (.cons (.refl _) (.cons (.refl _) (.cons (.refl _) (.cons (.refl _) (.cons .nil (.cons (.refl _) (.cons (.refl _) (.cons hfr .nil)))))))))
  · unfold listPagesC mkPgs
    rw [if_neg h, if_neg h]
    exact .nil
theorem mkPgs_plain (l : List Fr) (nos : List Int) (ver : Int) : ∀ q ∈ mkPgs l nos ver, plainB q = true := by
  intro q hq
  unfold mkPgs at hq
  split at hq
  · obtain ⟨i, _, rfl⟩ := List.mem_map.1 hq
    rfl
  · simp at hq
theorem mkPgs_ents (l : List Fr) (nos : List Int) (ver : Int) (i : Nat) (hi : i < (mkPgs l nos ver).length) : (mkPgs l nos ver)[i].ents = [] := by
  have := mkPgs_plain l nos ver _ (List.getElem_mem hi)
  simp only [plainB, Bool.and_eq_true, decide_eq_true_eq] at this
  exact List.eq_nil_of_length_eq_zero this.2
theorem listPagesP_c (n : Nat) (l : List Fr) (nos : List Int) (ver : Int) (hs : Sz n l) (hn : n ≤ 100000000) (ht : (nums l).length ≤ 100000000) (hl : nos.length ≤ 1000000) (hnd : nos.Nodup) :
    Pure Tryz.prog 55 [LF l, LI nos, I ver] (.tup [LPg (mkPgs l nos ver), I (listPagesE l nos ver)]) :=
  (listPages_c n l nos ver hs hn ht hl hnd).leT (.cons (.li_of (mkPgs_le l nos ver)) (.cons (.refl _) .nil))
theorem listPagesRP_c (n : Nat) (l : List Fr) (nos : List Int) (ver : Int) (hs : Sz n l) (hn : n ≤ 10000000) (ht : (nums l).length ≤ 10000000) (hl : nos.length ≤ 1000000) (hnd : nos.Nodup) :
    Pure Tryz.prog 65 [LF l, LI nos, I ver] (.agg [LPg (mkPgs l nos ver), I (listPagesE l nos ver)]) :=
  (listPagesR_c n l nos ver hs hn ht hl hnd).leR (.agg_of (.cons (.li_of (mkPgs_le l nos ver)) (.cons (.refl _) .nil)))
end Go.Proofs.YtpmknffollpnaaaGreat
namespace Go.Proofs.YtpmknffollpnaaaGreat
open Go Go.VS
def addF (o : List Fr) (f : Fr) : List Fr := match o.getLast? with
  | some g => if g.v = f.v then o.dropLast ++ [⟨g.v, g.p ++ f.p⟩] else o ++ [f]
  | none => o ++ [f]
def addPg (o l : List Fr) : List Fr := match l with
  | [] => o
  | f :: r => addF o f ++ r
def joinF (ls : List Pg) : List Fr := ls.foldl (fun o p => addPg o p.fr) []
theorem joinF_succ (ls : List Pg) (k : Nat) (hk : k < ls.length) : joinF (ls.take (k + 1)) = addPg (joinF (ls.take k)) ls[k].fr := by
  unfold joinF
  rw [List.take_succ_eq_append_getElem hk, List.foldl_append]
  rfl
theorem addF_nil (f : Fr) : addF [] f = [f] := rfl
theorem addF_snoc (o : List Fr) (g f : Fr) : addF (o ++ [g]) f = if g.v = f.v then o ++ [⟨g.v, g.p ++ f.p⟩] else o ++ [g] ++ [f] := by
  unfold addF
  simp
theorem addPg_first (o l : List Fr) (h : 0 < l.length) : addPg o (l.take 1) = addF o (l[0]) := by
  cases l with
  | nil => simp at h
  | cons f r => simp [addPg]
theorem addPg_next (o l : List Fr) (j : Nat) (hj : j < l.length) (h0 : 0 < j) : addPg o (l.take (j + 1)) = addPg o (l.take j) ++ [l[j]] := by
  cases l with
  | nil => simp at hj
  | cons f r =>
    obtain ⟨i, rfl⟩ : ∃ i, j = i + 1 := ⟨j - 1, by omega⟩
    have hi : i < r.length := by simpa using hj
    simp only [List.take_succ_cons, addPg, List.getElem_cons_succ, List.append_assoc]
    rw [List.take_succ_eq_append_getElem hi]
theorem nums_addF (o : List Fr) (f : Fr) : (nums (addF o f)).length = (nums o).length + f.p.length := by
  have hn : ∀ g : Fr, nums [g] = g.p := fun g => by rw [nums_cons]; simp [nums, pairs]
  rcases List.eq_nil_or_concat o with rfl | ⟨o', g, rfl⟩
  · rw [addF_nil, hn]; simp [nums, pairs]
  · rw [List.concat_eq_append, addF_snoc]
    split
    · simp only [nums_append, List.length_append, hn]; omega
    · simp only [nums_append, List.length_append, hn]
theorem len_addF (o : List Fr) (f : Fr) : (addF o f).length ≤ o.length + 1 := by
  rcases List.eq_nil_or_concat o with rfl | ⟨o', g, rfl⟩
  · rw [addF_nil]; simp
  · rw [List.concat_eq_append, addF_snoc]
    split <;> simp
theorem nums_addPg (o l : List Fr) : (nums (addPg o l)).length = (nums o).length + (nums l).length := by
  cases l with
  | nil => simp [addPg, nums, pairs]
  | cons f r => simp only [addPg, nums_append, nums_cons, List.length_append, nums_addF]; omega
theorem len_addPg (o l : List Fr) : (addPg o l).length ≤ o.length + l.length := by
  cases l with
  | nil => simp [addPg]
  | cons f r => simp only [addPg, List.length_append, List.length_cons]; have := len_addF o f; omega
theorem len_p_nums (l : List Fr) (f : Fr) (hf : f ∈ l) : f.p.length ≤ (nums l).length := by
  obtain ⟨a, b, rfl⟩ := List.append_of_mem hf
  rw [nums_append, nums_cons, List.length_append, List.length_append]
  omega
/-- Pages with lists of so many entries and numbers at most. -/
def PgSz (ls : List Pg) (m : Nat) : Prop := ∀ p ∈ ls, p.fr.length ≤ m ∧ (nums p.fr).length ≤ m
theorem joinF_sz (ls : List Pg) (m : Nat) (h : PgSz ls m) : (joinF ls).length ≤ m * ls.length ∧ (nums (joinF ls)).length ≤ m * ls.length := by
  have : ∀ k, k ≤ ls.length → (joinF (ls.take k)).length ≤ m * k ∧ (nums (joinF (ls.take k))).length ≤ m * k := by
    intro k
    induction k with
    | zero => intro _; simp [joinF, nums, pairs]
    | succ k ih =>
      intro hk
      obtain ⟨h1, h2⟩ := ih (by omega)
      obtain ⟨h3, h4⟩ := h _ (List.getElem_mem (by omega : k < ls.length))
      rw [joinF_succ ls k (by omega), nums_addPg, Nat.mul_succ]
      have := len_addPg (joinF (ls.take k)) (ls[k]'(by omega)).fr
      omega
  have := this ls.length (Nat.le_refl _)
  rwa [List.take_length] at this
theorem joinF_take_sz (ls : List Pg) (m k : Nat) (h : PgSz ls m) : (joinF (ls.take k)).length ≤ m * ls.length ∧ (nums (joinF (ls.take k))).length ≤ m * ls.length := by
  have := joinF_sz (ls.take k) m (fun p hp => h p (List.mem_of_mem_take hp))
  have h2 : m * (ls.take k).length ≤ m * ls.length := Nat.mul_le_mul_left _ (by simp; omega)
  omega
theorem joinF_Sz (ls : List Pg) (m n : Nat) (h : PgSz ls m) (hn : m * ls.length ≤ n) : Sz n (joinF ls) ∧ (nums (joinF ls)).length ≤ n := by
  obtain ⟨h1, h2⟩ := joinF_sz ls m h
  exact ⟨⟨by omega, fun f hf => by have := len_p_nums _ f hf; omega⟩, by omega⟩
/-- What the pages of a list tell. -/
def listOfE (ls : List Pg) : Int := if ls = [] then 0 else if listPagesE (joinF ls) (ls.map (·.no)) ((ls.head?.map (·.ver)).getD 0) = 0 ∧ mkPgs (joinF ls) (ls.map (·.no)) ((ls.head?.map (·.ver)).getD 0) = ls then 0 else 2
def listOfL (ls : List Pg) : List Fr := if listOfE ls = 0 then joinF ls else []
end Go.Proofs.YtpmknffollpnaaaGreat
namespace Go.Proofs.YtpmknffollpnaaaGreat
open Go Go.VS
/-- slices.Clone of integers, to be appended to: nil, or a row. -/
theorem cloneN_c (l : List Int) (hl : l.length * 8 ≤ 140737488355328) (s : St) : CallC Tryz.prog 96 [LI l] s (fun c s' => ∃ R', s' = { s with rows := R' } ∧ RowIn s.rows R' c 1 (intsE l) ∧ c ≠ .li none []) (fun _ _ => False) := by
  refine CallC_ofN Tryz.func96 rfl (by rfl) Tryz.ntmps96 (by simp) ?_
  refine W_seq (W_reg ?_)
  simp [go_sem]
  refine W_seq (W_seq (W_region ?_))
  simp only [List.map, conv]
  refine WL_rd (c := LI l) (by simp [go_sem]) (by simp) ?_
  refine WL_isnil (tok := none) (es := intsE l) (e := 3) (by simp [go_sem]) tel_23 (by simp) fun t ht => ?_
  refine WL_run _ _ _ ?_
  simp [go_sem]
  cases t
  · refine W_ifs false (by simp [go_sem]) (fun h => by cases h) (fun _ => W_skip ?_)
    simp only [go_sem]
    refine W_seq (W_reg ?_)
    simp [go_sem]
    refine WL_buildSliceRow tel_23 (by simp [go_sem]) (by simp) (by simp) (by simp [VS.partsC]) (by simp [VS.partsC]) (by simp [go_sem]) (by simp) (by simp) fun b hb1 hb2 => WL_run _ _ _ ?_
    simp [go_sem, VS.partsC]
    have hr : RowIn s.rows ((b, 1, []) :: s.rows) (.rs b 0) 1 [] := ⟨.inr (.inr ⟨b, rfl, by simp [VS.look]⟩), fun k x hk => by
      have : b ≠ k := fun e => by subst e; rw [hb1] at hk; cases hk
      simp [VS.look, this, hk], fun b' n hb => by cases hb; exact hb1⟩
    refine WL_appendRow (R0 := s.rows) (es := []) (es2 := intsE l) (e := 3) (by simpa [go_sem] using hr) (by simp [go_sem]) tel_23 (by simp [go_sem]) (by simp [go_sem]) (by simp [go_sem, elsC]) (fun q hq => by rw [intsE_len l q hq]; simp [go_sem]) (by simp [go_sem, intsE_length]; omega) (by simp [go_sem]) (by simp) fun c' R' hR hnl => WL_run _ _ _ ?_
    simp [go_sem]
    refine W_ret ?_
    simp only [go_sem]
    rw [tsz_3] at hR
    simp only [List.nil_append] at hR
    have he : ∀ x, x = c' → RowIn s.rows R' x 1 (intsE l) ∧ x ≠ .li none [] := fun x hx => by rw [hx]; exact ⟨hR, hnl⟩
    exact ⟨trivial, _, rfl, _, Sub.refl _, R', rfl, he _ (by simp [set_f])⟩
  · have hnil : l = [] := by
      cases l with
      | nil => rfl
      | cons n l => have := ht (by simp [intsE]); cases this
    refine W_ifs true (by simp [go_sem]) (fun _ => W_seq (W_reg ?_)) (fun h => by cases h)
    simp [go_sem]
    refine W_ret ?_
    simp only [go_sem]
    subst hnil
    refine ⟨trivial, _, rfl, s, Sub.refl _, s.rows, rfl, ⟨.inl ⟨by simp [go_sem], rfl⟩, fun _ _ h => h, fun b n hb => by simp [go_sem] at hb⟩, by simp [go_sem]⟩
/-- A row by itself. -/
theorem rowIn_of {R : VS.Rows} {b z : Nat} {es : List (List C)} (h : VS.look R b = some (z, es)) : RowIn (del R b) R (.rs b es.length) z es :=
  ⟨.inr (.inr ⟨b, rfl, h⟩), fun k x hk => del_look hk, fun b' n hb => by cases hb; rw [look_del, if_pos rfl]⟩
/-- A cell that may be appended to: nil or a row, not of 's'. -/
def CellI (s s' : St) (bo : Nat) (cf : C) (p : List Int) : Prop := (cf = .v (.slice none 0 0) ∧ p = []) ∨ ∃ bc, cf = .rs bc p.length ∧ VS.look s'.rows bc = some (1, intsE p) ∧ VS.look s.rows bc = none ∧ bc ≠ bo
theorem CellI.row {s s' : St} {bo : Nat} {cf : C} {p : List Int} {x : Nat × List (List C)} (h : CellI s s' bo cf p) (hk : ∀ k y, VS.look s.rows k = some y → VS.look s'.rows k = some y) (hbo : VS.look s'.rows bo = some x) :
    ∃ R0, RowIn R0 s'.rows cf 1 (intsE p) ∧ cf ≠ .li none [] ∧ VS.look R0 bo = some x ∧ (∀ k y, VS.look s.rows k = some y → VS.look R0 k = some y) ∧ VS.one cf = true := by
  rcases h with ⟨rfl, rfl⟩ | ⟨bc, rfl, h1, h2, h3⟩
  · exact ⟨s'.rows, ⟨.inl ⟨rfl, rfl⟩, fun _ _ h => h, fun b n hb => by cases hb⟩, by simp, hbo, hk, rfl⟩
  · refine ⟨del s'.rows bc, ?_, by simp, by rw [look_del, if_neg (Ne.symm h3)]; exact hbo, fun k y hy => ?_, rfl⟩
    · have := rowIn_of h1
      rw [intsE_length] at this
      exact this
    · rw [look_del, if_neg]
      · exact hk k y hy
      · intro e; subst e; rw [h2] at hy; cases hy
/-- The slice of a list that is put together: its last element may be appended to. -/
def OutI (s s' : St) (c : C) (o : List Fr) : Prop := Sub s' s ∧ ((o = [] ∧ c = .v (.slice none 0 0)) ∨ ∃ bo o' f cf, o = o' ++ [f] ∧ c = .rs bo o.length ∧ VS.look s'.rows bo = some (2, frsE o' ++ [[I f.v, cf]]) ∧ VS.look s.rows bo = none ∧ CellI s s' bo cf f.p)
/-- .. wholly told. -/
def OutF (s s' : St) (c : C) (o : List Fr) : Prop := Sub s' s ∧ ((o = [] ∧ c = .v (.slice none 0 0)) ∨ ∃ bo, c = .rs bo o.length ∧ VS.look s'.rows bo = some (2, frsE o) ∧ VS.look s.rows bo = none ∧ o ≠ [])
theorem OutF.row {s s' : St} {c : C} {o : List Fr} (h : OutF s s' c o) : ∃ R0, RowIn R0 s'.rows c 2 (frsE o) ∧ c ≠ .li none [] ∧ (∀ k y, VS.look s.rows k = some y → VS.look R0 k = some y) ∧ (∀ k y, VS.look s'.rows k = some y → c ≠ .rs k o.length → VS.look R0 k = some y) := by
  obtain ⟨hsub, h⟩ := h
  rcases h with ⟨rfl, rfl⟩ | ⟨bo, rfl, h1, h2, _⟩
  · exact ⟨s'.rows, ⟨.inl ⟨rfl, rfl⟩, fun _ _ h => h, fun b n hb => by cases hb⟩, by simp, hsub.rows, fun k y hk _ => hk⟩
  · refine ⟨del s'.rows bo, ?_, by simp, fun k y hy => ?_, fun k y hy hc => ?_⟩
    · have := rowIn_of h1
      rw [frsE_length] at this
      exact this
    · rw [look_del, if_neg]
      · exact hsub.rows k y hy
      · intro e; subst e; rw [h2] at hy; cases hy
    · rw [look_del, if_neg]
      · exact hy
      · intro e; subst e; exact hc rfl
theorem frsE_snoc (o : List Fr) (f : Fr) : frsE (o ++ [f]) = frsE o ++ [frC f] := by rw [frsE_append]; rfl
/-- The last element is not appended to any more. -/
theorem out_freeze {s s' : St} {c : C} {o : List Fr} {N : NR} {code : Code} {E : Env} {Q : VS.Ends} (h : OutI s s' c o) (hk : ∀ R2, OutF s { s' with rows := R2 } c o → W Tryz.prog N code E { s' with rows := R2 } Q) : W Tryz.prog N code E s' Q := by
  obtain ⟨hsub, h⟩ := h
  rcases h with ⟨rfl, rfl⟩ | ⟨bo, o', f, cf, rfl, rfl, h1, h2, h3⟩
  · exact hk s'.rows ⟨hsub, .inl ⟨rfl, rfl⟩⟩
  · obtain ⟨R0, hR, hnl, hbo, hs0, _⟩ := h3.row hsub.rows h1
    refine W_freezer (b := bo) (z := 2) (es := frsE o' ++ [[I f.v, cf]]) (cs := [I f.v, cf]) o'.length 1 1 (cj := cf) (intsE f.p) R0 hbo (fun x hx => ?_) ?_ rfl hR (intsE_one _) (hk _ ⟨⟨hsub.objs, fun k y hy => ?_, hsub.toks, hsub.maps⟩, .inr ⟨bo, rfl, ?_, h2, by simp⟩⟩)
    · rcases List.mem_append.1 hx with hx | hx
      · exact frsE_len _ x hx
      · simp at hx; subst hx; rfl
    · rw [List.getElem?_append_right (by rw [frsE_length]; exact Nat.le_refl _), frsE_length]; simp
    · rw [look_putAt, if_neg]
      · exact hs0 k y hy
      · intro e; subst e; rw [h2] at hy; cases hy
    · rw [look_putAt, if_pos rfl, hbo]
      have : (frsE o' ++ [[I f.v, cf]]).set o'.length ([I f.v, cf].set 1 (.li none (intsE f.p))) = frsE (o' ++ [f]) := by
        rw [frsE_snoc, List.set_append_right _ _ (by rw [frsE_length]; exact Nat.le_refl _), frsE_length]
        simp [frC]
      rw [this]; rfl
end Go.Proofs.YtpmknffollpnaaaGreat
namespace Go.Proofs.YtpmknffollpnaaaGreat
open Go Go.VS
theorem OutI.obj {s s' : St} {c : C} {o : List Fr} (h : OutI s s' c o) {b : Nat} (hb : Fresh b s') (cs : List C) : OutI s { s' with objs := (b, cs) :: s'.objs } c o :=
  ⟨⟨fun k x hk => lookCons hb.1 (h.1.objs _ _ hk), h.1.rows, h.1.toks, h.1.maps⟩, h.2⟩
theorem OutF.obj {s s' : St} {c : C} {o : List Fr} (h : OutF s s' c o) {b : Nat} (hb : Fresh b s') (cs : List C) : OutF s { s' with objs := (b, cs) :: s'.objs } c o :=
  ⟨⟨fun k x hk => lookCons hb.1 (h.1.objs _ _ hk), h.1.rows, h.1.toks, h.1.maps⟩, h.2⟩
theorem out_len {s s' : St} {c : C} {o : List Fr} (h : OutI s s' c o) : evRd Tryz.prog (.call { callee := .builtin .len, args := #[.tmp 0], argTypes := #[26] }) (fun _ => c) s' = some (I o.length) := by
  rcases h.2 with ⟨rfl, rfl⟩ | ⟨bo, o', f, cf, rfl, rfl, _⟩ <;> simp [go_sem]
set_option maxRecDepth 8000 in
theorem pageListOf_c (ls : List Pg) (hsz : PgSz ls 1000) (hl : ls.length ≤ 4096) (hnd : (ls.map (·.no)).Nodup) : Pure Tryz.prog 74 [LPg ls] (.tup [LF (listOfL ls), I (listOfE ls)]) := by
  intro s
  refine CallC_of Tryz.func74 rfl (by rfl) Tryz.ntmps74 (by simp) ?_
  refine W_seq (W_reg ?_)
  simp [go_sem]
  refine W_seq (W_seq (W_reg ?_))
  simp [go_sem, pgsE_length]
  by_cases hnil : ls = []
  · refine W_ifs true (by simp [go_sem, hnil]) (fun _ => W_seq (W_reg ?_)) (fun h => by cases h)
    simp [go_sem]
    refine W_ret ?_
    simp only [go_sem]
    exact ⟨trivial, _, rfl, s, Sub.refl _, by simp [go_sem, hnil, listOfL, listOfE, joinF, frsE], rfl⟩
  have hlp : 0 < ls.length := List.length_pos_iff.2 hnil
  refine W_ifs false (by simp [go_sem, hnil]) (fun h => by cases h) (fun _ => W_skip ?_)
  simp only [go_sem]
  refine W_seq (W_reg ?_)
  simp [go_sem]
  refine W_seq_k fun K hK => W_seq (W_reg ?_)
  simp [go_sem, pgsE_length]
  refine W_range ls.length (fun k L s' => ∃ c, L = [(15, LPg ls), (0, LPg ls), (4, c)] ∧ OutI s s' c (joinF (ls.take k))) (l0 := [(15, LPg ls), (0, LPg ls), (4, .v (.slice none 0 0))]) (ds := []) (by omega) (by decide)
    ⟨_, rfl, Sub.refl _, .inl ⟨rfl, rfl⟩⟩ (by simp [go_sem]) rfl (by rintro k _ _ ⟨c, rfl, _⟩; simp [notIn]) ?_ ?_
  · rintro k _ s1 hk ⟨c, rfl, hO⟩
    have hsk := hsz _ (List.getElem_mem hk)
    have hbo := joinF_take_sz ls 1000 k hsz
    refine W_seq (W_reg ?_)
    simp [go_sem, pgsE_get, hk]
    refine WL_alloc tzero_89 (by simp) fun b6 hb6 => WL_run _ _ _ ?_
    simp [go_sem, pgC]
    refine W_seq (W_reg ?_)
    simp [go_sem, VS.look, frsE_length]
    generalize hfr : ls[k].fr = l at hsk
    have hll := hsk.1
    have hln := hsk.2
    have hO' : joinF (ls.take (k + 1)) = addPg (joinF (ls.take k)) l := by rw [joinF_succ ls k hk, hfr]
    rw [hO']
    generalize joinF (ls.take k) = O at hO hbo
    clear hO' hsk
    refine W_range l.length (fun j L s' => ∃ c, L = [(22, LF l), (17, I k), (16, I ls.length), (15, LPg ls), (0, LPg ls), (4, c)] ∧ OutI s s' c (addPg O (l.take j))) (l0 := [(22, LF l), (17, I k), (16, I ls.length), (15, LPg ls), (0, LPg ls), (4, c)]) (ds := []) (by omega) (by decide)
      ⟨c, rfl, hO.obj hb6 _⟩ (by simp [go_sem, hfr]) rfl (by rintro k _ _ ⟨c, rfl, _⟩; simp [notIn]) ?_ ?_
    · clear hO hb6
      rintro j _ s3 hj ⟨c, rfl, hI⟩
      have hpl : l[j].p.length ≤ 1000 := by have := len_p_nums l _ (List.getElem_mem hj); omega
      by_cases hm : j = 0 ∧ ∃ o' f, O = o' ++ [f] ∧ f.v = l[j].v
      · obtain ⟨rfl, o', f, rfl, hfv⟩ := hm
        have hI0 : OutI s s3 c (o' ++ [f]) := hI
        obtain ⟨hsub, h⟩ := hI0
        rcases h with ⟨h, _⟩ | ⟨bo, o2, f2, cf, ho, rfl, h1, h2, h3⟩
        · simp at h
        obtain ⟨rfl, hf2⟩ := List.append_inj' ho rfl
        simp only [List.cons.injEq, and_true] at hf2
        subst hf2
        refine W_seq (W_reg ?_)
        simp [go_sem, frsE_get, hj, frC]
        refine WL_alloc tzero_64 (by simp) fun b8 hb8 => WL_run _ _ _ ?_
        simp [go_sem]
        refine W_seq (W_reg ?_)
        simp [go_sem, VS.look]
        refine Pure.use (clonI_c l[0].p (by omega)) ?_
        simp [go_sem, VS.look, putAt]
        have hlen := h1
        refine (fun (h : ∀ s4 : St, VS.look s4.objs b8 = some [I l[0].v, LI l[0].p] → s4.rows = s3.rows → Sub s4 s → W Tryz.prog ⟨90, none⟩ _ _ s4 _) => h { s3 with objs := (b8, [I l[0].v, LI l[0].p]) :: s3.objs } (by simp [VS.look]) rfl ⟨fun k x hk => lookCons hb8.1 (hsub.objs _ _ hk), hsub.rows, hsub.toks, hsub.maps⟩) ?_
        clear hb8
        intro s4 hv8 hr4 hsub4
        have h14 : VS.look s4.rows bo = some (2, frsE o' ++ [[I f.v, cf]]) := by rw [hr4]; exact h1
        have h34 : CellI s s4 bo cf f.p := by unfold CellI at h3 ⊢; rw [hr4]; exact h3
        have hol : (o' ++ [f]).length = o'.length + 1 := by simp
        have hol' : o'.length ≤ 4096000 := by have := hbo.1; rw [hol] at this; omega
        have hwp : IntKind.i64.wrap (o'.length : Int) = (o'.length : Int) := wrap_in (by omega) (by omega)
        have hget : ∀ a x : C, (frsE o' ++ [[a, x]])[o'.length]? = some [a, x] := fun a x => by rw [List.getElem?_append_right (by rw [frsE_length]; exact Nat.le_refl _), frsE_length]; simp
        refine W_keep [(22, LF l), (24, I 0), (23, I l.length), (17, I k), (16, I ls.length), (15, LPg ls), (0, LPg ls), (4, .rs bo (o' ++ [f]).length), (7, I 0), (8, ptr b8 0)] (by simp [go_sem]) ?_
        refine W_seq (W_seq (W_reg ?_))
        simp [go_sem, hwp]
        refine W_seq (W_drawr 16 Tryz.mixed (by kernel_rfl) ?_)
        have hlt1 : (o'.length : Int) < (o'.length : Int) + 1 := by omega
        simp [go_sem, h14, hget, hv8, hfv, hwp, hlt1]
        refine W_ifs true (by simp [go_sem]) (fun _ => ?_) (fun h => by cases h)
        refine W_keep [(22, LF l), (24, I 0), (23, I l.length), (17, I k), (16, I ls.length), (15, LPg ls), (0, LPg ls), (4, .rs bo (o'.length + 1)), (8, ptr b8 0), (9, I o'.length)] (by simp [go_sem]) ?_
        obtain ⟨R0, hR, hnl, hbo0, hs0, hone⟩ := h34.row hsub4.rows h14
        refine W_seq ?_
        refine W_draws (Ef := ?_) 10 [9] (fun s' => VS.look s'.rows bo = some (2, frsE o' ++ [[I f.v, cf]]) ∧ VS.look s'.objs b8 = some [I l[0].v, LI l[0].p]) Tryz.mixed (by kernel_rfl) ⟨h14, hv8⟩ (fun s' hs' => ?_) ?_
        rotate_left
        · simp [go_sem, hs'.1, hs'.2, hget, hlt1]
          rfl
        · refine LL_cons fun Q' hQ => ?_
          have hfp : f.p.length ≤ 4096000 := by have := len_p_nums (o' ++ [f]) f (by simp); omega
          refine WL_appendRow (R0 := R0) (es := intsE f.p) (es2 := intsE l[0].p) (e := 3) (by simpa [go_sem] using hR) (by simpa [go_sem] using hnl) tel_23 (by simp [go_sem]) (by simp [go_sem]) (by simp [go_sem, elsC]) (fun q hq => by rw [intsE_len _ q hq]; simp [go_sem]) (by simp [go_sem, intsE_length]; omega) (by simp [go_sem]) (by simp) fun c2 R2 hR2 hnl2 => hQ _ _ ⟨hR2.old _ _ hbo0, hv8⟩ ?_
          rw [tsz_3, ← intsE_append] at hR2
          have hb2 := hR2.old _ _ hbo0
          have hset : ∀ x : C, (frsE o' ++ [[I f.v, cf]]).set o'.length [I f.v, x] = frsE o' ++ [[I f.v, x]] := fun x => by
            rw [List.set_append_right _ _ (by rw [frsE_length]; exact Nat.le_refl _), frsE_length]; simp
          have hadd : addPg (o' ++ [f]) (l.take 1) = o' ++ [⟨f.v, f.p ++ l[0].p⟩] := by rw [addPg_first _ _ hj, addF_snoc, if_pos hfv]
          have hout : ∀ x : C, CellI s { s4 with rows := putAt R2 bo (2, frsE o' ++ [[I f.v, x]]) } bo x (f.p ++ l[0].p) → OutI s { s4 with rows := putAt R2 bo (2, frsE o' ++ [[I f.v, x]]) } (.rs bo (o'.length + 1)) (addPg (o' ++ [f]) (l.take 1)) := fun x hx => by
            rw [hadd]
            refine ⟨⟨hsub4.objs, fun k y hy => ?_, hsub4.toks, hsub4.maps⟩, .inr ⟨bo, o', _, x, rfl, by simp, ?_, h2, hx⟩⟩
            · rw [look_putAt, if_neg (fun e => by subst e; rw [h2] at hy; cases hy)]
              exact hR2.old _ _ (hs0 k y hy)
            · rw [look_putAt, if_pos rfl, hb2]; rfl
          rcases hR2.row with ⟨rfl, hp0⟩ | ⟨h, _⟩ | ⟨b', rfl, hl'⟩
          · refine LL_nil (WL_run _ _ _ ?_)
            simp [go_sem, hb2, hget, hlt1]
            refine W_exit ?_
            simp only [go_sem, if_true]
            refine ⟨_, ⟨.rs bo (o'.length + 1), rfl, ?_⟩, by simp [go_sem]⟩
            rw [hset]
            exact hout _ (.inl ⟨rfl, List.eq_nil_of_length_eq_zero (by rw [← intsE_length, hp0]; rfl)⟩)
          · exact absurd h hnl2
          · refine LL_nil (WL_run _ _ _ ?_)
            simp [go_sem, hb2, hget, hlt1]
            refine W_exit ?_
            simp only [go_sem, if_true]
            refine ⟨_, ⟨.rs bo (o'.length + 1), rfl, ?_⟩, by simp [go_sem]⟩
            have hb0 := hR2.new b' _ rfl
            have hbb : b' ≠ bo := fun e => by subst e; rw [hbo0] at hb0; cases hb0
            rw [hset]
            refine hout _ (.inr ⟨b', by rw [intsE_length], ?_, ?_, hbb⟩)
            · rw [look_putAt, if_neg hbb]; exact hl'
            · cases hq : VS.look s.rows b' with
              | none => rfl
              | some y => rw [hs0 _ _ hq] at hb0; cases hb0
      · refine out_freeze hI fun R2 hF => ?_
        have hol := len_addPg O (l.take j)
        have htl : (l.take j).length ≤ l.length := by simp; omega
        have hadd : addPg O (l.take (j + 1)) = addPg O (l.take j) ++ [l[j]] := by
          rcases Nat.eq_zero_or_pos j with rfl | h0
          · rw [addPg_first _ _ hj]
            rcases List.eq_nil_or_concat O with rfl | ⟨o', g, rfl⟩
            · rfl
            · rw [List.concat_eq_append] at hm ⊢
              rw [addF_snoc, if_neg (fun e => hm ⟨rfl, o', g, rfl, e⟩)]
              rfl
          · exact addPg_next _ _ j hj h0
        have hb0 : (addPg O (l.take j)).length ≤ 4097000 := by have := hbo.1; omega
        have hnc : j = 0 → ∀ f g, addPg O (l.take j) = f ++ [g] → g.v ≠ l[j].v := fun h0 f g hfg e => hm ⟨h0, f, g, by subst h0; exact hfg, e⟩
        rw [hadd]
        clear hm hI
        generalize addPg O (l.take j) = o at hF hb0 hnc
        refine (fun (h : ∀ s4 : St, OutF s s4 c o → W Tryz.prog ⟨90, none⟩ _ _ s4 _) => h _ hF) ?_
        clear hF
        intro s4 hF
        refine W_seq (W_reg ?_)
        simp [go_sem, frsE_get, hj, frC]
        refine WL_alloc tzero_64 (by simp) fun b8 hb8 => WL_run _ _ _ ?_
        simp [go_sem]
        refine W_seq_k fun K8 hK8 => W_reg ?_
        have key8 : ∀ E' s6 c8, Has E' [(22, LF l), (24, I j), (23, I l.length), (17, I k), (16, I ls.length), (15, LPg ls), (0, LPg ls), (4, c), (7, I j), (8, ptr b8 0)] → E'.ds = [] → OutF s s6 c o → VS.look s6.objs b8 = some [I l[j].v, c8] → VS.one c8 = true →
            ((c8 = .v (.slice none 0 0) ∧ l[j].p = []) ∨ ∃ b9, c8 = .rs b9 l[j].p.length ∧ VS.look s6.rows b9 = some (1, intsE l[j].p) ∧ VS.look s.rows b9 = none ∧ ∀ n, c ≠ .rs b9 n) → K8 E' s6 := fun E' s6 c8 h1 h2 hF6 hv8 hone hcell => hK8 _ _ (W_keep _ h1 (by
          rw [h2]
          refine W_seq (W_seq3_k fun K2 hK2 => ?_)
          have key2 : ∀ E', Has E' [(51, Bo false), (22, LF l), (24, I j), (23, I l.length), (17, I k), (16, I ls.length), (15, LPg ls), (0, LPg ls), (4, c), (7, I j), (8, ptr b8 0)] → E'.ds = [] → K2 E' s6 := fun E' h1 h2 => hK2 _ _ (W_keep _ h1 (by
            rw [h2]
            refine W_ifs false (by simp [go_sem]) (fun h => by cases h) (fun _ => W_skip ?_)
            simp only [go_sem]
            obtain ⟨R0, hR, hnl, hs0, hkeep⟩ := hF6.row
            refine W_reg ?_
            simp [go_sem, hv8]
            refine WL_buildSlice tel_26 (by simp [go_sem]) (by rfl) (by rfl) (by simp [VS.partsC, go_sem]) (by simp [VS.partsC, go_sem]; exact hone) (by simp [go_sem]) (by simp) (by simp) fun r hr => WL_run _ _ _ ?_
            simp [go_sem, VS.partsC]
            refine WL_appendRow (R0 := R0) (es := frsE o) (es2 := [[I l[j].v, c8]]) (e := 64) (by simpa [go_sem] using hR) (by simpa [go_sem] using hnl) tel_26 (by simp [go_sem]) (by simp [go_sem]) (by simp [go_sem, elsC]) (fun q hq => by simp at hq; subst hq; simp [go_sem]) (by simp [go_sem, frsE_length]; omega) (by simp [go_sem]) (by simp) fun c3 R3 hR3 hnl3 => WL_run _ _ _ ?_
            rw [tsz_64] at hR3
            simp [go_sem]
            refine ⟨_, ⟨c3, rfl, ⟨hF6.1.objs, fun k y hy => hR3.old _ _ (hs0 k y hy), fun k y hy => lookCons hr (hF6.1.toks _ _ hy), hF6.1.maps⟩, ?_⟩, by simp [go_sem]⟩
            rcases hR3.row with ⟨_, h⟩ | ⟨_, h⟩ | ⟨b3, rfl, h3⟩
            · simp at h
            · simp at h
            · have hb3 := hR3.new b3 _ rfl
              refine .inr ⟨b3, o, l[j], c8, rfl, by simp [frsE_length], h3, ?_, ?_⟩
              · cases hq : VS.look s.rows b3 with
                | none => rfl
                | some y => rw [hs0 _ _ hq] at hb3; cases hb3
              · rcases hcell with ⟨h, h'⟩ | ⟨b9, h, h9, h9', hne⟩
                · exact .inl ⟨h, h'⟩
                · have h90 := hkeep b9 _ h9 (hne _)
                  exact .inr ⟨b9, h, hR3.old _ _ h90, h9', fun e => by subst e; rw [hb3] at h90; cases h90⟩))
          have hm1 : IntKind.i64.wrap (-1) = -1 := by decide
          by_cases hj0 : j = 0
          · subst hj0
            rcases hF6.2 with ⟨rfl, rfl⟩ | ⟨bo, rfl, g1, g2, g3⟩
            · refine W_reg ?_
              simp [go_sem, hm1]
              refine W_drawr 16 Tryz.mixed (by kernel_rfl) ?_
              simp [go_sem, hm1]
              exact key2 _ (by simp [go_sem]) (by simp [go_sem])
            · obtain ⟨o', g, rfl⟩ : ∃ o' g, o = o' ++ [g] := by
                rcases List.eq_nil_or_concat o with h | ⟨o', g, h⟩
                · exact absurd h g3
                · exact ⟨o', g, by rw [h, List.concat_eq_append]⟩
              have hgv := hnc rfl o' g rfl
              have hgv' : (g.v == l[0].v) = false := by simpa using hgv
              have hol1 : o'.length ≤ 4097000 := by simp at hb0; omega
              have hwp : IntKind.i64.wrap (o'.length : Int) = (o'.length : Int) := wrap_in (by omega) (by omega)
              have hlt1 : (o'.length : Int) < (o'.length : Int) + 1 := by omega
              have hget : (frsE (o' ++ [g]))[o'.length]? = some (frC g) := by rw [frsE_get]; simp
              refine W_reg ?_
              simp [go_sem, hwp]
              refine W_drawr 16 Tryz.mixed (by kernel_rfl) ?_
              simp [go_sem, hwp, hlt1, g1, hget, hv8, frC, hgv']
              exact key2 _ (by simp [go_sem]) (by simp [go_sem])
          · have hj0' : ((j : Int) == 0) = false := by rw [beq_eq_false_iff_ne]; omega
            rcases hF6.2 with ⟨rfl, rfl⟩ | ⟨bo, rfl, g1, g2, g3⟩
            · refine W_reg ?_
              simp [go_sem, hm1]
              refine W_drawr 16 Tryz.mixed (by kernel_rfl) ?_
              simp [go_sem, hj0']
              exact key2 _ (by simp [go_sem]) (by simp [go_sem])
            · refine W_reg ?_
              simp [go_sem]
              refine W_drawr 16 Tryz.mixed (by kernel_rfl) ?_
              simp [go_sem, hj0']
              exact key2 _ (by simp [go_sem]) (by simp [go_sem])))
        simp [go_sem, VS.look]
        refine (cloneN_c l[j].p (by omega) _).use (fun c8 s6 hc => ?_) (fun _ _ h => h.elim)
        obtain ⟨R8, rfl, hR8, hnl8⟩ := hc
        have hF8 : ∀ X : List C, OutF s { objs := (b8, X) :: s4.objs, rows := R8, toks := s4.toks, maps := s4.maps } c o := fun X =>
          ⟨⟨fun k y hy => lookCons hb8.1 (hF.1.objs _ _ hy), fun k y hy => hR8.old _ _ (hF.1.rows _ _ hy), hF.1.toks, hF.1.maps⟩, hF.2.imp id fun ⟨bo, a1, a2, a3, a4⟩ => ⟨bo, a1, hR8.old _ _ a2, a3, a4⟩⟩
        rcases hR8.row with ⟨rfl, hp0⟩ | ⟨h, _⟩ | ⟨b9, rfl, h9⟩
        · simp [go_sem, VS.look, putAt]
          exact key8 _ _ (.v (.slice none 0 0)) (by simp [go_sem]) (by simp [go_sem]) (hF8 _) (by simp [VS.look]) rfl (.inl ⟨rfl, List.eq_nil_of_length_eq_zero (by rw [← intsE_length, hp0]; rfl)⟩)
        · exact absurd h hnl8
        · have hb9 : VS.look s4.rows b9 = none := hR8.new b9 _ rfl
          rw [intsE_length]
          simp [go_sem, VS.look, putAt]
          refine key8 _ _ (.rs b9 l[j].p.length) (by simp [go_sem]) (by simp [go_sem]) (hF8 _) (by simp [VS.look]) rfl (.inr ⟨b9, rfl, h9, ?_, fun n e => ?_⟩)
          · cases hq : VS.look s.rows b9 with
            | none => rfl
            | some y => rw [hF.1.rows _ _ hq] at hb9; cases hb9
          · rcases hF.2 with ⟨_, h⟩ | ⟨bo, h, a2, _⟩
            · rw [h] at e; cases e
            · rw [h] at e; cases e; rw [hb9] at a2; cases a2
    · rintro _ s3 x ⟨c, rfl, hI⟩
      rw [List.take_length] at hI
      simp only [go_sem]
      exact ⟨_, ⟨c, rfl, hI⟩, by simp [go_sem]⟩
  · rintro _ s1 x ⟨c, rfl, hO⟩
    simp only [go_sem]
    rw [List.take_length] at hO
    refine hK _ _ ?_
    clear hK
    refine W_keep [(0, LPg ls), (4, c)] (by simp [go_sem]) ?_
    refine out_freeze hO fun R2 hF => ?_
    obtain ⟨R0, hR, hnl, hs0, _⟩ := hF.row
    refine W_freeze 4 2 (frsE (joinF ls)) R0 (by simpa [go_sem] using hR) (frsE_one _) ?_
    refine (fun (h : ∀ s2 : St, Sub s2 s → W Tryz.prog ⟨90, none⟩ _ _ s2 _) => h { s1 with rows := R0 } ⟨hF.1.objs, hs0, hF.1.toks, hF.1.maps⟩) ?_
    clear hR hF hs0 hnl hO
    intro s2 hsub
    refine W_keep [(0, LPg ls), (4, LF (joinF ls))] (by simp [go_sem]) ?_
    refine W_seq (W_drawr 12 Tryz.mixed (by kernel_rfl) ?_)
    have hz := joinF_Sz ls 1000 5000000 hsz (by omega)
    have hver : (ls.head?.map (·.ver)).getD 0 = ls[0].ver := by
      cases ls with
      | nil => simp at hlp
      | cons p q => rfl
    simp [go_sem, pgsE_get, hlp]
    refine ⟨_, numbersOf_c ls (by omega), ?_⟩
    simp [go_sem, pgC]
    refine ⟨_, listPagesP_c 5000000 (joinF ls) (ls.map (·.no)) ls[0].ver hz.1 (by omega) (by omega) (by simp; omega) hnd, ?_⟩
    simp [go_sem]
    refine W_keep [(0, LPg ls), (4, LF (joinF ls)), (10, LPg (mkPgs (joinF ls) (ls.map (·.no)) ls[0].ver)), (11, I (listPagesE (joinF ls) (ls.map (·.no)) ls[0].ver))] (by simp [go_sem]) ?_
    have hE : listOfE ls = if listPagesE (joinF ls) (ls.map (·.no)) ls[0].ver = 0 ∧ mkPgs (joinF ls) (ls.map (·.no)) ls[0].ver = ls then 0 else 2 := by
      unfold listOfE
      rw [if_neg hnil, hver]
    have hmp := mkPgs_plain (joinF ls) (ls.map (·.no)) ls[0].ver
    generalize hmade : mkPgs (joinF ls) (ls.map (·.no)) ls[0].ver = made at hE hmp
    generalize hlpe : listPagesE (joinF ls) (ls.map (·.no)) ls[0].ver = e at hE
    refine W_seq (W_seq_k fun K hK => W_reg ?_)
    have key : ∀ E' t, Has E' [(88, Bo t), (4, LF (joinF ls))] → E'.ds = [] → (t = false → listOfE ls = 0) → (t = true → listOfE ls = 2) → K E' s2 := fun E' t h1 h2 hf ht => hK _ _ (W_keep _ h1 (by
      rw [h2]
      refine W_ifs t (by simp [go_sem]) (fun h => W_seq (W_reg ?_)) (fun h => W_skip ?_)
      · simp [go_sem]
        refine W_ret ?_
        simp only [go_sem]
        exact ⟨trivial, _, rfl, s, hsub, by simp [go_sem, ht h, listOfL, frsE], rfl⟩
      · simp only [go_sem]
        refine W_seq (W_reg ?_)
        simp [go_sem]
        refine W_ret ?_
        simp only [go_sem]
        exact ⟨trivial, _, rfl, s, hsub, by simp [go_sem, hf h, listOfL], rfl⟩))
    by_cases he : e = 0
    · subst he
      simp [go_sem]
      refine Pure.use (equalP_c ls made (by omega) (fun p hp => ⟨by have := (hsz p hp).1; omega, fun f hf => by have := len_p_nums _ f hf; have := (hsz p hp).2; omega⟩) hmp) ?_
      simp [go_sem]
      refine key _ (!decide (ls = made)) (by simp [go_sem]) (by simp [go_sem]) (fun h => ?_) (fun h => ?_)
      · simp at h; rw [hE, if_pos ⟨rfl, h.symm⟩]
      · simp at h; rw [hE, if_neg]; rintro ⟨_, h2⟩; exact h h2.symm
    · have he' : (e == 0) = false := by simpa using he
      simp [go_sem, bne, he']
      exact key _ true (by simp [go_sem]) (by simp [go_sem]) (fun h => by cases h) (fun h => by rw [hE, if_neg]; rintro ⟨h2, _⟩; exact he h2)
end Go.Proofs.YtpmknffollpnaaaGreat
namespace Go.VS
open Go
theorem W_rcells {P : Program} {s : St} {E : Env} {N : NR} {Q : Ends} {c : Code} {b z : Nat} {es es' : List (List C)} (hl : look s.rows b = some (z, es)) (hz : ∀ x ∈ es', x.length = z) (h2 : F2 (F2 Le) es es') (h : W P N c E { s with rows := putAt s.rows b (z, es') } Q) : W P N c E s Q :=
  W_ghost2 fun w g a hr => by
    obtain ⟨h4, h5⟩ := rcells_step (es' := es') hr.st hl h2.1.symm hz fun i j hi hj hj' v hv => ((h2.2 i hi (by rw [← h2.1]; exact hi)).2 j hj hj').R hv
    exact ⟨E, _, _, hr.step h5 h4, h5, h⟩
end Go.VS
namespace Go.Proofs.YtpmknffollpnaaaGreat
open Go Go.VS
set_option maxRecDepth 8000 in
theorem refPageListOf_c (ls : List Pg) (hsz : PgSz ls 1000) (hl : ls.length ≤ 4096) (hnd : (ls.map (·.no)).Nodup) : Pure Tryz.prog 77 [LPg ls] (.agg [LF (listOfL ls), I (listOfE ls)]) := by
  intro s
  refine CallC_of Tryz.func77 rfl (by rfl) Tryz.ntmps77 (by simp) ?_
  refine W_seq (W_reg ?_)
  simp [go_sem]
  refine WL_alloc tzero_134 (by simp) fun b2 hb2 => WL_run _ _ _ ?_
  simp [go_sem]
  have hret : ∀ (s' : St) (x : List C), Sub s' { s with objs := (b2, [.v (.slice none 0 0), I 0]) :: s.objs } → Sub { s' with objs := putAt s'.objs b2 x } s := fun s' x h => sub_put (Sub.trans h (sub_obj hb2 _)) hb2.1 x
  have hv0 : VS.look ({ s with objs := (b2, [.v (.slice none 0 0), I 0]) :: s.objs } : St).objs b2 = some [.v (.slice none 0 0), I 0] := by simp [VS.look]
  refine (fun (h : ∀ s0 : St, VS.look s0.objs b2 = some [.v (.slice none 0 0), I 0] → (∀ (s' : St) (x : List C), Sub s' s0 → Sub { s' with objs := putAt s'.objs b2 x } s) → W Tryz.prog ⟨99, none⟩ _ _ s0 _) => h { s with objs := (b2, [.v (.slice none 0 0), I 0]) :: s.objs } hv0 hret) ?_
  clear hret hv0 hb2
  intro s0 hv0 hret
  have hpu : ∀ x : List C, VS.look (putAt s0.objs b2 x) b2 = some x := fun x => by rw [look_putAt, if_pos rfl, hv0]; rfl
  refine W_seq (W_seq (W_reg ?_))
  simp [go_sem, pgsE_length]
  by_cases hnil : ls = []
  · refine W_ifs true (by simp [go_sem, hnil]) (fun _ => W_seq (W_reg ?_)) (fun h => by cases h)
    simp [go_sem, VS.partsC, hv0]
    refine W_ret ?_
    simp only [go_sem]
    refine ⟨trivial, .agg [.v (.slice none 0 0), I 0], ?_, s, hret s0 _ (Sub.refl _), by simp [go_sem, hnil, listOfL, listOfE, joinF, frsE], rfl⟩
    simp [go_sem, hpu]
  have hlp : 0 < ls.length := List.length_pos_iff.2 hnil
  refine W_ifs false (by simp [go_sem, hnil]) (fun h => by cases h) (fun _ => W_skip ?_)
  simp only [go_sem]
  refine W_seq (W_seq (W_reg ?_))
  simp [go_sem, pgsE_length]
  have hnb : ¬ (4096 : Int) < ls.length := by omega
  refine W_ifs false (by simp [go_sem, hnb]) (fun h => by cases h) (fun _ => W_skip ?_)
  simp only [go_sem]
  refine W_seq (W_reg ?_)
  simp [go_sem]
  refine W_seq (W_seq (W_reg ?_))
  simp [go_sem]
  refine W_for ls.length (fun k L s' => ∃ c, L = [(0, LPg ls), (2, ptr b2 0), (4, I k), (3, c)] ∧ OutF s0 s' c (joinF (ls.take k)))
    (l0 := [(0, LPg ls), (2, ptr b2 0), (4, I 0), (3, .v (.slice none 0 0))]) (ds := []) ⟨_, rfl, Sub.refl _, .inl ⟨rfl, rfl⟩⟩ (by simp [go_sem]) rfl ?_
  rintro k _ s1 hk ⟨c, rfl, hO⟩ K hK
  refine W_reg ?_
  simp [go_sem, pgsE_length]
  refine hK _ _ (decide (k < ls.length)) [(0, LPg ls), (2, ptr b2 0), (4, I k), (3, c)] (by simp [go_sem]) (by simp [go_sem]) (by simp [go_sem]) (fun hlt => ?_) (fun hge => ?_)
  · simp only [decide_eq_true_eq] at hlt
    have hw := wrap_succ hlt (by omega)
    have hsk := hsz _ (List.getElem_mem hlt)
    have hbo := joinF_take_sz ls 1000 k hsz
    refine ⟨hlt, W_seq (W_reg ?_)⟩
    simp [go_sem]
    have hO' : joinF (ls.take (k + 1)) = addPg (joinF (ls.take k)) ls[k].fr := joinF_succ ls k hlt
    rw [hO']
    clear hO'
    generalize joinF (ls.take k) = O at hO hbo
    have hll := hsk.1
    have hln := hsk.2
    refine W_for ls[k].fr.length (fun j L s' => ∃ c, L = [(0, LPg ls), (2, ptr b2 0), (4, I k), (5, I j), (3, c)] ∧ OutF s0 s' c (addPg O (ls[k].fr.take j)))
      (l0 := [(0, LPg ls), (2, ptr b2 0), (4, I k), (5, I 0), (3, c)]) (ds := []) ⟨c, rfl, hO⟩ (by simp [go_sem]) rfl ?_
    clear hO hK
    rintro j _ s3 hj ⟨c, rfl, hF⟩ K2 hK2
    refine W_reg ?_
    simp [go_sem, pgsE_get, hlt, pgC, frsE_length]
    refine hK2 _ _ (decide (j < ls[k].fr.length)) [(0, LPg ls), (2, ptr b2 0), (4, I k), (5, I j), (3, c)] (by simp [go_sem]) (by simp [go_sem]) (by simp [go_sem]) (fun hjlt => ?_) (fun hjge => ?_)
    · simp only [decide_eq_true_eq] at hjlt
      have hwj := wrap_succ hjlt (by omega)
      refine ⟨hjlt, ?_⟩
      have hpl : ls[k].fr[j].p.length ≤ 1000 := by have := len_p_nums ls[k].fr _ (List.getElem_mem hjlt); omega
      refine W_seq (W_reg ?_)
      simp [go_sem, pgsE_get, hlt, pgC, frsE_get, hjlt, frC]
      refine WL_alloc tzero_64 (by simp) fun b6 hb6 => WL_run _ _ _ ?_
      simp [go_sem]
      have hadd : addPg O (ls[k].fr.take (j + 1)) = if j = 0 then addF O ls[k].fr[j] else addPg O (ls[k].fr.take j) ++ [ls[k].fr[j]] := by
        split
        · rename_i h0; subst h0; exact addPg_first _ _ hjlt
        · rename_i h0; exact addPg_next _ _ j hjlt (by omega)
      have hoj : j = 0 → addPg O (ls[k].fr.take j) = O := fun h0 => by subst h0; simp [addPg]
      have hol := len_addPg O (ls[k].fr.take j)
      have htl : (ls[k].fr.take j).length ≤ ls[k].fr.length := by simp; omega
      have hb0 : (addPg O (ls[k].fr.take j)).length ≤ 4097000 := by have := hbo.1; omega
      have hnO : (nums O).length ≤ 4097000 := by have := hbo.2; omega
      rw [hadd]
      clear hol htl hadd
      generalize hx : ls[k].fr[j] = x at hpl
      generalize addPg O (ls[k].fr.take j) = o at hF hb0 hoj
      have hF6 := hF.obj hb6 [I x.v, LI x.p]
      refine (fun (h : ∀ s4 : St, OutF s0 s4 c o → VS.look s4.objs b6 = some [I x.v, LI x.p] → W Tryz.prog ⟨99, none⟩ _ _ s4 _) => h _ hF6 (by simp [VS.look])) ?_
      clear hF6 hF hb6
      intro s4 hF hv6
      refine W_keep [(0, LPg ls), (2, ptr b2 0), (4, I k), (5, I j), (3, c), (6, ptr b6 0)] (by simp [go_sem]) ?_
      refine W_seq3_k fun K3 hK3 => ?_
      have hm1 : IntKind.i64.wrap (-1) = -1 := by decide
      by_cases hm : j = 0 ∧ ∃ o' f, o = o' ++ [f] ∧ f.v = x.v
      · obtain ⟨rfl, o', f, rfl, hfv⟩ := hm
        have hO := hoj rfl
        subst hO
        rw [if_pos rfl, addF_snoc, if_pos hfv]
        rcases hF.2 with ⟨h, _⟩ | ⟨bo, rfl, g1, g2, g3⟩
        · simp at h
        have hol1 : o'.length ≤ 4097000 := by simp at hb0; omega
        have hfp : f.p.length ≤ 4097000 := by have := len_p_nums (o' ++ [f]) f (by simp); omega
        have hwp : IntKind.i64.wrap (o'.length : Int) = (o'.length : Int) := wrap_in (by omega) (by omega)
        have hlt1 : (o'.length : Int) < (o'.length : Int) + 1 := by omega
        have hget : (frsE (o' ++ [f]))[o'.length]? = some [I f.v, LI f.p] := by rw [frsE_get]; simp [frC]
        have hvb : (f.v == x.v) = true := by simpa using hfv
        refine W_reg ?_
        simp [go_sem, hwp]
        refine W_drawr 16 Tryz.mixed (by kernel_rfl) ?_
        simp [go_sem, hwp, hlt1, g1, hget, hv6, hvb]
        refine hK3 _ _ ?_
        refine W_ifs true (by simp [go_sem]) (fun _ => ?_) (fun h => by cases h)
        refine W_keep [(0, LPg ls), (2, ptr b2 0), (4, I k), (5, I (0 : Nat)), (3, .rs bo (o'.length + 1)), (6, ptr b6 0), (7, I o'.length)] (by simp [go_sem]) ?_
        refine W_draws (Ef := ?_) 12 [2, 8, 11] (fun s' => VS.look s'.rows bo = some (2, frsE (o' ++ [f])) ∧ VS.look s'.objs b6 = some [I x.v, LI x.p]) Tryz.mixed (by kernel_rfl) ⟨g1, hv6⟩ (fun s' hs' => ?_) ?_
        rotate_left
        · simp [go_sem, hs'.1, hs'.2, hget, hlt1]
          rfl
        · refine LL_cons fun Q' hQ => ?_
          refine WL_buildSlice tel_23 (by simp [go_sem]) (by rfl) (by rfl) (by simp [VS.partsC, go_sem]) (by simp [VS.partsC, go_sem]) (by simp [go_sem]) (by simp) (by simp) fun r hr => hQ _ _ ⟨g1, hv6⟩ ?_
          refine LL_cons fun Q' hQ => ?_
          refine WL_append (r := r) (z := 1) (es := []) (es2 := intsE f.p) tel_23 (by simp [go_sem]) (by simp [go_sem, VS.partsC]) (by simp [VS.look, go_sem, VS.partsC]) (by simp [go_sem]) (by simp [go_sem]) (by simp [go_sem, elsC, VS.partsC]) (intsE_len _) (by simp [go_sem, intsE_length]; omega) (by simp [go_sem]) (by simp) (hQ _ _ ⟨g1, hv6⟩ ?_)
          refine LL_cons fun Q' hQ => ?_
          refine WL_append (r := r) (z := 1) (es := intsE f.p) (es2 := intsE x.p) tel_23 (by simp [go_sem]) (by simp [go_sem, VS.partsC]) (by simp [look_putAt, VS.look]) (by simp [go_sem]) (by simp [go_sem]) (by simp [go_sem, elsC, VS.partsC]) (intsE_len _) (by simp [go_sem, intsE_length]; omega) (by simp [go_sem]) (by simp) (hQ _ _ ⟨g1, hv6⟩ ?_)
          refine LL_nil (WL_run _ _ _ ?_)
          simp [go_sem, VS.partsC, g1, hget, hlt1]
          have hset : (frsE (o' ++ [f])).set o'.length [I f.v, .li (some r) (intsE f.p ++ intsE x.p)] = frsE o' ++ [[I f.v, .li (some r) (intsE f.p ++ intsE x.p)]] := by
            rw [frsE_snoc, List.set_append_right _ _ (by rw [frsE_length]; exact Nat.le_refl _), frsE_length]; simp
          refine W_rcells (b := bo) (z := 2) (es := (frsE (o' ++ [f])).set o'.length [I f.v, .li (some r) (intsE f.p ++ intsE x.p)]) (es' := frsE (o' ++ [⟨f.v, f.p ++ x.p⟩])) (by rw [look_putAt, if_pos rfl, g1]; rfl) (frsE_len _) ?_ ?_
          · rw [hset, frsE_snoc]
            refine ⟨by simp, fun i hi hi' => ?_⟩
            by_cases h : i < (frsE o').length
            · rw [List.getElem_append_left h, List.getElem_append_left h]; exact F2.refl .refl _
            · rw [List.getElem_append_right (by omega), List.getElem_append_right (by omega)]
              simp only [frC, intsE_append, List.getElem_singleton]
              exact .cons (.refl _) (.cons (.li_of (F2.refl (F2.refl .refl) _)) .nil)
          · refine W_reg ?_
            have hw1 : IntKind.i64.wrap 1 = 1 := by decide
            simp [go_sem, hw1]
            rw [addF_snoc, if_pos hfv]
            refine ⟨_, ⟨.rs bo (o'.length + 1), rfl, ⟨hF.1.objs, fun q y hy => ?_, fun q y hy => lookCons hr (hF.1.toks _ _ hy), hF.1.maps⟩, .inr ⟨bo, by simp, ?_, g2, by simp⟩⟩, by simp [go_sem]⟩
            · rw [look_putAt, if_neg (fun e => by subst e; rw [g2] at hy; cases hy), look_putAt, if_neg (fun e => by subst e; rw [g2] at hy; cases hy)]
              exact hF.1.rows _ _ hy
            · rw [look_putAt, if_pos rfl, look_putAt, if_pos rfl, g1]; rfl
      · have hnx : (if j = 0 then addF O x else o ++ [x]) = o ++ [x] := by
          by_cases h0 : j = 0
          · rw [if_pos h0]
            have hO := hoj h0
            subst hO
            rcases List.eq_nil_or_concat o with rfl | ⟨o', g, rfl⟩
            · rfl
            · rw [List.concat_eq_append] at hm ⊢
              rw [addF_snoc, if_neg (fun e => hm ⟨h0, o', g, rfl, e⟩)]
          · rw [if_neg h0]
        have key : ∀ E', Has E' [(59, Bo false), (0, LPg ls), (2, ptr b2 0), (4, I k), (5, I j), (3, c), (6, ptr b6 0)] → E'.ds = [] → K3 E' s4 := fun E' h1 h2 => hK3 _ _ (W_keep _ h1 (by
          rw [h2]
          refine W_ifs false (by simp [go_sem]) (fun h => by cases h) (fun _ => ?_)
          obtain ⟨R0, hR, hnl, hs0, hkeep⟩ := hF.row
          refine W_reg ?_
          simp [go_sem, hv6]
          refine WL_buildSlice tel_26 (by simp [go_sem]) (by rfl) (by rfl) (by simp [VS.partsC, go_sem]) (by simp [VS.partsC, go_sem]) (by simp [go_sem]) (by simp) (by simp) fun r hr => WL_run _ _ _ ?_
          simp [go_sem, VS.partsC]
          refine WL_appendRow (R0 := R0) (es := frsE o) (es2 := [frC x]) (e := 64) (by simpa [go_sem] using hR) (by simpa [go_sem] using hnl) tel_26 (by simp [go_sem]) (by simp [go_sem]) (by simp [go_sem, elsC, frC]) (fun q hq => by simp at hq; subst hq; simp [go_sem, frC]) (by simp [go_sem, frsE_length]; omega) (by simp [go_sem]) (by simp) fun c3 R3 hR3 hnl3 => WL_run _ _ _ ?_
          rw [tsz_64, ← frsE_snoc] at hR3
          simp [go_sem]
          refine W_reg ?_
          simp [go_sem, hwj, hnx]
          refine ⟨_, ⟨c3, rfl, ⟨hF.1.objs, fun k y hy => hR3.old _ _ (hs0 k y hy), fun k y hy => lookCons hr (hF.1.toks _ _ hy), hF.1.maps⟩, ?_⟩, by simp [go_sem]⟩
          rcases hR3.row with ⟨_, h⟩ | ⟨_, h⟩ | ⟨b3, rfl, h3⟩
          · simp [frsE] at h
          · simp [frsE] at h
          · have hb3 := hR3.new b3 _ rfl
            refine .inr ⟨b3, by rw [frsE_length], h3, ?_, by simp⟩
            cases hq : VS.look s0.rows b3 with
            | none => rfl
            | some y => rw [hs0 _ _ hq] at hb3; cases hb3))
        by_cases hj0 : j = 0
        · subst hj0
          have hO := hoj rfl
          subst hO
          rcases hF.2 with ⟨rfl, rfl⟩ | ⟨bo, rfl, g1, g2, g3⟩
          · refine W_reg ?_
            simp [go_sem, hm1]
            refine W_drawr 16 Tryz.mixed (by kernel_rfl) ?_
            simp [go_sem, hm1]
            exact key _ (by simp [go_sem]) (by simp [go_sem])
          · obtain ⟨o', g, rfl⟩ : ∃ o' g, o = o' ++ [g] := by
              rcases List.eq_nil_or_concat o with h | ⟨o', g, h⟩
              · exact absurd h g3
              · exact ⟨o', g, by rw [h, List.concat_eq_append]⟩
            have hgv : g.v ≠ x.v := fun e => hm ⟨rfl, o', g, rfl, e⟩
            have hgv' : (g.v == x.v) = false := by simpa using hgv
            have hol1 : o'.length ≤ 4097000 := by simp at hb0; omega
            have hwp : IntKind.i64.wrap (o'.length : Int) = (o'.length : Int) := wrap_in (by omega) (by omega)
            have hlt1 : (o'.length : Int) < (o'.length : Int) + 1 := by omega
            have hget : (frsE (o' ++ [g]))[o'.length]? = some (frC g) := by rw [frsE_get]; simp
            refine W_reg ?_
            simp [go_sem, hwp]
            refine W_drawr 16 Tryz.mixed (by kernel_rfl) ?_
            simp [go_sem, hwp, hlt1, g1, hget, hv6, frC, hgv']
            exact key _ (by simp [go_sem]) (by simp [go_sem])
        · have hj0' : ((j : Int) == 0) = false := by rw [beq_eq_false_iff_ne]; omega
          rcases hF.2 with ⟨rfl, rfl⟩ | ⟨bo, rfl, g1, g2, g3⟩
          · refine W_reg ?_
            simp [go_sem, hm1]
            refine W_drawr 16 Tryz.mixed (by kernel_rfl) ?_
            simp [go_sem, hj0']
            exact key _ (by simp [go_sem]) (by simp [go_sem])
          · refine W_reg ?_
            simp [go_sem]
            refine W_drawr 16 Tryz.mixed (by kernel_rfl) ?_
            simp [go_sem, hj0']
            exact key _ (by simp [go_sem]) (by simp [go_sem])
    · simp only [decide_eq_false_iff_not] at hjge
      have hfull : ls[k].fr.take j = ls[k].fr := List.take_of_length_le (Nat.not_lt.1 hjge)
      rw [hfull] at hF
      simp only [go_sem]
      refine W_reg ?_
      simp [go_sem, hw]
      exact ⟨_, ⟨c, rfl, hF⟩, by simp [go_sem]⟩
  · simp only [decide_eq_false_iff_not] at hge
    have hfull : ls.take k = ls := List.take_of_length_le (Nat.not_lt.1 hge)
    rw [hfull] at hO
    simp only [go_sem]
    obtain ⟨R0, hR, hnl, hs0, _⟩ := hO.row
    refine W_freeze 3 2 (frsE (joinF ls)) R0 (by simpa [go_sem] using hR) (frsE_one _) ?_
    refine (fun (h : ∀ s2 : St, Sub s2 s0 → W Tryz.prog ⟨99, none⟩ _ _ s2 _) => h { s1 with rows := R0 } ⟨hO.1.objs, hs0, hO.1.toks, hO.1.maps⟩) ?_
    clear hR hs0 hnl hO hK
    intro s2 hsub
    refine W_keep [(0, LPg ls), (2, ptr b2 0), (3, LF (joinF ls))] (by simp [go_sem]) ?_
    have hz := joinF_Sz ls 1000 5000000 hsz (by omega)
    have hver : (ls.head?.map (·.ver)).getD 0 = ls[0].ver := by
      cases ls with
      | nil => simp at hlp
      | cons p q => rfl
    refine W_seq (W_drawa (d := 8) (t0 := 117) 9 8 Tryz.mixed (by kernel_rfl) (by simp) tzero_117 (by rfl) ?_)
    simp [go_sem, pgsE_get, hlp]
    refine ⟨_, numbersR_c ls (by omega), ?_⟩
    simp [go_sem, pgC]
    refine ⟨_, listPagesRP_c 5000000 (joinF ls) (ls.map (·.no)) ls[0].ver hz.1 (by omega) (by omega) (by simp; omega) hnd, ?_⟩
    simp [go_sem]
    intro b8 hb8
    have hE : listOfE ls = if listPagesE (joinF ls) (ls.map (·.no)) ls[0].ver = 0 ∧ mkPgs (joinF ls) (ls.map (·.no)) ls[0].ver = ls then 0 else 2 := by
      unfold listOfE
      rw [if_neg hnil, hver]
    have hme := mkPgs_ents (joinF ls) (ls.map (·.no)) ls[0].ver
    generalize hmade : mkPgs (joinF ls) (ls.map (·.no)) ls[0].ver = made at hE hme
    generalize hlpe : listPagesE (joinF ls) (ls.map (·.no)) ls[0].ver = e at hE
    refine (fun (h : ∀ s3 : St, Sub s3 s0 → VS.look s3.objs b8 = some [LPg made, I e] → W Tryz.prog ⟨99, none⟩ _ _ s3 _) => h { s2 with objs := (b8, [LPg made, I e]) :: s2.objs } ⟨fun k x hk => lookCons hb8.1 (hsub.objs _ _ hk), hsub.rows, hsub.toks, hsub.maps⟩ (by simp [VS.look])) ?_
    clear hsub hb8
    intro s3 hsub hv8
    have hv2 := hsub.objs _ _ hv0
    have hp3 : ∀ x : List C, VS.look (putAt s3.objs b2 x) b2 = some x := fun x => by rw [look_putAt, if_pos rfl, hv2]; rfl
    refine W_keep [(0, LPg ls), (2, ptr b2 0), (3, LF (joinF ls)), (8, ptr b8 0)] (by simp [go_sem]) ?_
    refine W_seq (W_seq_k fun K hK => W_reg ?_)
    have key : ∀ E' t, Has E' [(95, Bo t), (2, ptr b2 0), (3, LF (joinF ls))] → E'.ds = [] → (t = false → listOfE ls = 0) → (t = true → listOfE ls = 2) → K E' s3 := fun E' t h1 h2 hf ht => hK _ _ (W_keep _ h1 (by
      rw [h2]
      refine W_ifs t (by simp [go_sem]) (fun h => W_seq (W_reg ?_)) (fun h => W_skip ?_)
      · simp [go_sem, VS.partsC, hv2]
        refine W_ret ?_
        simp only [go_sem]
        refine ⟨trivial, .agg [.v (.slice none 0 0), I 2], ?_, s, hret s3 _ hsub, by simp [go_sem, ht h, listOfL, frsE], rfl⟩
        simp [go_sem, hp3]
      · simp only [go_sem]
        refine W_seq (W_reg ?_)
        simp [go_sem, VS.partsC, hv2]
        refine W_ret ?_
        simp only [go_sem]
        refine ⟨trivial, .agg [LF (joinF ls), I 0], ?_, s, hret s3 _ hsub, by simp [go_sem, hf h, listOfL], rfl⟩
        simp [go_sem, hp3]))
    by_cases he : e = 0
    · subst he
      simp [go_sem, hv8]
      refine Pure.use (samePages_c made ls (fun i hi hj => .inr (.inl (hme i hi)))) ?_
      simp [go_sem]
      refine key _ (!decide (made = ls)) (by simp [go_sem]) (by simp [go_sem]) (fun h => ?_) (fun h => ?_)
      · simp at h; rw [hE, if_pos ⟨rfl, h⟩]
      · simp at h; rw [hE, if_neg]; rintro ⟨_, h2⟩; exact h h2
    · have he' : (e == 0) = false := by simpa using he
      simp [go_sem, hv8, bne, he']
      exact key _ true (by simp [go_sem]) (by simp [go_sem]) (fun h => by cases h) (fun h => by rw [hE, if_neg]; rintro ⟨h2, _⟩; exact he h2)
end Go.Proofs.YtpmknffollpnaaaGreat
namespace Go.Proofs.YtpmknffollpnaaaGreat
open Go Go.VS
def zPg : Pg := ⟨0, 0, 0, 0, 0, false, [], 0, ⟨#[]⟩, []⟩
def pgAt (P : List Pg) (n : Int) : Pg := P.getD n.toNat zPg
def okAt (P : List Pg) (n : Int) (seen : List Int) : Bool := decide (2 ≤ n) && decide (n < P.length) && !(decide (n ∈ seen)) && decide ((pgAt P n).kind = 4) && decide ((pgAt P n).no = n)
def chainF (P : List Pg) : Nat → Int → List Int → Option (List Pg)
  | 0, _, _ => none
  | f + 1, n, seen => if n = 0 then some [] else if okAt P n seen then (chainF P f (pgAt P n).next (seen ++ [n])).map (pgAt P n :: ·) else none
def chain (P : List Pg) (n : Int) : Option (List Pg) := chainF P (P.length + 1) n []
/-- What a stored list is: the list, its pages, the error. -/
def listOfS (P : List Pg) (n : Int) : List Fr × List Int × Int := match chain P n with
  | some ps => if listOfE ps = 0 then (joinF ps, sorted (ps.map (·.no)), 0) else ([], [], 8)
  | none => ([], [], 8)
/-- 'ps': the pages that are read; 'n': the next one. -/
structure ChI (P : List Pg) (n0 : Int) (ps : List Pg) (n : Int) : Prop where
  eq : chain P n0 = (chainF P (P.length + 1 - ps.length) n (ps.map (·.no))).map (ps ++ ·)
  nd : (ps.map (·.no)).Nodup
  rg : ∀ p ∈ ps, p ∈ P ∧ 2 ≤ p.no ∧ p.no < P.length
theorem nodup_leI {l m : List Int} (h : l.Nodup) (hs : l ⊆ m) : l.length ≤ m.length := by
  induction l generalizing m with
  | nil => simp
  | cons x l ih =>
    obtain ⟨h1, h2⟩ := List.nodup_cons.1 h
    have hx : x ∈ m := hs (by simp)
    have := ih (m := m.erase x) h2 fun y hy => (List.mem_erase_of_ne (fun e => h1 (by rw [← e]; exact hy))).2 (hs (by simp [hy]))
    rw [List.length_erase_of_mem hx] at this
    have : 0 < m.length := List.length_pos_of_mem hx
    simp
    omega
theorem ChI.len {P : List Pg} {n0 n : Int} {ps : List Pg} (h : ChI P n0 ps n) : ps.length ≤ P.length := by
  have := nodup_leI (m := (List.range P.length).map fun i : Nat => (i : Int)) h.nd (fun x hx => by
    obtain ⟨p, hp, rfl⟩ := List.mem_map.1 hx
    have := h.rg p hp
    exact List.mem_map.2 ⟨p.no.toNat, by simp; omega, by omega⟩)
  simpa using this
theorem ChI.init (P : List Pg) (n0 : Int) : ChI P n0 [] n0 := ⟨by simp [chain], by simp, by simp⟩
theorem ChI.fuel {P : List Pg} {n0 n : Int} {ps : List Pg} (h : ChI P n0 ps n) : ∃ f, P.length + 1 - ps.length = f + 1 := ⟨P.length - ps.length, by have := h.len; omega⟩
theorem ChI.done {P : List Pg} {n0 : Int} {ps : List Pg} (h : ChI P n0 ps 0) : chain P n0 = some ps := by
  obtain ⟨f, hf⟩ := h.fuel
  rw [h.eq, hf]
  simp [chainF]
theorem ChI.bad {P : List Pg} {n0 n : Int} {ps : List Pg} (h : ChI P n0 ps n) (hn : n ≠ 0) (hb : okAt P n (ps.map (·.no)) = false) : chain P n0 = none := by
  obtain ⟨f, hf⟩ := h.fuel
  rw [h.eq, hf]
  simp [chainF, hn, hb]
theorem okAt_pg {P : List Pg} {n : Int} {seen : List Int} (h : okAt P n seen = true) : 2 ≤ n ∧ n < P.length ∧ n ∉ seen ∧ (pgAt P n).kind = 4 ∧ (pgAt P n).no = n ∧ pgAt P n ∈ P := by
  simp only [okAt, Bool.and_eq_true, decide_eq_true_eq, Bool.not_eq_true', decide_eq_false_iff_not] at h
  obtain ⟨⟨⟨⟨h1, h2⟩, h3⟩, h4⟩, h5⟩ := h
  refine ⟨h1, h2, h3, h4, h5, ?_⟩
  have hlt : n.toNat < P.length := by omega
  unfold pgAt
  rw [List.getD, List.getElem?_eq_getElem hlt]
  exact List.getElem_mem hlt
theorem ChI.next {P : List Pg} {n0 n : Int} {ps : List Pg} (h : ChI P n0 ps n) (hn : n ≠ 0) (hok : okAt P n (ps.map (·.no)) = true) : ChI P n0 (ps ++ [pgAt P n]) (pgAt P n).next := by
  obtain ⟨h1, h2, h3, _, h5, h6⟩ := okAt_pg hok
  have hmap : (ps ++ [pgAt P n]).map (·.no) = ps.map (·.no) ++ [n] := by simp [h5]
  refine ⟨?_, ?_, fun p hp => ?_⟩
  · obtain ⟨f, hf⟩ := h.fuel
    rw [h.eq, hf, hmap]
    have hf2 : P.length + 1 - (ps ++ [pgAt P n]).length = f := by simp; omega
    rw [hf2]
    simp only [chainF, if_neg hn, hok, if_true]
    cases chainF P f (pgAt P n).next (ps.map (·.no) ++ [n]) <;> simp
  · rw [hmap]
    exact List.nodup_append.2 ⟨h.nd, by simp, fun a ha b hb e => by simp at hb; subst hb; subst e; exact h3 ha⟩
  · rcases List.mem_append.1 hp with hp | hp
    · exact h.rg p hp
    · simp at hp; subst hp; exact ⟨h6, by omega, by omega⟩
theorem ChI.sz {P : List Pg} {n0 n : Int} {ps : List Pg} {m : Nat} (h : ChI P n0 ps n) (hsz : PgSz P m) : PgSz ps m := fun p hp => hsz p (h.rg p hp).1
theorem pgAt_get {P : List Pg} {n : Int} (h0 : 0 ≤ n) (h1 : n < P.length) : P[n.toNat]? = some (pgAt P n) := by
  have hlt : n.toNat < P.length := by omega
  unfold pgAt
  rw [List.getD, List.getElem?_eq_getElem hlt]; rfl
end Go.Proofs.YtpmknffollpnaaaGreat
namespace Go.Proofs.YtpmknffollpnaaaGreat
open Go Go.VS
/-- A panic that is caught: 'ba' and 'bb' are reset, 'be' has the error. -/
theorem leave2 {rs : List ResultVar} {K : KR} {Kp : KP} {f : Nat → C} {ba bb be k : Nat} {s' : St} {xa xb za zb : List C} {e0 : C} {e : Int} (va : VS.look s'.objs ba = some xa) (vb : VS.look s'.objs bb = some xb) (ve : VS.look s'.objs be = some [e0])
    (dab : ba ≠ bb) (dae : ba ≠ be) (dbe : bb ≠ be)
    (hclo : ∀ s1 : St, VS.look s1.objs ba = some xa → VS.look s1.objs bb = some xb → CallC Tryz.prog k [ptr ba 0, ptr bb 0] s1 (fun _ s2 => s2 = { s1 with objs := putAt (putAt s1.objs ba za) bb zb }) (fun _ _ => False))
    (h : ∀ O, VS.look O ba = some za → VS.look O bb = some zb → VS.look O be = some [I e] → (∀ q x, q ≠ ba → q ≠ bb → q ≠ be → VS.look s'.objs q = some x → VS.look O q = some x) → ∃ c, resC Tryz.prog rs f { s' with objs := O } = some c ∧ ∃ s'', Sub { s' with objs := O } s'' ∧ K (strip c) s'') :
    leaveQ Tryz.prog rs K Kp f [dCaught be k #[.pointer (some ⟨ba, 0, none⟩), .pointer (some ⟨bb, 0, none⟩)]] (.panicking (fail e)) s' := by
  have ea : VS.look (putAt (putAt s'.objs ba za) bb zb) ba = some za := by rw [look_putAt, if_neg dab, look_putAt, if_pos rfl, va]; rfl
  have eb : VS.look (putAt (putAt s'.objs ba za) bb zb) bb = some zb := by rw [look_putAt, if_pos rfl, look_putAt, if_neg dab.symm, vb]; rfl
  have ee : VS.look (putAt (putAt s'.objs ba za) bb zb) be = some [e0] := by rw [look_putAt, if_neg dbe.symm, look_putAt, if_neg dae.symm, ve]
  have hnb : ∀ b5, VS.look s'.objs b5 = none → b5 ≠ ba ∧ b5 ≠ bb := fun b5 hq => ⟨fun e => (by subst e; rw [va] at hq; cases hq), fun e => (by subst e; rw [vb] at hq; cases hq)⟩
  have heff0 : ∀ b5, VS.look s'.objs b5 = none → VS.look (putAt (putAt s'.objs ba za) bb zb) b5 = none := fun b5 h => by
    obtain ⟨n6, n7⟩ := hnb b5 h
    rw [look_putAt, if_neg n7, look_putAt, if_neg n6]; exact h
  refine leave_pan (fun O => putAt (putAt O ba za) bb zb) (fun s1 h1 => hclo s1 (h1 _ _ va) (h1 _ _ vb)) (fun b c hO q x hq => ?_) (fun b c hO => ?_) e0 ee ?_
  · obtain ⟨n6, n7⟩ := hnb b hO
    show VS.look (putAt (putAt ((b, c) :: s'.objs) ba _) bb _) q = some x
    rw [putAt_cons _ _ _ _ _ n6, putAt_cons _ _ _ _ _ n7]
    exact lookCons (heff0 b hO) hq
  · obtain ⟨n6, n7⟩ := hnb b hO
    show VS.look (putAt (putAt ((b, c) :: s'.objs) ba _) bb _) b = some c
    rw [putAt_cons _ _ _ _ _ n6, putAt_cons _ _ _ _ _ n7]
    simp [VS.look]
  · refine h _ (by rw [look_putAt, if_neg dae]; exact ea) (by rw [look_putAt, if_neg dbe]; exact eb) (by rw [look_putAt, if_pos rfl, ee]; rfl) (fun q x h1 h2 h3 hq => ?_)
    rw [look_putAt, if_neg h3, look_putAt, if_neg h2, look_putAt, if_neg h1]
    exact hq
theorem listOf1_c (b4 b5 : Nat) (s : St) (c4 c5 : C) (h45 : b4 ≠ b5) (h4 : VS.look s.objs b4 = some [c4]) (h5 : VS.look s.objs b5 = some [c5]) :
    CallC Tryz.prog 71 [ptr b4 0, ptr b5 0] s (fun _ s' => s' = { s with objs := putAt (putAt s.objs b4 [.v (.slice none 0 0)]) b5 [.v (.slice none 0 0)] }) (fun _ _ => False) := by
  refine CallC_of Tryz.func71 rfl (by rfl) Tryz.ntmps71 (by simp) ?_
  refine W_reg ?_
  have h5' : VS.look (putAt s.objs b4 [.v (.slice none 0 0)]) b5 = some [c5] := by rw [look_putAt, if_neg h45.symm]; exact h5
  simp [go_sem, h4, h5', Ne.symm h45, h5, look_putAt]
  exact Sub.refl _
theorem pgsE_getE (l : List Pg) (k : Nat) (h : k < (pgsE l).length) : (pgsE l)[k] = pgC (l[k]'(by rw [pgsE_length] at h; exact h)) := by simp [pgsE]
/-- Memory in the middle of ListOf. -/
structure LoS (s s' : St) (x : Spc) (b2 b4 b5 b6 bb : Nat) (c5 : C) (ps : List Int) (r n : Nat) : Prop where
  v2 : VS.look s'.objs b2 = some (spcC x)
  v4 : VS.look s'.objs b4 = some [.v (.slice none 0 0)]
  v5 : VS.look s'.objs b5 = some [c5]
  v6 : VS.look s'.objs b6 = some [I 0]
  vb : VS.look s'.objs bb = some ((seenOf ps).map Bo)
  tk : VS.look s'.toks r = some (10, n)
  row : RowIn s.rows s'.rows c5 1 (intsE ps)
  nl : c5 ≠ .li none []
  o : ∀ k y, VS.look s.objs k = some y → VS.look s'.objs k = some y
  t : ∀ k y, VS.look s.toks k = some y → VS.look s'.toks k = some y
  m : ∀ k y, VS.look s.maps k = some y → VS.look s'.maps k = some y
/-- Its variables: none was there before. -/
structure LoD (s : St) (b2 b4 b5 b6 bb : Nat) : Prop where
  n2 : VS.look s.objs b2 = none
  n4 : VS.look s.objs b4 = none
  n5 : VS.look s.objs b5 = none
  n6 : VS.look s.objs b6 = none
  nb : VS.look s.objs bb = none
  d24 : b2 ≠ b4
  d25 : b2 ≠ b5
  d26 : b2 ≠ b6
  d2b : b2 ≠ bb
  d45 : b4 ≠ b5
  d46 : b4 ≠ b6
  d4b : b4 ≠ bb
  d56 : b5 ≠ b6
  d5b : b5 ≠ bb
  d6b : b6 ≠ bb
theorem LoS.sub {s s' : St} {x : Spc} {b2 b4 b5 b6 bb : Nat} {c5 : C} {ps : List Int} {r n : Nat} (h : LoS s s' x b2 b4 b5 b6 bb c5 ps r n) : Sub s' s := ⟨h.o, h.row.old, h.t, h.m⟩
/-- The bits, set. -/
theorem LoS.bit {s s' : St} {x : Spc} {b2 b4 b5 b6 bb : Nat} {c5 : C} {ps : List Int} {r n : Nat} (h : LoS s s' x b2 b4 b5 b6 bb c5 ps r n) (hD : LoD s b2 b4 b5 b6 bb) (cs : List C) :
    VS.look (putAt s'.objs bb cs) b2 = some (spcC x) ∧ VS.look (putAt s'.objs bb cs) b4 = some [.v (.slice none 0 0)] ∧ VS.look (putAt s'.objs bb cs) b5 = some [c5] ∧ VS.look (putAt s'.objs bb cs) b6 = some [I 0] ∧ VS.look (putAt s'.objs bb cs) bb = some cs ∧
      (∀ k y, VS.look s.objs k = some y → VS.look (putAt s'.objs bb cs) k = some y) := by
  refine ⟨by rw [look_putAt, if_neg hD.d2b]; exact h.v2, by rw [look_putAt, if_neg hD.d4b]; exact h.v4, by rw [look_putAt, if_neg hD.d5b]; exact h.v5, by rw [look_putAt, if_neg hD.d6b]; exact h.v6, by rw [look_putAt, if_pos rfl, h.vb]; rfl, fun k y hk => ?_⟩
  rw [look_putAt, if_neg (fun e => by subst e; rw [hD.nb] at hk; cases hk)]
  exact h.o k y hk
def loDs (b4 b5 b6 : Nat) : List Deferred := [dCaught b6 71 #[.pointer (some ⟨b4, 0, none⟩), .pointer (some ⟨b5, 0, none⟩)]]
/-- A panic in ListOf. -/
theorem listOf_err {s s' : St} {P : List Pg} {n : Int} {b2 b4 b5 b6 bb : Nat} {c4 c5 : C} {f : Nat → C} (hD : LoD s b2 b4 b5 b6 bb) (v4 : VS.look s'.objs b4 = some [c4]) (v5 : VS.look s'.objs b5 = some [c5]) (v6 : ∃ c6, VS.look s'.objs b6 = some [c6]) (hs : Sub s' s)
    (f4 : f 4 = ptr b4 0) (f5 : f 5 = ptr b5 0) (f6 : f 6 = ptr b6 0) (hr : listOfS P n = ([], [], 8)) :
    leaveQ Tryz.prog [.cell 4 26, .cell 5 23, .cell 6 30] (fun c s' => c = .tup [LF (listOfS P n).1, LI (listOfS P n).2.1, I (listOfS P n).2.2] ∧ s' = s) (fun _ _ => False) f (loDs b4 b5 b6) (.panicking (fail 8)) s' := by
  obtain ⟨c6, v6⟩ := v6
  refine leave2 v4 v5 v6 hD.d45 hD.d46 hD.d56 (fun s1 h4 h5 => listOf1_c b4 b5 s1 c4 c5 hD.d45 h4 h5) fun O g4 g5 g6 ho => ?_
  refine ⟨.tup [.v (.slice none 0 0), .v (.slice none 0 0), I 8], by simp [go_sem, f4, f5, f6, g4, g5, g6], s, ⟨fun k y hk => ?_, hs.rows, hs.toks, hs.maps⟩, by simp [go_sem, hr, frsE, intsE], rfl⟩
  exact ho k y (fun e => by subst e; rw [hD.n4] at hk; cases hk) (fun e => by subst e; rw [hD.n5] at hk; cases hk) (fun e => by subst e; rw [hD.n6] at hk; cases hk) (hs.objs _ _ hk)
set_option maxRecDepth 8000 in
theorem listOf_c (x : Spc) (n : Int) (hsz : PgSz x.pg 1000) (hl : x.pg.length ≤ 4096) : Pure Tryz.prog 32 [.agg (spcC x), I n] (.tup [LF (listOfS x.pg n).1, LI (listOfS x.pg n).2.1, I (listOfS x.pg n).2.2]) := by
  intro s
  refine CallC_ofD Tryz.func32 rfl (by rfl) Tryz.ntmps32 (by simp) ?_
  refine W_seq (W_reg ?_)
  simp [go_sem]
  refine WL_box (by simp [go_sem, spcC]) (by simp) fun b2 hb2 => WL_run _ _ _ ?_
  simp [go_sem]
  refine WL_alloc tzero_26 (by simp) fun b4 hb4 => WL_run _ _ _ ?_
  simp [go_sem]
  refine WL_alloc tzero_23 (by simp) fun b5 hb5 => WL_run _ _ _ ?_
  simp [go_sem]
  refine WL_alloc tzero_30 (by simp) fun b6 hb6 => WL_run _ _ _ ?_
  simp [go_sem]
  refine W_seq (W_reg ?_)
  simp [go_sem]
  refine WL_defer (k := 43) (first := #[]) (captured := #[]) (l := [.pointer (some ⟨b6, 0, none⟩), .func (.func 71) #[] #[.pointer (some ⟨b4, 0, none⟩), .pointer (some ⟨b5, 0, none⟩)]]) rfl (by simp [go_sem]) (by simp [go_sem, valsOf]) (WL_run _ _ _ ?_)
  simp [go_sem]
  refine W_seq (W_reg ?_)
  simp [go_sem]
  refine WL_box (by simp [go_sem]; intro x hx; rw [List.eq_of_mem_replicate hx]) (by simp) fun bb hbb => WL_run _ _ _ ?_
  simp [go_sem]
  refine W_seq (W_reg ?_)
  simp [go_sem]
  refine W_tok 8 10 (by simp [go_sem]) fun r hr => ?_
  have nn : ∀ {O : List (Nat × List C)} {q k : Nat} {x : List C}, VS.look ((q, x) :: O) k = none → VS.look O k = none ∧ q ≠ k := fun {O q k x} h => by
    by_cases e : q = k
    · subst e; simp [VS.look] at h
    · exact ⟨by simpa [VS.look, e] using h, e⟩
  have lk : ∀ {O : List (Nat × List C)} {q k : Nat} {y : List C}, VS.look O q = none → VS.look O k = some y → q ≠ k := fun h1 h2 e => by subst e; rw [h1] at h2; cases h2
  have n2 := hb2.1
  obtain ⟨n4, d24⟩ := nn hb4.1
  obtain ⟨n5a, d45⟩ := nn hb5.1
  obtain ⟨n5, d25⟩ := nn n5a
  obtain ⟨n6a, d56⟩ := nn hb6.1
  obtain ⟨n6b, d46⟩ := nn n6a
  obtain ⟨n6, d26⟩ := nn n6b
  obtain ⟨nba, d6b⟩ := nn hbb.1
  obtain ⟨nbb, d5b⟩ := nn nba
  obtain ⟨nbc, d4b⟩ := nn nbb
  obtain ⟨nb, d2b⟩ := nn nbc
  have hD : LoD s b2 b4 b5 b6 bb := ⟨n2, n4, n5, n6, nb, d24, d25, d26, d2b, d45, d46, d4b, d56, d5b, d6b⟩
  have hS : LoS s (St.mk ((bb, reps 4096 (Bo false)) :: (b6, [I 0]) :: (b5, [.v (.slice none 0 0)]) :: (b4, [.v (.slice none 0 0)]) :: (b2, spcC x) :: s.objs) s.rows ((r, (10, 0)) :: s.toks) s.maps) x b2 b4 b5 b6 bb (.v (.slice none 0 0)) [] r 0 := by
    refine ⟨?_, ?_, ?_, ?_, ?_, by simp [VS.look], ⟨.inl ⟨rfl, rfl⟩, fun _ _ h => h, fun b n hb => by cases hb⟩, by simp, fun k y hk => ?_, fun k y hk => lookCons hr hk, fun _ _ h => h⟩
    · simp [VS.look, d24, d25, d26, d2b, Ne.symm d24, Ne.symm d25, Ne.symm d26, Ne.symm d2b]
    · simp [VS.look, d45, d46, d4b, Ne.symm d45, Ne.symm d46, Ne.symm d4b]
    · simp [VS.look, d56, d5b, Ne.symm d56, Ne.symm d5b]
    · simp [VS.look, d6b, Ne.symm d6b]
    · simp [VS.look, seenOf, zeros_map]
    · have e2 := lk n2 hk
      have e4 := lk n4 hk
      have e5 := lk n5 hk
      have e6 := lk n6 hk
      have eb := lk nb hk
      simp [VS.look, e2, e4, e5, e6, eb, hk]
  refine (fun (h : ∀ s1 : St, LoS s s1 x b2 b4 b5 b6 bb (.v (.slice none 0 0)) [] r 0 → W Tryz.prog ⟨78, none⟩ _ _ s1 _) => h _ hS) ?_
  clear hS nba nbb nbc n6a n6b n5a hbb hb6 hb5 hb4 hb2 nn lk n2 n4 n5 n6 nb d24 d25 d26 d2b d45 d46 d4b d56 d5b d6b
  have hrn : VS.look s.toks r = none := hr
  clear hr
  intro s1 hS
  refine W_keep [(1, I n), (2, ptr b2 0), (4, ptr b4 0), (5, ptr b5 0), (6, ptr b6 0), (7, ptr bb 0), (8, .li (some r) [])] (by simp [go_sem]) ?_
  refine W_seq (W_seq (W_reg ?_))
  simp [go_sem]
  refine W_for (x.pg.length + 1) (fun k L s' => ∃ ps m c5, L = [(2, ptr b2 0), (4, ptr b4 0), (5, ptr b5 0), (6, ptr b6 0), (7, ptr bb 0), (8, .li (some r) (pgsE ps)), (9, I m)] ∧ ps.length = k ∧ ChI x.pg n ps m ∧ LoS s s' x b2 b4 b5 b6 bb c5 (ps.map (·.no)) r ps.length)
    (l0 := [(2, ptr b2 0), (4, ptr b4 0), (5, ptr b5 0), (6, ptr b6 0), (7, ptr bb 0), (8, .li (some r) []), (9, I n)]) (ds := loDs b4 b5 b6) ⟨[], n, _, rfl, rfl, ChI.init _ _, hS⟩ (by simp [go_sem]) (by rfl) ?_
  clear hS
  rintro k _ s2 hk ⟨ps, m, c5, rfl, hpk, hC, hS⟩ K hK
  refine W_reg ?_
  simp [go_sem]
  refine hK _ _ (decide (m ≠ 0)) [(2, ptr b2 0), (4, ptr b4 0), (5, ptr b5 0), (6, ptr b6 0), (7, ptr bb 0), (8, .li (some r) (pgsE ps)), (9, I m)] (by simp [go_sem]) (by simp [go_sem, bne]; by_cases h : m = 0 <;> simp [h]) (by simp [go_sem]) (fun hm0 => ?_) (fun hm0 => ?_)
  · simp only [decide_eq_true_eq] at hm0
    have hkl := hC.len
    have hrl : ∀ z ∈ ps.map (·.no), 0 ≤ z ∧ z < 4096 := fun z hz => by
      obtain ⟨p, hp, rfl⟩ := List.mem_map.1 hz
      have := hC.rg p hp
      omega
    refine ⟨by omega, W_seq_k fun K2 hK2 => W_reg ?_⟩
    have hbad : okAt x.pg m (ps.map (·.no)) = false → listOfS x.pg n = ([], [], 8) := fun h => by unfold listOfS; rw [hC.bad hm0 h]
    have hmin : (if (4096 : Int) < ((x.pg.length : Nat) : Int) then (4096 : Int) else ((x.pg.length : Nat) : Int)) = x.pg.length := by split <;> omega
    have hw1 : IntKind.i64.wrap ((x.pg.length : Int) - 1) = (x.pg.length : Int) - 1 := wrap_in (by omega) (by omega)
    have v2 := hS.v2
    simp only [spcC] at v2
    simp [go_sem, v2, pgsE_length, hmin, hw1]
    refine Pure.use (within_c _ _ _) ?_
    by_cases hin : 2 ≤ m ∧ m ≤ (x.pg.length : Int) - 1
    · have hwt : (decide (2 ≤ m) && decide (m ≤ (x.pg.length : Int) - 1)) = true := by simp [hin]
      rw [hwt]
      have hbit := seenOf_get (ps.map (·.no)) hrl m (by omega) (by omega)
      obtain ⟨u2, u4, u5, u6, ub, uo⟩ := hS.bit hD (((seenOf (ps.map (·.no))).set m.toNat true).map Bo)
      simp [go_sem]
      refine CallC.use (add_c bb (seenOf (ps.map (·.no))) m s2 hS.vb (seenOf_length _) (by omega) (by omega)) (fun c s3 hc => ?_) (fun _ _ h => h.elim)
      obtain ⟨rfl, hs3⟩ := hc
      rw [hbit]
      have hS3 : LoS s s3 x b2 b4 b5 b6 bb c5 (ps.map (·.no)) r ps.length ∨ True := .inr trivial
      have w2 : VS.look s3.objs b2 = some (spcC x) := by rw [hs3]; exact u2
      have w4 : VS.look s3.objs b4 = some [.v (.slice none 0 0)] := by rw [hs3]; exact u4
      have w5 : VS.look s3.objs b5 = some [c5] := by rw [hs3]; exact u5
      have w6 : VS.look s3.objs b6 = some [I 0] := by rw [hs3]; exact u6
      have wb : VS.look s3.objs bb = some ((seenOf (ps.map (·.no) ++ [m])).map Bo) := by rw [hs3, seenOf_snoc]; exact ub
      have wo : ∀ k y, VS.look s.objs k = some y → VS.look s3.objs k = some y := by rw [hs3]; exact uo
      have wr : s3.rows = s2.rows := by rw [hs3]
      have wt : s3.toks = s2.toks := by rw [hs3]
      have wm : s3.maps = s2.maps := by rw [hs3]
      have hsub3 : Sub s3 s := ⟨wo, by rw [wr]; exact hS.row.old, by rw [wt]; exact hS.t, by rw [wm]; exact hS.m⟩
      clear hS3 hs3 u2 u4 u5 u6 ub uo
      have herr : okAt x.pg m (ps.map (·.no)) = false → ∀ f : Nat → C, f 4 = ptr b4 0 → f 5 = ptr b5 0 → f 6 = ptr b6 0 →
          leaveQ Tryz.prog [.cell 4 26, .cell 5 23, .cell 6 30] (fun c s' => c = .tup [LF (listOfS x.pg n).1, LI (listOfS x.pg n).2.1, I (listOfS x.pg n).2.2] ∧ s' = s) (fun _ _ => False) f (loDs b4 b5 b6) (.panicking (fail 8)) s3 :=
        fun h f f4 f5 f6 => listOf_err hD w4 w5 ⟨_, w6⟩ hsub3 f4 f5 f6 (hbad h)
      have hpg := pgAt_get (P := x.pg) (n := m) (by omega) (by omega)
      have hml : m < (x.pg.length : Int) := by omega
      have hltm : m.toNat < x.pg.length := by omega
      have hge : x.pg[m.toNat] = pgAt x.pg m := by rw [List.getElem?_eq_getElem hltm] at hpg; injection hpg
      have hm0' : (0 : Int) ≤ m := by omega
      have w2' := w2
      simp only [spcC] at w2'
      by_cases hseen : m ∈ ps.map (·.no)
      · have hgf : decide (m ∈ ps.map (·.no)) = true := by simpa using hseen
        rw [hgf]
        simp [go_sem]
        refine (need_c _ _ _).use (fun c s4 hc => absurd hc.1 (by simp)) (fun ch s4 hc => ?_)
        obtain ⟨_, rfl, rfl⟩ := hc
        simp only [nextQ_panic, blockQ_panic, retD]
        refine herr ?_ _ ?_ ?_ ?_
        · simp only [okAt, hgf]; simp
        · simp [go_sem]
        · simp [go_sem]
        · simp [go_sem]
      · have hgf : decide (m ∈ ps.map (·.no)) = false := by simpa using hseen
        rw [hgf]
        by_cases hki : (pgAt x.pg m).kind = 4
        · by_cases hno : (pgAt x.pg m).no = m
          · simp [go_sem, w2', pgsE_length, pgsE_getE, hge, hltm, pgC, hki, hno, hml, hm0']
            refine (need_c _ _ _).use (fun c s4 hc => ?_) (fun ch s4 hc => absurd hc.1 (by simp))
            have hc3 := hc.2.symm
            subst hc3
            simp [go_sem]
            refine hK2 _ _ ?_
            have hok : okAt x.pg m (ps.map (·.no)) = true := by simp only [okAt, hgf, hki, hno]; simp; omega
            have hC2 := hC.next hm0 hok
            generalize hpp : pgAt x.pg m = p at hki hno hge hC2 hpg
            have hmap : (ps ++ [p]).map (·.no) = ps.map (·.no) ++ [m] := by simp [hno]
            refine W_keep [(2, ptr b2 0), (4, ptr b4 0), (5, ptr b5 0), (6, ptr b6 0), (7, ptr bb 0), (8, .li (some r) (pgsE ps)), (9, I m)] (by simp [go_sem]) ?_
            refine W_drawp_k (Ef := ?_) 12 [6, 7, 10, 11] (fun s' => s'.objs = s3.objs) Tryz.mixed (by kernel_rfl) rfl (fun s' hs' => ?_) (fun K9 hK9 => ?_)
            rotate_left
            · simp [go_sem, hs', w2', w5, pgsE_length, pgsE_getE, hge, hltm, pgC, hml, hm0']
              rfl
            · have fin : ∀ (E' : Env) (s' : St) (c6 : C), Has E' [(2, ptr b2 0), (4, ptr b4 0), (5, ptr b5 0), (6, ptr b6 0), (7, ptr bb 0), (9, I m), (61, .li (some r) (pgsE (ps ++ [p]))), (65, c6)] → E'.ds = loDs b4 b5 b6 → s'.objs = s3.objs → VS.look s'.toks r = some (10, ps.length + 1) →
                  (∀ k y, VS.look s.toks k = some y → VS.look s'.toks k = some y) → s'.maps = s2.maps → RowIn s.rows s'.rows c6 1 (intsE (ps.map (·.no) ++ [m])) → K9 E' s' := fun E' s' c6 h1 h2 ho htk htt hmm hR => hK9 _ _ (WL_keep _ h1 (by
                rw [h2]
                rcases hR.row with ⟨_, h⟩ | ⟨_, h⟩ | ⟨b', rfl, hb'⟩
                · simp [intsE] at h
                · simp [intsE] at h
                · have v5' : VS.look s'.objs b5 = some [c5] := by rw [ho]; exact w5
                  have v2' : VS.look (putAt s'.objs b5 [.rs b' (intsE (ps.map (·.no) ++ [m])).length]) b2 = some [LPg x.pg, LI x.free, LI x.fresh, LI x.gone, I x.ver, I x.tree] := by rw [look_putAt, if_neg hD.d25, ho]; exact w2'
                  have hS4 : LoS s { s' with objs := putAt s'.objs b5 [.rs b' (intsE (ps.map (·.no) ++ [m])).length] } x b2 b4 b5 b6 bb (.rs b' (intsE (ps.map (·.no) ++ [m])).length) ((ps ++ [p]).map (·.no)) r (ps ++ [p]).length := by
                    refine ⟨v2', by show VS.look (putAt s'.objs b5 _) b4 = _; rw [look_putAt, if_neg hD.d45, ho]; exact w4, by show VS.look (putAt s'.objs b5 _) b5 = _; rw [look_putAt, if_pos rfl, v5']; rfl, by show VS.look (putAt s'.objs b5 _) b6 = _; rw [look_putAt, if_neg hD.d56.symm, ho]; exact w6,
                      by show VS.look (putAt s'.objs b5 _) bb = _; rw [look_putAt, if_neg hD.d5b.symm, ho, hmap]; exact wb, by simpa using htk, by rw [hmap]; exact hR, by simp, fun k y hk => ?_, htt, fun k y hk => ?_⟩
                    · show VS.look (putAt s'.objs b5 _) k = some y
                      rw [look_putAt, if_neg (fun e => by subst e; rw [hD.n5] at hk; cases hk), ho]
                      exact wo k y hk
                    · show VS.look s'.maps k = some y
                      rw [hmm]; exact hS.m k y hk
                  generalize (intsE (ps.map (·.no) ++ [m])).length = q at v2' hS4 ⊢
                  refine WL_run _ _ _ ?_
                  simp [go_sem, v5']
                  refine W_reg ?_
                  simp [go_sem, v2', pgsE_length, pgsE_getE, hge, hltm, pgC, hml, hm0']
                  exact ⟨_, ⟨ps ++ [p], p.next, rfl, by simp; omega, hC2, _, hS4⟩, by simp [go_sem]⟩))
              have hpl : ps.length ≤ 4096 := by omega
              have htk3 : VS.look s3.toks r = some (10, ps.length) := by rw [wt]; exact hS.tk
              have htt3 : ∀ k y, VS.look s.toks k = some y → VS.look s3.toks k = some y := by rw [wt]; exact hS.t
              have hnr : ∀ k y, VS.look s.toks k = some y → k ≠ r := fun k y hk e => by subst e; rw [hrn] at hk; cases hk
              have hnos : (ps.map (·.no)).length = ps.length := by simp
              have hsn : pgsE ps ++ [pgC p] = pgsE (ps ++ [p]) := by simp [pgsE]
              have hin2 : intsE (ps.map (·.no)) ++ [[I m]] = intsE (ps.map (·.no) ++ [m]) := intsE_snoc _ _
              refine LP_step [6, 10] (by kernel_rfl) (fun i hi Q' hQ => ?_)
              simp only [List.mem_cons, List.not_mem_nil, or_false] at hi
              rcases hi with rfl | rfl
              · refine WL_buildSlice tel_22 (by simp [go_sem]) (by rfl) (by rfl) (by simp [VS.partsC, go_sem, pgC]) (by simp [VS.partsC, go_sem, pgC]) (by simp [go_sem]) (by simp) (by simp) fun r6 hr6 => hQ _ _ rfl ?_
                refine LP_step [7, 10] (by kernel_rfl) (fun i hi Q' hQ => ?_)
                simp only [List.mem_cons, List.not_mem_nil, or_false] at hi
                rcases hi with rfl | rfl
                · refine WL_append (r := r) (z := 10) (es := pgsE ps) (es2 := [pgC p]) tel_22 (by simp [go_sem]) (by simp [go_sem]) (by rw [pgsE_length]; exact lookCons hr6 htk3) (by simp [go_sem]) (by simp [go_sem]) (by simp [go_sem, elsC, VS.partsC, pgC]) (by simp [pgC]) (by simp [go_sem, pgsE_length]; omega) (by simp [go_sem]) (by simp) (hQ _ _ rfl ?_)
                  refine LP_step [10] (by kernel_rfl) (fun i hi Q' hQ => ?_)
                  obtain rfl : i = 10 := by simpa using hi
                  refine WL_buildSlice tel_23 (by simp [go_sem]) (by rfl) (by rfl) (by simp [VS.partsC, go_sem]) (by simp [VS.partsC, go_sem]) (by simp [go_sem]) (by simp) (by simp) fun r10 hr10 => hQ _ _ rfl ?_
                  refine LP_step [11] (by kernel_rfl) (fun i hi Q' hQ => ?_)
                  obtain rfl : i = 11 := by simpa using hi
                  refine WL_appendRow (R0 := s.rows) (es := intsE (ps.map (·.no))) (es2 := [[I m]]) (e := 3) (by simpa [go_sem, wr] using hS.row) (by simpa [go_sem] using hS.nl) tel_23 (by simp [go_sem]) (by simp [go_sem]) (by simp [go_sem, elsC, VS.partsC]) (fun q hq => by simp at hq; subst hq; simp [go_sem]) (by simp [go_sem, intsE_length]; omega) (by simp [go_sem]) (by simp) fun c6 R6 hR6 hnl6 => hQ _ _ rfl ?_
                  refine LP_nil (fin _ _ c6 (by simp [go_sem, hsn]) (by simp [go_sem]) rfl (lookCons hr10 (by rw [look_putAt, if_pos rfl, lookCons hr6 htk3]; simp [pgsE_length])) (fun k y hk => lookCons hr10 (by rw [look_putAt, if_neg (hnr k y hk)]; exact lookCons hr6 (htt3 k y hk))) wm (by rw [tsz_3, hin2] at hR6; exact hR6))
                · refine WL_buildSlice tel_23 (by simp [go_sem]) (by rfl) (by rfl) (by simp [VS.partsC, go_sem]) (by simp [VS.partsC, go_sem]) (by simp [go_sem]) (by simp) (by simp) fun r10 hr10 => hQ _ _ rfl ?_
                  refine LP_step [7] (by kernel_rfl) (fun i hi Q' hQ => ?_)
                  obtain rfl : i = 7 := by simpa using hi
                  refine WL_append (r := r) (z := 10) (es := pgsE ps) (es2 := [pgC p]) tel_22 (by simp [go_sem]) (by simp [go_sem]) (by rw [pgsE_length]; exact lookCons hr10 (lookCons hr6 htk3)) (by simp [go_sem]) (by simp [go_sem]) (by simp [go_sem, elsC, VS.partsC, pgC]) (by simp [pgC]) (by simp [go_sem, pgsE_length]; omega) (by simp [go_sem]) (by simp) (hQ _ _ rfl ?_)
                  refine LP_step [11] (by kernel_rfl) (fun i hi Q' hQ => ?_)
                  obtain rfl : i = 11 := by simpa using hi
                  refine WL_appendRow (R0 := s.rows) (es := intsE (ps.map (·.no))) (es2 := [[I m]]) (e := 3) (by simpa [go_sem, wr] using hS.row) (by simpa [go_sem] using hS.nl) tel_23 (by simp [go_sem]) (by simp [go_sem]) (by simp [go_sem, elsC, VS.partsC]) (fun q hq => by simp at hq; subst hq; simp [go_sem]) (by simp [go_sem, intsE_length]; omega) (by simp [go_sem]) (by simp) fun c6 R6 hR6 hnl6 => hQ _ _ rfl ?_
                  refine LP_nil (fin _ _ c6 (by simp [go_sem, hsn]) (by simp [go_sem]) rfl (by show VS.look (putAt _ r _) r = _; rw [look_putAt, if_pos rfl, lookCons hr10 (lookCons hr6 htk3)]; simp [pgsE_length]) (fun k y hk => by show VS.look (putAt _ r _) k = _; rw [look_putAt, if_neg (hnr k y hk)]; exact lookCons hr10 (lookCons hr6 (htt3 k y hk))) wm (by rw [tsz_3, hin2] at hR6; exact hR6))
              · refine WL_buildSlice tel_23 (by simp [go_sem]) (by rfl) (by rfl) (by simp [VS.partsC, go_sem]) (by simp [VS.partsC, go_sem]) (by simp [go_sem]) (by simp) (by simp) fun r10 hr10 => hQ _ _ rfl ?_
                refine LP_step [6] (by kernel_rfl) (fun i hi Q' hQ => ?_)
                obtain rfl : i = 6 := by simpa using hi
                refine WL_buildSlice tel_22 (by simp [go_sem]) (by rfl) (by rfl) (by simp [VS.partsC, go_sem, pgC]) (by simp [VS.partsC, go_sem, pgC]) (by simp [go_sem]) (by simp) (by simp) fun r6 hr6 => hQ _ _ rfl ?_
                refine LP_step [7] (by kernel_rfl) (fun i hi Q' hQ => ?_)
                obtain rfl : i = 7 := by simpa using hi
                refine WL_append (r := r) (z := 10) (es := pgsE ps) (es2 := [pgC p]) tel_22 (by simp [go_sem]) (by simp [go_sem]) (by rw [pgsE_length]; exact lookCons hr6 (lookCons hr10 htk3)) (by simp [go_sem]) (by simp [go_sem]) (by simp [go_sem, elsC, VS.partsC, pgC]) (by simp [pgC]) (by simp [go_sem, pgsE_length]; omega) (by simp [go_sem]) (by simp) (hQ _ _ rfl ?_)
                refine LP_step [11] (by kernel_rfl) (fun i hi Q' hQ => ?_)
                obtain rfl : i = 11 := by simpa using hi
                refine WL_appendRow (R0 := s.rows) (es := intsE (ps.map (·.no))) (es2 := [[I m]]) (e := 3) (by simpa [go_sem, wr] using hS.row) (by simpa [go_sem] using hS.nl) tel_23 (by simp [go_sem]) (by simp [go_sem]) (by simp [go_sem, elsC, VS.partsC]) (fun q hq => by simp at hq; subst hq; simp [go_sem]) (by simp [go_sem, intsE_length]; omega) (by simp [go_sem]) (by simp) fun c6 R6 hR6 hnl6 => hQ _ _ rfl ?_
                refine LP_nil (fin _ _ c6 (by simp [go_sem, hsn]) (by simp [go_sem]) rfl (by show VS.look (putAt _ r _) r = _; rw [look_putAt, if_pos rfl, lookCons hr6 (lookCons hr10 htk3)]; simp [pgsE_length]) (fun k y hk => by show VS.look (putAt _ r _) k = _; rw [look_putAt, if_neg (hnr k y hk)]; exact lookCons hr6 (lookCons hr10 (htt3 k y hk))) wm (by rw [tsz_3, hin2] at hR6; exact hR6))
          · have hno' : ((pgAt x.pg m).no == m) = false := by simpa using hno
            simp [go_sem, w2', pgsE_length, pgsE_getE, hge, hltm, pgC, hki, hno', hml, hm0']
            refine (need_c _ _ _).use (fun c s4 hc => absurd hc.1 (by simp)) (fun ch s4 hc => ?_)
            obtain ⟨_, rfl, rfl⟩ := hc
            simp only [nextQ_panic, blockQ_panic, retD]
            refine herr ?_ _ ?_ ?_ ?_
            · simp [okAt, hno]
            · simp [go_sem]
            · simp [go_sem]
            · simp [go_sem]
        · have hki' : ((pgAt x.pg m).kind == 4) = false := by simpa using hki
          simp [go_sem, w2', pgsE_length, pgsE_getE, hge, hltm, pgC, hki', hml, hm0']
          refine (need_c _ _ _).use (fun c s4 hc => absurd hc.1 (by simp)) (fun ch s4 hc => ?_)
          obtain ⟨_, rfl, rfl⟩ := hc
          simp only [nextQ_panic, blockQ_panic, retD]
          refine herr ?_ _ ?_ ?_ ?_
          · simp [okAt, hki]
          · simp [go_sem]
          · simp [go_sem]
          · simp [go_sem]
    · have hwf : (decide (2 ≤ m) && decide (m ≤ (x.pg.length : Int) - 1)) = false := by simp; omega
      rw [hwf]
      simp [go_sem]
      refine (need_c _ _ _).use (fun c s4 hc => absurd hc.1 (by simp)) (fun ch s4 hc => ?_)
      obtain ⟨_, rfl, rfl⟩ := hc
      simp only [nextQ_panic, blockQ_panic, retD]
      refine listOf_err hD hS.v4 hS.v5 ⟨_, hS.v6⟩ hS.sub (by simp [go_sem]) (by simp [go_sem]) (by simp [go_sem]) (hbad ?_)
      simp [okAt]; omega
  · simp only [decide_eq_false_iff_not, ne_eq, Decidable.not_not] at hm0
    subst hm0
    have hch := hC.done
    have hnl5 := hC.len
    simp only [go_sem]
    refine W_keep [(2, ptr b2 0), (4, ptr b4 0), (5, ptr b5 0), (6, ptr b6 0), (7, ptr bb 0), (8, .li (some r) (pgsE ps))] (by simp [go_sem]) ?_
    refine W_seq (W_reg ?_)
    have v5 := hS.v5
    simp [go_sem, v5]
    rw [hS.row.stripA]
    refine (sortRow_c _ _ hS.row (by simp; omega)).use (fun c s3 hc => ?_) (fun _ _ h => h.elim)
    obtain ⟨R', rfl, hR⟩ := hc
    simp [go_sem]
    refine W_freezec (b := b5) (cs := [c5]) 0 1 (intsE (sorted (ps.map (·.no)))) s.rows v5 rfl hR (intsE_one _) ?_
    have w : ∀ {k : Nat} {y : List C}, k ≠ b5 → VS.look s2.objs k = some y → VS.look (putAt s2.objs b5 ([c5].set 0 (LI (sorted (ps.map (·.no)))))) k = some y := fun hk h => by rw [look_putAt, if_neg hk]; exact h
    have hsub3 : Sub ({ s2 with objs := putAt s2.objs b5 ([c5].set 0 (LI (sorted (ps.map (·.no))))), rows := s.rows } : St) s := ⟨fun k y hk => w (fun e => by subst e; rw [hD.n5] at hk; cases hk) (hS.o k y hk), fun _ _ h => h, hS.t, hS.m⟩
    refine (fun (h : ∀ s4 : St, VS.look s4.objs b4 = some [.v (.slice none 0 0)] → VS.look s4.objs b5 = some [LI (sorted (ps.map (·.no)))] → VS.look s4.objs b6 = some [I 0] → Sub s4 s → W Tryz.prog ⟨78, none⟩ _ _ s4 _) => h _ (w hD.d45 hS.v4) (by rw [look_putAt, if_pos rfl, v5]; rfl) (w hD.d56.symm hS.v6) hsub3) ?_
    clear hsub3 w hR v5 hS
    intro s4 w4 w5 w6 hsub
    refine W_keep [(2, ptr b2 0), (4, ptr b4 0), (5, ptr b5 0), (6, ptr b6 0), (7, ptr bb 0), (8, .li (some r) (pgsE ps))] (by simp [go_sem]) ?_
    refine W_seq (W_reg ?_)
    simp [go_sem]
    refine Pure.use (pageListOf_c ps (hC.sz hsz) (by omega) hC.nd) ?_
    have e6 : VS.look (putAt s4.objs b4 [LF (listOfL ps)]) b6 = some [I 0] := by rw [look_putAt, if_neg hD.d46.symm]; exact w6
    simp [go_sem, w4, e6]
    have z4 : VS.look (putAt (putAt s4.objs b4 [LF (listOfL ps)]) b6 [I (listOfE ps)]) b4 = some [LF (listOfL ps)] := by rw [look_putAt, if_neg hD.d46, look_putAt, if_pos rfl, w4]; rfl
    have z5 : VS.look (putAt (putAt s4.objs b4 [LF (listOfL ps)]) b6 [I (listOfE ps)]) b5 = some [LI (sorted (ps.map (·.no)))] := by rw [look_putAt, if_neg hD.d56, look_putAt, if_neg hD.d45.symm]; exact w5
    have z6 : VS.look (putAt (putAt s4.objs b4 [LF (listOfL ps)]) b6 [I (listOfE ps)]) b6 = some [I (listOfE ps)] := by rw [look_putAt, if_pos rfl, e6]; rfl
    have zs : Sub ({ s4 with objs := putAt (putAt s4.objs b4 [LF (listOfL ps)]) b6 [I (listOfE ps)] } : St) s := sub_put (sub_put hsub hD.n4 _) hD.n6 _
    refine (fun (h : ∀ s5 : St, VS.look s5.objs b4 = some [LF (listOfL ps)] → VS.look s5.objs b5 = some [LI (sorted (ps.map (·.no)))] → VS.look s5.objs b6 = some [I (listOfE ps)] → Sub s5 s → W Tryz.prog ⟨78, none⟩ _ _ s5 _) => h _ z4 z5 z6 zs) ?_
    clear z4 z5 z6 zs e6 w4 w5 w6 hsub
    intro s5 v4 v5 v6 hsub
    refine W_keep [(4, ptr b4 0), (5, ptr b5 0), (6, ptr b6 0)] (by simp [go_sem]) ?_
    refine W_seq (W_reg ?_)
    by_cases he : listOfE ps = 0
    · rw [he] at v6
      simp [go_sem, v6]
      refine (need_c _ _ _).use (fun c s6 hc => ?_) (fun ch s6 hc => absurd hc.1 (by simp))
      have hc3 := hc.2.symm
      subst hc3
      simp [go_sem]
      refine W_keep [(4, ptr b4 0), (5, ptr b5 0), (6, ptr b6 0)] (by simp [go_sem]) ?_
      refine W_seq (W_draws (Ef := ?_) 3 [2] (fun s' => VS.look s'.objs b4 = some [LF (listOfL ps)] ∧ VS.look s'.objs b5 = some [LI (sorted (ps.map (·.no)))] ∧ VS.look s'.objs b6 = some [I 0] ∧ Sub s' s) Tryz.mixed (by kernel_rfl) ⟨v4, v5, v6, hsub⟩ (fun s' hs' => ?_) ?_)
      rotate_left
      · simp [go_sem, hs'.1, hs'.2.1]
        rfl
      · refine LL_cons fun Q' hQ => ?_
        refine WL_st (s' := { s5 with objs := putAt s5.objs b4 [LF (listOfL ps)] }) (by simp [go_sem, v4]) (hQ .junk _ ⟨by show VS.look (putAt s5.objs b4 _) b4 = _; rw [look_putAt, if_pos rfl, v4]; rfl, by show VS.look (putAt s5.objs b4 _) b5 = _; rw [look_putAt, if_neg hD.d45.symm]; exact v5, by show VS.look (putAt s5.objs b4 _) b6 = _; rw [look_putAt, if_neg hD.d46.symm]; exact v6, sub_put hsub hD.n4 _⟩ ?_)
        have u5 : ∀ y : List C, VS.look (putAt s5.objs b4 y) b5 = some [LI (sorted (ps.map (·.no)))] := fun y => by rw [look_putAt, if_neg hD.d45.symm]; exact v5
        have u6 : ∀ y z : List C, VS.look (putAt (putAt s5.objs b4 y) b5 z) b6 = some [I 0] := fun y z => by rw [look_putAt, if_neg hD.d56.symm, look_putAt, if_neg hD.d46.symm]; exact v6
        refine LL_nil (WL_run _ _ _ ?_)
        simp [go_sem, v4, v5, u5, u6]
        refine W_ret ?_
        simp only [retD, envL_ds, set_ds]
        refine leave_ret ⟨.tup [LF (listOfL ps), LI (sorted (ps.map (·.no))), I 0], ?_, s, sub_put (sub_put (sub_put hsub hD.n4 _) hD.n5 _) hD.n6 _, ?_, rfl⟩
        · have g4 : ∀ y z q : List C, VS.look (putAt (putAt (putAt s5.objs b4 y) b5 z) b6 q) b4 = some y := fun y z q => by rw [look_putAt, if_neg hD.d46, look_putAt, if_neg hD.d45, look_putAt, if_pos rfl, v4]; rfl
          have g5 : ∀ y z q : List C, VS.look (putAt (putAt (putAt s5.objs b4 y) b5 z) b6 q) b5 = some z := fun y z q => by rw [look_putAt, if_neg hD.d56, look_putAt, if_pos rfl, u5]; rfl
          have g6 : ∀ y z q : List C, VS.look (putAt (putAt (putAt s5.objs b4 y) b5 z) b6 q) b6 = some q := fun y z q => by rw [look_putAt, if_pos rfl, u6]; rfl
          simp [go_sem, g4, g5, g6]
        · simp [go_sem, listOfS, hch, he, listOfL]
    · have he' : (listOfE ps == 0) = false := by simpa using he
      simp [go_sem, v6, he']
      refine (need_c _ _ _).use (fun c s6 hc => absurd hc.1 (by simp)) (fun ch s6 hc => ?_)
      obtain ⟨_, rfl, rfl⟩ := hc
      simp only [nextQ_panic, retD]
      exact listOf_err hD v4 v5 ⟨_, v6⟩ hsub (by simp [go_sem]) (by simp [go_sem]) (by simp [go_sem]) (by simp [listOfS, hch, he])
end Go.Proofs.YtpmknffollpnaaaGreat
namespace Go.Proofs.YtpmknffollpnaaaGreat
open Go Go.VS
def zlo : List C := [.v (.slice none 0 0), .v (.slice none 0 0), I 0]
/-- Memory in the middle of the reference's ListOf. -/
structure LrS (s s' : St) (x : Spc) (b2 b4 b6 : Nat) (l : List Int) (r n : Nat) : Prop where
  v2 : VS.look s'.objs b2 = some (spcC x)
  v4 : VS.look s'.objs b4 = some zlo
  v6 : VS.look s'.objs b6 = some [.v (.slice none 0 0), LI l, I 0]
  tk : VS.look s'.toks r = some (10, n)
  sub : Sub s' s
structure LrD (s : St) (b2 b4 b6 r : Nat) : Prop where
  n2 : VS.look s.objs b2 = none
  n4 : VS.look s.objs b4 = none
  n6 : VS.look s.objs b6 = none
  d24 : b2 ≠ b4
  d26 : b2 ≠ b6
  d46 : b4 ≠ b6
  nr : VS.look s.toks r = none
theorem LrS.obj {s s' : St} {x : Spc} {b2 b4 b6 : Nat} {l : List Int} {r n : Nat} (h : LrS s s' x b2 b4 b6 l r n) {b : Nat} (hb : Fresh b s') (cs : List C) : LrS s { s' with objs := (b, cs) :: s'.objs } x b2 b4 b6 l r n :=
  ⟨lookCons hb.1 h.v2, lookCons hb.1 h.v4, lookCons hb.1 h.v6, h.tk, Sub.trans (sub_obj hb cs) h.sub⟩
theorem LrS.put {s s' : St} {x : Spc} {b2 b4 b6 : Nat} {l : List Int} {r n : Nat} (h : LrS s s' x b2 b4 b6 l r n) (hD : LrD s b2 b4 b6 r) (l' : List Int) : LrS s { s' with objs := putAt s'.objs b6 [.v (.slice none 0 0), LI l', I 0] } x b2 b4 b6 l' r n :=
  ⟨by show VS.look (putAt s'.objs b6 _) b2 = _; rw [look_putAt, if_neg hD.d26]; exact h.v2, by show VS.look (putAt s'.objs b6 _) b4 = _; rw [look_putAt, if_neg hD.d46]; exact h.v4, by show VS.look (putAt s'.objs b6 _) b6 = _; rw [look_putAt, if_pos rfl, h.v6]; rfl, h.tk, sub_put h.sub hD.n6 _⟩
set_option maxRecDepth 8000 in
theorem refListOf_c (x : Spc) (n : Int) (hsz : PgSz x.pg 1000) (hl : x.pg.length ≤ 4096) : Pure Tryz.prog 34 [.agg (spcC x), I n] (.agg [LF (listOfS x.pg n).1, LI (listOfS x.pg n).2.1, I (listOfS x.pg n).2.2]) := by
  intro s
  refine CallC_of Tryz.func34 rfl (by rfl) Tryz.ntmps34 (by simp) ?_
  refine W_seq (W_reg ?_)
  simp [go_sem]
  refine WL_box (by simp [go_sem, spcC]) (by simp) fun b2 hb2 => WL_run _ _ _ ?_
  simp [go_sem]
  refine WL_alloc tzero_68 (by simp) fun b4 hb4 => WL_run _ _ _ ?_
  simp [go_sem]
  refine W_seq (W_reg ?_)
  simp [go_sem]
  refine W_tok 5 10 (by simp [go_sem]) fun r hr => ?_
  refine W_seq (W_reg ?_)
  simp [go_sem]
  refine WL_alloc tzero_68 (by simp) fun b6 hb6 => WL_run _ _ _ ?_
  simp [go_sem]
  have nn : ∀ {O : List (Nat × List C)} {q k : Nat} {x : List C}, VS.look ((q, x) :: O) k = none → VS.look O k = none ∧ q ≠ k := fun {O q k x} h => by
    by_cases e : q = k
    · subst e; simp [VS.look] at h
    · exact ⟨by simpa [VS.look, e] using h, e⟩
  have lk : ∀ {O : List (Nat × List C)} {q k : Nat} {y : List C}, VS.look O q = none → VS.look O k = some y → q ≠ k := fun h1 h2 e => by subst e; rw [h1] at h2; cases h2
  have n2 := hb2.1
  obtain ⟨n4, d24⟩ := nn hb4.1
  obtain ⟨n6a, d46⟩ := nn hb6.1
  obtain ⟨n6, d26⟩ := nn n6a
  have hD : LrD s b2 b4 b6 r := ⟨n2, n4, n6, d24, d26, d46, hr⟩
  refine W_cells (b := b6) (cs := zlo) (cs' := [.v (.slice none 0 0), LI [], I 0]) (by simp [VS.look, zlo]) rfl (fun w g hst j hj v hv => ?_) ?_
  · match j, hj with
    | 0, _ => exact hv
    | 1, _ => exact Le.nil.R hv
    | 2, _ => exact hv
  have hS : LrS s (St.mk (putAt ((b6, zlo) :: (b4, zlo) :: (b2, spcC x) :: s.objs) b6 [.v (.slice none 0 0), LI [], I 0]) s.rows ((r, (10, 0)) :: s.toks) s.maps) x b2 b4 b6 [] r 0 := by
    refine ⟨?_, ?_, ?_, by simp [VS.look], fun k y hk => ?_, fun _ _ h => h, fun k y hk => lookCons hr hk, fun _ _ h => h⟩
    · simp [VS.look, putAt, d24, d26, d46, Ne.symm d24, Ne.symm d26, Ne.symm d46]
    · simp [VS.look, putAt, d24, d26, d46, Ne.symm d24, Ne.symm d26, Ne.symm d46]
    · simp [VS.look, putAt]
    · have e2 := lk n2 hk
      have e4 := lk n4 hk
      have e6 := lk n6 hk
      simp [VS.look, putAt, e2, e4, e6, hk]
  refine (fun (h : ∀ s1 : St, LrS s s1 x b2 b4 b6 [] r 0 → W Tryz.prog ⟨65, none⟩ _ _ s1 _) => h _ hS) ?_
  clear hS n2 n4 n6a n6 d24 d26 d46 hb2 hb4 hb6 hr nn lk
  intro s1 hS
  refine W_keep [(1, I n), (2, ptr b2 0), (4, ptr b4 0), (5, .li (some r) []), (6, ptr b6 0)] (by simp [go_sem]) ?_
  refine W_seq (W_seq (W_reg ?_))
  simp [go_sem]
  have wth : ∀ (l : List Int) (m : Int), withI (l.foldl withI []) m = (l ++ [m]).foldl withI [] := fun l m => by simp
  have hfin : ∀ (s' : St) (y : List C), Sub s' s → Sub ({ s' with objs := putAt s'.objs b4 y } : St) s := fun s' y h => sub_put h hD.n4 y
  have herr : ∀ (s' : St) (y : List C), VS.look s'.objs b4 = some zlo → VS.look (putAt s'.objs b4 y) b4 = some y := fun s' y h4 => by rw [look_putAt, if_pos rfl, h4]; rfl
  refine W_while (x.pg.length + 1) (fun q L s' => ∃ ps m, L = [(2, ptr b2 0), (4, ptr b4 0), (5, .li (some r) (pgsE ps)), (6, ptr b6 0), (7, I m)] ∧ q = x.pg.length + 1 - ps.length ∧ ChI x.pg n ps m ∧ LrS s s' x b2 b4 b6 ((ps.map (·.no)).foldl withI []) r ps.length)
    (l0 := [(2, ptr b2 0), (4, ptr b4 0), (5, .li (some r) []), (6, ptr b6 0), (7, I n)]) (ds := []) ⟨[], n, rfl, by simp, ChI.init _ _, hS⟩ (by simp [go_sem]) (by rfl) ?_
  clear hS
  rintro q _ s2 ⟨ps, m, rfl, rfl, hC, hS⟩ K hK
  refine W_reg ?_
  simp [go_sem]
  refine hK _ _ (decide (m ≠ 0)) [(2, ptr b2 0), (4, ptr b4 0), (5, .li (some r) (pgsE ps)), (6, ptr b6 0), (7, I m)] (by simp [go_sem]) (by simp [go_sem, bne]; by_cases h : m = 0 <;> simp [h]) (by simp [go_sem]) (fun hm0 K2 hK2 => ?_) (fun hm0 => ?_)
  · simp only [decide_eq_true_eq] at hm0
    have hkl := hC.len
    have hbad : okAt x.pg m (ps.map (·.no)) = false → listOfS x.pg n = ([], [], 8) := fun h => by unfold listOfS; rw [hC.bad hm0 h]
    have hmem : decide (m ∈ (ps.map (·.no)).foldl withI []) = decide (m ∈ ps.map (·.no)) := by
      have := (foldWith_perm [] (ps.map (·.no))).mem_iff (a := m)
      simp only [List.nil_append] at this
      simp [this]
    have v2 := hS.v2
    have v4 := hS.v4
    have v6 := hS.v6
    simp only [spcC] at v2
    simp only [zlo] at v4
    refine W_seq (W_seq_k fun K3 hK3 => W_reg ?_)
    have key : ∀ E' t, Has E' [(27, Bo t), (2, ptr b2 0), (4, ptr b4 0), (5, .li (some r) (pgsE ps)), (6, ptr b6 0), (7, I m)] → E'.ds = [] → (t = true → okAt x.pg m (ps.map (·.no)) = false) → (t = false → 2 ≤ m ∧ m < x.pg.length ∧ m ∉ ps.map (·.no)) → K3 E' s2 := fun E' t h1 h2 ht hf => hK3 _ _ (W_keep _ h1 (by
      rw [h2]
      refine W_ifs t (by simp [go_sem]) (fun h => W_seq (W_reg ?_)) (fun h => W_skip ?_)
      · simp [go_sem, VS.partsC, v4]
        refine W_ret ?_
        simp only [go_sem]
        refine ⟨trivial, .agg [.v (.slice none 0 0), .v (.slice none 0 0), I 8], ?_, s, hfin s2 _ hS.sub, by simp [go_sem, hbad (ht h), frsE, intsE], rfl⟩
        simp [go_sem, herr s2 _ hS.v4]
      · obtain ⟨h2m, hml, hns⟩ := hf h
        simp only [go_sem]
        have hltm : m.toNat < x.pg.length := by omega
        have hpg := pgAt_get (P := x.pg) (n := m) (by omega) hml
        have hge : x.pg[m.toNat] = pgAt x.pg m := by rw [List.getElem?_eq_getElem hltm] at hpg; injection hpg
        have hm0' : (0 : Int) ≤ m := by omega
        refine W_keep [(2, ptr b2 0), (4, ptr b4 0), (5, .li (some r) (pgsE ps)), (6, ptr b6 0), (7, I m)] (by simp [go_sem]) ?_
        refine W_seq (W_reg ?_)
        simp [go_sem, v2, pgsE_length, pgsE_getE, hge, hltm, pgC, hml, hm0']
        refine WL_alloc tzero_89 (by simp) fun b8 hb8 => WL_run _ _ _ ?_
        simp [go_sem]
        have hS3 := hS.obj hb8 (pgC (pgAt x.pg m))
        generalize hpp : pgAt x.pg m = p at hS3 hge hpg
        refine (fun (h : ∀ s3 : St, LrS s s3 x b2 b4 b6 ((ps.map (·.no)).foldl withI []) r ps.length → VS.look s3.objs b8 = some (pgC p) → b8 ≠ b6 → W Tryz.prog ⟨65, none⟩ _ _ s3 _) => h _ hS3 (by simp [VS.look, pgC]) (fun e => by have := hb8.1; rw [e, show VS.look s2.objs b6 = _ from hS.v6] at this; cases this)) ?_
        clear hS3 hb8
        intro s3 hS3 v8 d86
        simp only [pgC] at v8
        have v43 := hS3.v4
        simp only [zlo] at v43
        refine W_keep [(2, ptr b2 0), (4, ptr b4 0), (5, .li (some r) (pgsE ps)), (6, ptr b6 0), (7, I m), (8, ptr b8 0)] (by simp [go_sem]) ?_
        refine W_seq (W_seq_k fun K4 hK4 => W_reg ?_)
        have key2 : ∀ E' t, Has E' [(42, Bo t), (2, ptr b2 0), (4, ptr b4 0), (5, .li (some r) (pgsE ps)), (6, ptr b6 0), (7, I m), (8, ptr b8 0)] → E'.ds = [] → (t = true → okAt x.pg m (ps.map (·.no)) = false) → (t = false → okAt x.pg m (ps.map (·.no)) = true) → K4 E' s3 := fun E' t h1 h2 ht hf => hK4 _ _ (W_keep _ h1 (by
          rw [h2]
          refine W_ifs t (by simp [go_sem]) (fun h => W_seq (W_reg ?_)) (fun h => W_skip ?_)
          · simp [go_sem, VS.partsC, v43]
            refine W_ret ?_
            simp only [go_sem]
            refine ⟨trivial, .agg [.v (.slice none 0 0), .v (.slice none 0 0), I 8], ?_, s, hfin s3 _ hS3.sub, by simp [go_sem, hbad (ht h), frsE, intsE], rfl⟩
            simp [go_sem, herr s3 _ hS3.v4]
          · have hok := hf h
            have hC2 := hC.next hm0 hok
            rw [hpp] at hC2
            have hno : p.no = m := by rw [← hpp]; exact (okAt_pg hok).2.2.2.2.1
            have hmap : (ps ++ [p]).map (·.no) = ps.map (·.no) ++ [m] := by simp [hno]
            simp only [go_sem]
            have v63 := hS3.v6
            have hwl : ((ps.map (·.no)).foldl withI []).length = ps.length := by rw [foldWith_len]; simp
            refine W_keep [(2, ptr b2 0), (4, ptr b4 0), (5, .li (some r) (pgsE ps)), (6, ptr b6 0), (7, I m), (8, ptr b8 0)] (by simp [go_sem]) ?_
            refine W_seq (W_reg ?_)
            simp [go_sem, v63]
            refine Pure.use (with_c _ m (by rw [hwl]; omega)) ?_
            rw [wth, ← hmap]
            generalize hW : ((ps ++ [p]).map (·.no)).foldl withI [] = w2
            simp [go_sem, v63]
            have hS4 := hS3.put hD w2
            have v84 : VS.look (putAt s3.objs b6 [.v (.slice none 0 0), LI w2, I 0]) b8 = some (pgC p) := by rw [look_putAt, if_neg d86]; exact v8
            refine (fun (h : ∀ s4 : St, LrS s s4 x b2 b4 b6 w2 r ps.length → VS.look s4.objs b8 = some (pgC p) → W Tryz.prog ⟨65, none⟩ _ _ s4 _) => h { s3 with objs := putAt s3.objs b6 [.v (.slice none 0 0), LI w2, I 0] } hS4 v84) ?_
            clear hS4 v84
            intro s4 hS4 v84
            simp only [pgC] at v84
            refine W_keep [(2, ptr b2 0), (4, ptr b4 0), (5, .li (some r) (pgsE ps)), (6, ptr b6 0), (7, I m), (8, ptr b8 0)] (by simp [go_sem]) ?_
            refine W_seq (W_reg ?_)
            simp [go_sem, v84]
            refine WL_push (s0 := s) (z := 10) (es := pgsE ps) (new := pgC p) (by rw [pgsE_length]; exact ⟨hS4.sub, hS4.tk, hD.nr⟩) tel_22 (by simp [go_sem]) (by simp [go_sem]) (by simp [go_sem]) (by simp [go_sem]) (by simp [go_sem]) (by simp [go_sem, pgC]) (fun c => by simp [go_sem]) (by simp [pgC]) (by simp [go_sem, pgC]) (pgsE_all _) (by rw [pgsE_length]; simp [go_sem]; omega) (by simp) (by simp) fun s5 hT5 ho _ _ _ c1 => WL_run _ _ _ ?_
            have hsn : pgsE ps ++ [pgC p] = pgsE (ps ++ [p]) := by simp [pgsE]
            rw [hsn] at hT5 ⊢
            rw [pgsE_length] at hT5
            have v85 := v84
            rw [← ho] at v85
            simp [go_sem]
            refine W_reg ?_
            simp [go_sem, v85]
            refine hK2 _ _ (x.pg.length + 1 - (ps ++ [p]).length) [(2, ptr b2 0), (4, ptr b4 0), (5, .li (some r) (pgsE (ps ++ [p]))), (6, ptr b6 0), (7, I p.next)] (by simp; omega) ⟨ps ++ [p], p.next, rfl, rfl, hC2, ⟨by rw [ho]; exact hS4.v2, by rw [ho]; exact hS4.v4, by rw [ho, hW]; exact hS4.v6, hT5.tok, hT5.sub⟩⟩ (by simp [go_sem]) (by simp [go_sem])))
        by_cases hki : p.kind = 4
        · by_cases hno : p.no = m
          · simp [go_sem, v8, hki, hno, bne]
            exact key2 _ false (by simp [go_sem]) (by simp [go_sem]) (fun h => by cases h) (fun _ => by simp [okAt, hpp, hki, hno]; exact ⟨⟨h2m, hml⟩, by simpa using hns⟩)
          · have hno' : (p.no == m) = false := by simpa using hno
            simp [go_sem, v8, hki, hno', bne]
            exact key2 _ true (by simp [go_sem]) (by simp [go_sem]) (fun h => by simp [okAt, hpp, hno]) (fun h => by cases h)
        · have hki' : (p.kind == 4) = false := by simpa using hki
          simp [go_sem, v8, hki', bne]
          exact key2 _ true (by simp [go_sem]) (by simp [go_sem]) (fun h => by simp [okAt, hpp, hki]) (fun h => by cases h)))
    by_cases hlo : m < 2
    · simp [go_sem, hlo]
      exact key _ true (by simp [go_sem]) (by simp [go_sem]) (fun _ => by simp [okAt]; omega) (fun h => by cases h)
    · by_cases hhi : (x.pg.length : Int) ≤ m
      · simp [go_sem, hlo, v2, pgsE_length, hhi]
        exact key _ true (by simp [go_sem]) (by simp [go_sem]) (fun _ => by simp [okAt]; omega) (fun h => by cases h)
      · simp [go_sem, hlo, v2, pgsE_length, hhi, v6]
        refine Pure.use (in_c _ _) ?_
        rw [hmem]
        simp [go_sem]
        exact key _ (decide (m ∈ ps.map (·.no))) (by simp [go_sem]) (by simp [go_sem]) (fun h => by simp only [okAt, h]; simp) (fun h => ⟨by omega, by omega, by simpa using h⟩)
  · simp only [decide_eq_false_iff_not, ne_eq, Decidable.not_not] at hm0
    subst hm0
    have hch := hC.done
    have hkl := hC.len
    simp only [go_sem]
    refine W_seq (W_reg ?_)
    simp [go_sem]
    refine Pure.use (refPageListOf_c ps (hC.sz hsz) (by omega) hC.nd) ?_
    simp [go_sem]
    refine WL_alloc tzero_134 (by simp) fun b9 hb9 => WL_run _ _ _ ?_
    simp [go_sem]
    have hS3 := hS.obj hb9 [LF (listOfL ps), I (listOfE ps)]
    refine (fun (h : ∀ s3 : St, LrS s s3 x b2 b4 b6 ((ps.map (·.no)).foldl withI []) r ps.length → VS.look s3.objs b9 = some [LF (listOfL ps), I (listOfE ps)] → W Tryz.prog ⟨65, none⟩ _ _ s3 _) => h _ hS3 (by simp [VS.look])) ?_
    clear hS3 hb9
    intro s3 hS3 v9
    have v43 := hS3.v4
    have v63 := hS3.v6
    simp only [zlo] at v43
    refine W_keep [(2, ptr b2 0), (4, ptr b4 0), (6, ptr b6 0), (9, ptr b9 0)] (by simp [go_sem]) ?_
    refine W_seq (W_seq (W_reg ?_))
    by_cases he : listOfE ps = 0
    · rw [he] at v9
      simp [go_sem, v9, bne]
      refine W_ifs false (by simp [go_sem]) (fun h => by cases h) (fun _ => W_skip ?_)
      simp only [go_sem]
      refine W_seq (W_reg ?_)
      simp [go_sem, v9, v63]
      have h6 : VS.look (putAt s3.objs b6 [LF (listOfL ps), LI ((ps.map (·.no)).foldl withI []), I 0]) b6 = some [LF (listOfL ps), LI ((ps.map (·.no)).foldl withI []), I 0] := by rw [look_putAt, if_pos rfl, v63]; rfl
      have h4 : VS.look (putAt s3.objs b6 [LF (listOfL ps), LI ((ps.map (·.no)).foldl withI []), I 0]) b4 = some [.v (.slice none 0 0), .v (.slice none 0 0), I 0] := by rw [look_putAt, if_neg hD.d46]; exact v43
      refine W_seq (W_reg ?_)
      simp [go_sem, h6, h4]
      refine W_ret ?_
      simp only [go_sem]
      have hwn : (ps.map (·.no)).foldl withI [] = sorted (ps.map (·.no)) := by rw [foldWith_eq [] _ List.Pairwise.nil]; rfl
      refine ⟨trivial, .agg [LF (listOfL ps), LI ((ps.map (·.no)).foldl withI []), I 0], ?_, s, sub_put (sub_put hS3.sub hD.n6 _) hD.n4 _, by simp [go_sem, listOfS, hch, he, listOfL, hwn], rfl⟩
      have h44 : ∀ y : List C, VS.look (putAt (putAt s3.objs b6 [LF (listOfL ps), LI ((ps.map (·.no)).foldl withI []), I 0]) b4 y) b4 = some y := fun y => by rw [look_putAt, if_pos rfl, h4]; rfl
      simp [go_sem, h44]
    · have he' : (listOfE ps == 0) = false := by simpa using he
      simp [go_sem, v9, bne, he']
      refine W_ifs true (by simp [go_sem]) (fun _ => W_seq (W_reg ?_)) (fun h => by cases h)
      simp [go_sem, VS.partsC, v43]
      refine W_ret ?_
      simp only [go_sem]
      refine ⟨trivial, .agg [.v (.slice none 0 0), .v (.slice none 0 0), I 8], ?_, s, hfin s3 _ hS3.sub, by simp [go_sem, listOfS, hch, he, frsE, intsE], rfl⟩
      simp [go_sem, herr s3 _ hS3.v4]
end Go.Proofs.YtpmknffollpnaaaGreat
namespace Go.Proofs.YtpmknffollpnaaaGreat
open Go Go.VS
/-- The first number of an entry; the next ones. (parts that are full, room in the last) -/
def st1 (s : Nat × Nat) : Nat × Nat := if 12 ≤ s.2 then (s.1, s.2 - 12) else (s.1 + 1, 478)
def st2 (s : Nat × Nat) : Nat × Nat := if 4 ≤ s.2 then (s.1, s.2 - 4) else (s.1 + 1, 478)
def itr : Nat → Nat × Nat → Nat × Nat
  | 0, s => s
  | k + 1, s => itr k (st2 s)
def ent (s : Nat × Nat) : Nat → Nat × Nat
  | 0 => s
  | k + 1 => itr k (st1 s)
def runL (s : Nat × Nat) (l : List Fr) : Nat × Nat := l.foldl (fun s f => ent s f.p.length) s
def le2 (s t : Nat × Nat) : Prop := s.1 < t.1 ∨ (s.1 = t.1 ∧ t.2 ≤ s.2)
theorem st1_b {s : Nat × Nat} (h : s.2 ≤ 490) : (st1 s).2 ≤ 478 := by unfold st1; split <;> simp <;> omega
theorem st2_b {s : Nat × Nat} (h : s.2 ≤ 478) : (st2 s).2 ≤ 478 := by unfold st2; split <;> simp <;> omega
theorem st1_le {s t : Nat × Nat} (h : le2 s t) (hb : t.2 ≤ 490) : le2 (st1 s) (st1 t) := by
  unfold le2 st1 at *
  split <;> split <;> simp <;> omega
theorem st2_le {s t : Nat × Nat} (h : le2 s t) (hb : t.2 ≤ 478) : le2 (st2 s) (st2 t) := by
  unfold le2 st2 at *
  split <;> split <;> simp <;> omega
theorem st1_w (s : Nat × Nat) : le2 s (st1 s) := by unfold le2 st1; split <;> simp
theorem st2_w (s : Nat × Nat) : le2 s (st2 s) := by unfold le2 st2; split <;> simp
theorem itr_le : ∀ (k : Nat) {s t : Nat × Nat}, le2 s t → t.2 ≤ 478 → le2 (itr k s) (itr k t)
  | 0, _, _, h, _ => h
  | k + 1, _, _, h, hb => itr_le k (st2_le h hb) (st2_b hb)
theorem itr_b : ∀ (k : Nat) {s : Nat × Nat}, s.2 ≤ 478 → (itr k s).2 ≤ 478
  | 0, _, h => h
  | k + 1, _, h => itr_b k (st2_b h)
theorem ent_le (k : Nat) {s t : Nat × Nat} (h : le2 s t) (hb : t.2 ≤ 490) : le2 (ent s k) (ent t k) := by
  cases k with
  | zero => exact h
  | succ k => exact itr_le k (st1_le h hb) (st1_b hb)
theorem ent_b (k : Nat) {s : Nat × Nat} (hb : s.2 ≤ 490) : (ent s k).2 ≤ 490 := by
  cases k with
  | zero => exact hb
  | succ k => have := itr_b k (st1_b hb); show (itr k (st1 s)).2 ≤ 490; omega
theorem runL_le (l : List Fr) : ∀ {s t : Nat × Nat}, le2 s t → t.2 ≤ 490 → le2 (runL s l) (runL t l) := by
  induction l with
  | nil => intro s t h _; exact h
  | cons f l ih => intro s t h hb; exact ih (ent_le _ h hb) (ent_b _ hb)
theorem runL_cons (s : Nat × Nat) (f : Fr) (l : List Fr) : runL s (f :: l) = runL (ent s f.p.length) l := rfl
/-- With the first number less. -/
theorem runL_least (v x : Int) (ps : List Int) (r : List Fr) {s : Nat × Nat} (hb : s.2 ≤ 490) : le2 (runL s (if ps = [] then r else ⟨v, ps⟩ :: r)) (runL s (⟨v, x :: ps⟩ :: r)) := by
  rw [runL_cons]
  cases ps with
  | nil => exact runL_le r (st1_w s) (by have := st1_b hb; show (st1 s).2 ≤ 490; omega)
  | cons p ps =>
    rw [if_neg (by simp), runL_cons]
    refine runL_le r ?_ (ent_b _ hb)
    exact itr_le ps.length (st2_w (st1 s)) (st2_b (st1_b hb))
theorem st_shift (c r : Nat) : st1 (c, r) = (c + (st1 (0, r)).1, (st1 (0, r)).2) ∧ st2 (c, r) = (c + (st2 (0, r)).1, (st2 (0, r)).2) := by
  constructor
  · unfold st1; split <;> simp
  · unfold st2; split <;> simp
theorem itr_shift : ∀ (k c r : Nat), itr k (c, r) = (c + (itr k (0, r)).1, (itr k (0, r)).2)
  | 0, c, r => by simp [itr]
  | k + 1, c, r => by
    simp only [itr]
    rw [(st_shift c r).2, itr_shift k _ _]
    conv => rhs; rw [show st2 (0, r) = ((st2 (0, r)).1, (st2 (0, r)).2) from rfl, itr_shift k _ _]
    simp [Nat.add_assoc]
theorem ent_shift (k c r : Nat) : ent (c, r) k = (c + (ent (0, r) k).1, (ent (0, r) k).2) := by
  cases k with
  | zero => simp [ent]
  | succ k =>
    simp only [ent]
    rw [(st_shift c r).1, itr_shift k _ _]
    conv => rhs; rw [show st1 (0, r) = ((st1 (0, r)).1, (st1 (0, r)).2) from rfl, itr_shift k _ _]
    simp [Nat.add_assoc]
theorem runL_shift (l : List Fr) : ∀ (c r : Nat), runL (c, r) l = (c + (runL (0, r) l).1, (runL (0, r) l).2) := by
  induction l with
  | nil => intro c r; simp [runL]
  | cons f l ih =>
    intro c r
    rw [runL_cons, runL_cons, ent_shift, ih]
    conv => rhs; rw [show ent (0, r) f.p.length = ((ent (0, r) f.p.length).1, (ent (0, r) f.p.length).2) from rfl, ih]
    simp [Nat.add_assoc]
theorem itr_room : ∀ (t r : Nat), 4 * t ≤ r → itr t (0, r) = (0, r - 4 * t)
  | 0, r, _ => by simp [itr]
  | t + 1, r, h => by
    simp only [itr]
    have : st2 (0, r) = (0, r - 4) := by unfold st2; simp; omega
    rw [this, itr_room t (r - 4) (by omega)]
    congr 1
    omega
theorem itr_add (a : Nat) : ∀ (b : Nat) (s : Nat × Nat), itr (a + b) s = itr b (itr a s) := by
  induction a with
  | zero => intro b s; simp [itr]
  | succ a ih => intro b s; rw [Nat.add_right_comm]; exact ih b (st2 s)
/-- An entry of 'k' numbers, of which 't' go into the room. -/
theorem ent_room {k t r : Nat} (hr : 12 ≤ r) (ht : t = min ((r - 8) / 4) k) (hk : 0 < k) : ent (0, r) k = if t < k then ent (1, 490) (k - t) else (0, r - 8 - 4 * t) := by
  have ht1 : 1 ≤ t := by omega
  obtain ⟨j, rfl⟩ : ∃ j, k = j + 1 := ⟨k - 1, by omega⟩
  have h1 : st1 (0, r) = (0, r - 12) := by unfold st1; simp; omega
  simp only [ent, h1]
  split
  · rename_i hlt
    have e1 : j = (t - 1) + ((j + 1 - t - 1) + 1) := by omega
    have e2 : j + 1 - t = (j + 1 - t - 1) + 1 := by omega
    rw [e1, itr_add, itr_room (t - 1) (r - 12) (by omega)]
    have h2 : st2 (0, r - 12 - 4 * (t - 1)) = (1, 478) := by unfold st2; rw [if_neg]; simp; omega
    have e3 : t - 1 + (j + 1 - t - 1 + 1) + 1 - t = (j + 1 - t - 1) + 1 := by omega
    rw [e3]
    simp only [itr, ent, h2]
    have h3 : st1 (1, 490) = (1, 478) := by unfold st1; simp
    rw [h3]
  · rename_i hge
    have e1 : j = t - 1 := by omega
    rw [e1, itr_room (t - 1) (r - 12) (by omega)]
    congr 1
    omega
theorem run_low {l : List Fr} {r : Nat} (hne : ∀ f ∈ l, f.p ≠ []) (hl : l ≠ []) (hr : r < 12) : runL (0, r) l = runL (1, 490) l := by
  cases l with
  | nil => exact absurd rfl hl
  | cons f l =>
    rw [runL_cons, runL_cons]
    have := List.length_pos_iff.2 (hne f (by simp))
    obtain ⟨j, hj⟩ : ∃ j, f.p.length = j + 1 := ⟨f.p.length - 1, by omega⟩
    rw [hj]
    simp only [ent]
    have h1 : st1 (0, r) = (1, 478) := by unfold st1; rw [if_neg]; simp; omega
    have h2 : st1 (1, 490) = (1, 478) := by unfold st1; simp
    rw [h1, h2]
theorem pRoom_len (n : Nat) : ∀ (m : Nat) (l : List Fr) (now : List Fr) (room : Nat), (nums l).length ≤ m → Sz n l → (∀ f ∈ l, f.p ≠ []) → room ≤ 490 → (now ≠ [] ∨ (room = 490 ∧ l ≠ [])) → (pRoom now room l).length = (runL (0, room) l).1 + 1 := by
  intro m
  induction m with
  | zero =>
    intro l now room hm hs hne hr hc
    cases l with
    | nil =>
      rcases hc with hc | hc
      · rw [pRoom_nil, if_neg hc]; rfl
      · exact absurd rfl hc.2
    | cons f l =>
      have := List.length_pos_iff.2 (hne f (by simp))
      rw [nums_cons, List.length_append] at hm
      omega
  | succ m ih =>
    intro l now room hm hs hne hr hc
    cases l with
    | nil =>
      rcases hc with hc | hc
      · rw [pRoom_nil, if_neg hc]; rfl
      · exact absurd rfl hc.2
    | cons f l =>
      have hfp := hne f (by simp)
      have hf0 := List.length_pos_iff.2 hfp
      have hszl : Sz n l := ⟨by have := hs.len; simp at this; omega, fun g hg => hs.p g (by simp [hg])⟩
      have hnel : ∀ g ∈ l, g.p ≠ [] := fun g hg => hne g (by simp [hg])
      have hml : (nums l).length + f.p.length ≤ m + 1 := by rw [nums_cons, List.length_append] at hm; omega
      have big : ∀ (now : List Fr) (room : Nat), room ≤ 490 → 12 ≤ room → (pRoom now room (f :: l)).length = (runL (0, room) (f :: l)).1 + 1 := by
        intro now room hr h12
        have e : f :: l = remF f.v f.p l := by unfold remF; rw [if_neg hfp]
        rw [runL_cons, e, pRoom_step hfp h12]
        generalize ht : min ((room - 8) / 4) f.p.length = t
        have ht1 : 1 ≤ t := by omega
        rw [ent_room h12 ht.symm hf0]
        by_cases hlt : t < f.p.length
        · rw [if_pos hlt]
          have hd : f.p.drop t ≠ [] := fun e => by have := congrArg List.length e; simp at this; omega
          have e2 : remF f.v (f.p.drop t) l = ⟨f.v, f.p.drop t⟩ :: l := by unfold remF; rw [if_neg hd]
          have hne2 : ∀ g ∈ (⟨f.v, f.p.drop t⟩ :: l : List Fr), g.p ≠ [] := fun g hg => by
            rcases List.mem_cons.1 hg with rfl | hg
            · exact hd
            · exact hnel g hg
          have hs2 : Sz n (⟨f.v, f.p.drop t⟩ :: l) := ⟨by simpa using hs.len, fun g hg => by
            rcases List.mem_cons.1 hg with rfl | hg
            · have := hs.p f (by simp); simp; omega
            · exact hszl.p g hg⟩
          rw [e2, ih _ _ _ (by rw [nums_cons, List.length_append]; simp; omega) hs2 hne2 (by omega) (.inl (by simp)), run_low hne2 (by simp) (by omega), runL_cons]
          simp
        · rw [if_neg hlt]
          have htk : t = f.p.length := by omega
          have e2 : remF f.v (f.p.drop t) l = l := by unfold remF; rw [htk, List.drop_length, if_pos rfl]
          rw [e2, ih l _ _ (by omega) hszl hnel (by omega) (.inl (by simp))]
      by_cases h12 : 12 ≤ room
      · exact big now room hr h12
      · rw [pRoom_full hs hne (by simp) (by omega), run_low hne (by simp) (by omega), runL_shift]
        simp only [List.length_cons]
        rw [big [] 490 (by omega) (by omega)]
        omega
theorem parts_len {n : Nat} {l : List Fr} (hs : Sz n l) (hne : ∀ f ∈ l, f.p ≠ []) : (partsP l).length = if l = [] then 0 else (runL (0, 490) l).1 + 1 := by
  by_cases h : l = []
  · subst h; rfl
  · rw [if_neg h, ← pRoom_start hs hne]
    exact pRoom_len n _ l [] 490 (Nat.le_refl _) hs hne (Nat.le_refl _) (.inr ⟨rfl, h⟩)
/-- With a number less a list has no more parts. -/
theorem parts_least {n : Nat} {l : List Fr} (hs : Sz n l) (hne : ∀ f ∈ l, f.p ≠ []) : (partsP (leastL l)).length ≤ (partsP l).length := by
  cases l with
  | nil => exact Nat.le_refl _
  | cons f r =>
    obtain ⟨v, p⟩ := f
    cases p with
    | nil => exact absurd rfl (hne ⟨v, []⟩ (by simp))
    | cons x ps =>
      have e : leastL (⟨v, x :: ps⟩ :: r) = if ps = [] then r else ⟨v, ps⟩ :: r := rfl
      have hszr : Sz n r := ⟨by have := hs.len; simp at this; omega, fun g hg => hs.p g (by simp [hg])⟩
      have hs2 : Sz n (leastL (⟨v, x :: ps⟩ :: r)) := by
        rw [e]
        split
        · exact hszr
        · refine ⟨by simpa using hs.len, fun g hg => ?_⟩
          rcases List.mem_cons.1 hg with rfl | hg
          · have := hs.p ⟨v, x :: ps⟩ (by simp); simp at this ⊢; omega
          · exact hszr.p g hg
      have hne2 : ∀ g ∈ leastL (⟨v, x :: ps⟩ :: r), g.p ≠ [] := by
        rw [e]
        split
        · exact fun g hg => hne g (by simp [hg])
        · rename_i hp
          intro g hg
          rcases List.mem_cons.1 hg with rfl | hg
          · exact hp
          · exact hne g (by simp [hg])
      have hcn : ¬ (⟨v, x :: ps⟩ :: r : List Fr) = [] := by simp
      rw [parts_len hs hne, parts_len hs2 hne2, if_neg hcn]
      have := runL_least v x ps r (s := (0, 490)) (Nat.le_refl _)
      rw [← e] at this
      unfold le2 at this
      split
      · omega
      · rcases this with h | ⟨h, _⟩ <;> omega
end Go.Proofs.YtpmknffollpnaaaGreat
namespace Go.Proofs.YtpmknffollpnaaaGreat
open Go Go.VS
theorem addF_two (o : List Fr) (v : Int) (p q : List Int) : addF (addF o ⟨v, p⟩) ⟨v, q⟩ = addF o ⟨v, p ++ q⟩ := by
  rcases List.eq_nil_or_concat o with rfl | ⟨o', g, rfl⟩
  · have := addF_snoc [] ⟨v, p⟩ ⟨v, q⟩
    simp at this
    rw [addF_nil, addF_nil, this]
  · rw [List.concat_eq_append, addF_snoc, addF_snoc]
    by_cases h : g.v = v
    · simp only [h, if_true]
      rw [addF_snoc]
      simp
    · simp only [h, if_false]
      rw [addF_snoc]
      simp
theorem addF_diff (o : List Fr) (f g : Fr) (h : f.v ≠ g.v) : addF (addF o f) g = addF o f ++ [g] := by
  rcases List.eq_nil_or_concat o with rfl | ⟨o', e, rfl⟩
  · have := addF_snoc [] f g
    simp [h] at this
    rw [addF_nil, this]; rfl
  · rw [List.concat_eq_append, addF_snoc]
    by_cases he : e.v = f.v
    · simp only [he, if_true]
      rw [addF_snoc]
      simp [h]
    · simp only [he, if_false]
      rw [addF_snoc]
      simp [h]
theorem addPg_diff (o : List Fr) (f : Fr) (a : List Fr) (h : ∀ g, a.head? = some g → f.v ≠ g.v) : addPg (addF o f) a = addF o f ++ a := by
  cases a with
  | nil => simp [addPg]
  | cons g a => simp only [addPg]; rw [addF_diff o f g (h g rfl)]; simp
theorem cutP_head (room : Nat) (l : List Fr) : (cutP room l).1 = [] ∧ (cutP room l).2 = l ∨ ∃ f r a g, l = f :: r ∧ (cutP room l).1 = g :: a ∧ g.v = f.v := by
  cases l with
  | nil => exact .inl ⟨by simp [cutP], by simp [cutP]⟩
  | cons f r =>
    unfold cutP
    split
    · exact .inl ⟨rfl, rfl⟩
    · split
      · exact .inr ⟨f, r, _, _, rfl, rfl, rfl⟩
      · exact .inr ⟨f, r, _, f, rfl, rfl, rfl⟩
theorem join_cut : ∀ (l : List Fr) (room : Nat) (o : List Fr), (l.Pairwise fun x y => x.v < y.v) → addPg (addPg o (cutP room l).1) (cutP room l).2 = addPg o l
  | [], room, o, _ => by simp [cutP, addPg]
  | f :: r, room, o, h => by
    obtain ⟨h1, h2⟩ := List.pairwise_cons.1 h
    unfold cutP
    split
    · simp [addPg]
    · split
      · simp only [addPg, List.append_nil]
        rw [addF_two, List.take_append_drop]
      · have ih := join_cut r (room - (8 + 4 * f.p.length)) (addF o f) h2
        have hd : ∀ g, r.head? = some g → f.v ≠ g.v := fun g hg => by have := h1 g (List.mem_of_mem_head? hg); omega
        have e : addPg o (f :: r) = addPg (addF o f) r := by rw [addPg_diff o f r hd]; rfl
        rw [e, ← ih]
        show addPg (addF o f ++ (cutP (room - (8 + 4 * f.p.length)) r).1) _ = _
        rw [addPg_diff o f (cutP (room - (8 + 4 * f.p.length)) r).1 (fun g hg => by
          rcases cutP_head (room - (8 + 4 * f.p.length)) r with ⟨q, _⟩ | ⟨f', r', a, g', q1, q2, q3⟩
          · rw [q] at hg; cases hg
          · rw [q2] at hg
            simp at hg
            subst hg
            rw [q3]
            have := h1 f' (by rw [q1]; simp)
            omega)]
theorem cutP_pair : ∀ (l : List Fr) (room : Nat), (l.Pairwise fun x y => x.v < y.v) → ((cutP room l).2.Pairwise fun x y => x.v < y.v)
  | [], room, _ => by simp [cutP]
  | f :: r, room, h => by
    obtain ⟨h1, h2⟩ := List.pairwise_cons.1 h
    unfold cutP
    split
    · exact h
    · split
      · exact List.pairwise_cons.2 ⟨fun y hy => h1 y hy, h2⟩
      · exact cutP_pair r _ h2
def joinL (o : List Fr) (ls : List (List Fr)) : List Fr := ls.foldl addPg o
theorem join_parts (n : Nat) : ∀ (m : Nat) (l o : List Fr), (nums l).length ≤ m → Sz n l → (∀ f ∈ l, f.p ≠ []) → (l.Pairwise fun x y => x.v < y.v) → joinL o (partsF m l) = addPg o l
  | 0, l, o, hm, hs, hne, hp => by
    cases l with
    | nil => rfl
    | cons f l =>
      have := List.length_pos_iff.2 (hne f (by simp))
      rw [nums_cons, List.length_append] at hm
      omega
  | m + 1, l, o, hm, hs, hne, hp => by
    unfold partsF
    cases l with
    | nil => simp [joinL, addPg]
    | cons f r =>
      rw [if_neg (by simp)]
      obtain ⟨q1, q2, q3, q4⟩ := cut_ok n (f :: r) 490 hs hne
      have h4 := q4 (by omega) (by simp)
      have hl := congrArg List.length q1
      rw [List.length_append] at hl
      show joinL (addPg o (cutP 490 (f :: r)).1) (partsF m (cutP 490 (f :: r)).2) = _
      rw [join_parts n m _ _ (by omega) q2 q3 (cutP_pair _ _ hp), join_cut _ _ _ hp]
theorem joinL_nils (o : List Fr) : ∀ (k : Nat), joinL o (List.replicate k []) = o
  | 0 => rfl
  | k + 1 => joinL_nils o k
theorem joinF_L (ls : List Pg) : joinF ls = joinL [] (ls.map (·.fr)) := by
  unfold joinF joinL
  rw [List.foldl_map]
theorem frs_pad (ps : List (List Fr)) (n : Nat) (h : ps.length ≤ n) : (List.range n).map (fun i => (ps[i]?).getD []) = ps ++ List.replicate (n - ps.length) [] := by
  refine List.ext_getElem? fun i => ?_
  by_cases hi : i < n
  · rw [List.getElem?_map, List.getElem?_range hi]
    by_cases hp : i < ps.length
    · rw [List.getElem?_append_left hp]; simp [hp]
    · rw [List.getElem?_append_right (by omega), List.getElem?_replicate, if_pos (by omega)]; simp; rw [List.getElem?_eq_none (by omega)]; rfl
  · rw [List.getElem?_eq_none (by simpa using hi), List.getElem?_eq_none (by simp; omega)]
/-- The pages that are made for a list tell the list. -/
theorem join_mk {n : Nat} {l : List Fr} {nos : List Int} {ver : Int} (hs : Sz n l) (hf : freedB l = true) (hp : (partsP l).length ≤ nos.length) (hE : listPagesE l nos ver = 0) : joinF (mkPgs l nos ver) = l := by
  have hne := freedB_ne hf
  have hv : l.Pairwise fun x y => x.v < y.v := by
    have : ∀ j, j < l.length → badF l 4096 j = false := fun j hj => by
      have := (List.all_eq_true.1 hf) j (by simpa using hj)
      simpa using this
    exact ((bad_iff l 4096).1 this).1
  rw [joinF_L]
  unfold mkPgs
  rw [if_pos hE, List.map_map]
  have e : (List.range nos.length).map ((fun p : Pg => p.fr) ∘ mkP l nos ver) = partsP l ++ List.replicate (nos.length - (partsP l).length) [] := frs_pad (partsP l) nos.length hp
  rw [e]
  unfold joinL
  rw [List.foldl_append]
  have h1 : List.foldl addPg [] (partsP l) = addPg [] l := join_parts n _ l [] (Nat.le_refl _) hs hne hv
  rw [h1]
  have h2 : addPg [] l = l := by cases l <;> rfl
  rw [h2]
  exact joinL_nils l _
theorem mkPgs_no {l : List Fr} {nos : List Int} {ver : Int} (hE : listPagesE l nos ver = 0) : (mkPgs l nos ver).map (·.no) = nos := by
  unfold mkPgs
  rw [if_pos hE, List.map_map]
  refine List.ext_getElem? fun i => ?_
  by_cases hi : i < nos.length
  · rw [List.getElem?_map, List.getElem?_range hi]
    simp [mkP, hi]
  · rw [List.getElem?_eq_none (by simpa using hi), List.getElem?_eq_none (by omega)]
theorem listOf_mk {n : Nat} {l : List Fr} {nos : List Int} {ver : Int} (hs : Sz n l) (hf : freedB l = true) (hp : (partsP l).length ≤ nos.length) (hE : listPagesE l nos ver = 0) : listOfE (mkPgs l nos ver) = 0 := by
  unfold listOfE
  by_cases h : mkPgs l nos ver = []
  · rw [if_pos h]
  · rw [if_neg h, join_mk hs hf hp hE, mkPgs_no hE]
    have hver : ((mkPgs l nos ver).head?.map (·.ver)).getD 0 = ver := by
      have hn : 0 < nos.length := by
        rcases Nat.eq_zero_or_pos nos.length with h0 | h0
        · exact absurd (by unfold mkPgs; rw [if_pos hE, h0]; rfl) h
        · exact h0
      unfold mkPgs
      rw [if_pos hE]
      obtain ⟨k, hk⟩ : ∃ k, nos.length = k + 1 := ⟨nos.length - 1, by omega⟩
      rw [hk, List.range_succ_eq_map]
      rfl
    rw [hver, if_pos ⟨hE, rfl⟩]
end Go.Proofs.YtpmknffollpnaaaGreat
namespace Go.Proofs.YtpmknffollpnaaaGreat
open Go Go.VS
/-- 'own': the numbers that were taken from the list; 'g': those by which the file grew. -/
structure TkI (N : Nat) (l0 l : List Fr) (own g : List Int) : Prop where
  big : ∀ n ∈ g, (N : Int) ≤ n
  rel : (own = [] ∧ l = l0) ∨ ∃ rest l', l0 = ⟨0, own ++ rest⟩ :: l' ∧ own ≠ [] ∧ l = if rest = [] then l' else ⟨0, rest⟩ :: l'
  gl : g ≠ [] → leastB l = false
  cnt : (own ++ g).length ≤ (partsP l0).length
  mono : (partsP l).length ≤ (partsP l0).length
theorem TkI.sz {n N : Nat} {l0 l : List Fr} {own g : List Int} (h : TkI N l0 l own g) (hs : Sz n l0) (hne : ∀ f ∈ l0, f.p ≠ []) : Sz n l ∧ ∀ f ∈ l, f.p ≠ [] := by
  rcases h.rel with ⟨_, rfl⟩ | ⟨rest, l', rfl, _, rfl⟩
  · exact ⟨hs, hne⟩
  · split
    · exact ⟨⟨by have := hs.len; simp at this; omega, fun f hf => hs.p f (by simp [hf])⟩, fun f hf => hne f (by simp [hf])⟩
    · rename_i hr
      refine ⟨⟨by simpa using hs.len, fun f hf => ?_⟩, fun f hf => ?_⟩
      · rcases List.mem_cons.1 hf with rfl | hf
        · have := hs.p ⟨0, own ++ rest⟩ (by simp); simp at this ⊢; omega
        · exact hs.p f (by simp [hf])
      · rcases List.mem_cons.1 hf with rfl | hf
        · exact hr
        · exact hne f (by simp [hf])
theorem takeLoop_inv {n N : Nat} {l0 : List Fr} (hs : Sz n l0) (hne : ∀ f ∈ l0, f.p ≠ []) (hp : l0.Pairwise fun x y => x.v < y.v) : ∀ (f : Nat) (P : List (List C)) (l : List Fr) (own g : List Int) (r : List (List C) × List Fr × List Int), TkI N l0 l own g → N ≤ P.length → takeLoop f P l (own ++ g) = some r →
    ∃ own' g', r.2.2 = own' ++ g' ∧ TkI N l0 r.2.1 own' g'
  | 0, P, l, own, g, r, _, _, h => by cases h
  | f + 1, P, l, own, g, r, hI, hN, h => by
    unfold takeLoop at h
    split at h
    · cases h
      exact ⟨own, g, rfl, hI⟩
    · rename_i hlt
      split at h
      · rename_i hlb
        have hg : g = [] := by
          rcases Classical.em (g = []) with h' | h'
          · exact h'
          · rw [hI.gl h'] at hlb; cases hlb
        subst hg
        obtain ⟨hszl, hnel⟩ := hI.sz hs hne
        obtain ⟨x, ps, r', rfl⟩ : ∃ x ps r', l = ⟨0, x :: ps⟩ :: r' := by
          cases l with
          | nil => cases hlb
          | cons f r' =>
            obtain ⟨v, p⟩ := f
            have hv : v = 0 := by simpa [leastB] using hlb
            subst hv
            cases p with
            | nil => exact absurd rfl (hnel ⟨0, []⟩ (by simp))
            | cons x ps => exact ⟨x, ps, r', rfl⟩
        have hI2 : TkI N l0 (leastL (⟨0, x :: ps⟩ :: r')) (own ++ [x]) [] := by
          refine ⟨by simp, ?_, fun h => absurd rfl h, ?_, Nat.le_trans (parts_least hszl hnel) hI.mono⟩
          · rcases hI.rel with ⟨rfl, h0⟩ | ⟨rest, l', h0, ho, hl⟩
            · exact .inr ⟨ps, r', by rw [← h0]; rfl, by simp, rfl⟩
            · by_cases hr : rest = []
              · rw [if_pos hr] at hl
                rw [h0, ← hl] at hp
                have := (List.pairwise_cons.1 hp).1 ⟨0, x :: ps⟩ (by simp)
                simp at this
              · rw [if_neg hr] at hl
                simp only [List.cons.injEq, Fr.mk.injEq, true_and] at hl
                obtain ⟨rfl, rfl⟩ := hl
                exact .inr ⟨ps, r', by rw [h0, List.append_assoc]; rfl, by simp, rfl⟩
          · have := hI.mono; simp at hlt ⊢; omega
        have h' : takeLoop f P (leastL (⟨0, x :: ps⟩ :: r')) ((own ++ [x]) ++ []) = some r := by
          rw [List.append_nil] at h ⊢; exact h
        exact takeLoop_inv hs hne hp f P _ _ _ r hI2 hN h'
      · rename_i hlb
        split at h
        · have hI2 : TkI N l0 l own (g ++ [(P.length : Int)]) := by
            refine ⟨fun y hy => ?_, hI.rel, fun _ => by simpa using hlb, ?_, hI.mono⟩
            · rcases List.mem_append.1 hy with hy | hy
              · exact hI.big y hy
              · simp at hy; omega
            · have := hI.mono; simp at hlt ⊢; omega
          rw [List.append_assoc] at h
          exact takeLoop_inv hs hne hp f (P ++ [zpage]) _ _ _ r hI2 (by simp; omega) h
        · cases h
/-- The numbers below 'N' that were taken, in order. -/
theorem own_sorted {N : Nat} {l0 l : List Fr} {own g : List Int} (h : TkI N l0 l own g) (hok : ∀ f ∈ l0, f.p.Pairwise (· < ·)) (hz : ∀ f ∈ l0, f.v = 0 → ∀ n ∈ f.p, n < (N : Int)) : (sorted (own ++ g)).filter (fun n => decide (n < (N : Int))) = own := by
  have hown : (∀ n ∈ own, n < (N : Int)) ∧ own.Pairwise (· < ·) := by
    rcases h.rel with ⟨rfl, _⟩ | ⟨rest, l', rfl, _, _⟩
    · simp
    · refine ⟨fun n hn => hz ⟨0, own ++ rest⟩ (by simp) rfl n (by simp [hn]), ?_⟩
      have := hok ⟨0, own ++ rest⟩ (by simp)
      exact (List.pairwise_append.1 this).1
  refine eq_of_le ?_ ((sorted_le _).filter _) (hown.2.imp fun h => Int.le_of_lt h)
  refine ((sorted_perm (own ++ g)).filter _).trans ?_
  rw [List.filter_append]
  have h1 : own.filter (fun n => decide (n < (N : Int))) = own := List.filter_eq_self.2 fun n hn => by simpa using hown.1 n hn
  have h2 : g.filter (fun n => decide (n < (N : Int))) = [] := List.filter_eq_nil_iff.2 fun n hn => by have := h.big n hn; simpa using this
  rw [h1, h2, List.append_nil]
theorem Good.mono {l : List Fr} {a b : Int} (h : Good l a) (hab : a ≤ b) : Good l b :=
  ⟨h.v, fun f hf => ⟨(h.ok f hf).1, (h.ok f hf).2.1, (h.ok f hf).2.2.1, (h.ok f hf).2.2.2.1, fun n hn => by have := (h.ok f hf).2.2.2.2 n hn; omega⟩, h.nd⟩
/-- The list with the taken numbers again. -/
theorem own_merge {N : Nat} {l0 l : List Fr} {own g : List Int} (h : TkI N l0 l own g) (hg : Good l0 4096) (ho : own ≠ []) : mergeP l [⟨0, own⟩] = (l0, 0) := by
  rcases h.rel with ⟨h', _⟩ | ⟨rest, l', rfl, _, rfl⟩
  · exact absurd h' ho
  obtain ⟨hv, hok, hnd⟩ := hg
  obtain ⟨hv1, hv2⟩ := List.pairwise_cons.1 hv
  have hok0 := hok ⟨0, own ++ rest⟩ (by simp)
  obtain ⟨_, _, _, hinc, hrg⟩ := hok0
  simp only at hinc hrg
  obtain ⟨hi1, hi2, hi3⟩ := List.pairwise_append.1 hinc
  rw [nums_cons] at hnd
  obtain ⟨hn1, hn2, hn3⟩ := List.nodup_append.1 hnd
  simp only at hn1
  have hgl' : Good l' 4096 := ⟨hv2, fun f hf => hok f (by simp [hf]), hn2⟩
  have hgo : Good [⟨0, own⟩] 4096 := ⟨by simp, fun f hf => by
    simp at hf; subst hf
    exact ⟨by simp, by simp, ho, hi1, fun n hn => hrg n (by simp [hn])⟩, by rw [nums_cons, nums_nil, List.append_nil]; exact (List.nodup_append.1 hn1).1⟩
  have hgl : Good (if rest = [] then l' else ⟨0, rest⟩ :: l') 4096 := by
    split
    · exact hgl'
    · rename_i hr
      refine ⟨List.pairwise_cons.2 ⟨fun y hy => hv1 y hy, hv2⟩, fun f hf => ?_, ?_⟩
      · rcases List.mem_cons.1 hf with rfl | hf
        · exact ⟨by simp, by simp, hr, hi2, fun n hn => hrg n (by simp [hn])⟩
        · exact hok f (by simp [hf])
      · rw [nums_cons]
        exact List.nodup_append.2 ⟨(List.nodup_append.1 hn1).2.1, hn2, fun a ha b hb => hn3 a (by simp [ha]) b hb⟩
  have hm : mergeF (if rest = [] then l' else ⟨0, rest⟩ :: l') [⟨0, own⟩] = ⟨0, own ++ rest⟩ :: l' := by
    split
    · rename_i hr
      subst hr
      cases l' with
      | nil => simp [mergeF_nil]
      | cons x l' =>
        have hx : (0 : Int) < x.v := hv1 x (by simp)
        rw [mergeF_cons, if_neg (by simp; omega), if_pos hx, mergeF_nil', List.append_nil]
    · rw [mergeF_cons, if_neg (by simp), if_neg (by simp), mergeF_nil']
      congr 2
      refine eq_of_le ((sorted_perm _).trans List.perm_append_comm) (sorted_le _) (hinc.imp fun h => Int.le_of_lt h)
  unfold mergeP
  rw [validB_max, validB_max, validB_max, hm, (isB_iff _ _).2 hgl, (isB_iff _ _).2 hgo, (isB_iff _ _).2 ⟨hv, hok, by rw [nums_cons]; exact hnd⟩]
  rfl
/-! ### The chain -/
theorem laidAt_get (P : List (List C)) (tk : List Int) (es : List (List C)) (hnd : tk.Nodup) (hr : ∀ n ∈ tk, 0 ≤ n ∧ n < (P.length : Int)) : ∀ (k : Nat), k ≤ tk.length → ∀ i, (hi : i < k) → (laidAt P tk es k)[(tk.getD i 0).toNat]? = some (es.getD i [])
  | 0, _, i, hi => by omega
  | k + 1, hk, i, hi => by
    have hkl : k < tk.length := by omega
    have hil : i < tk.length := by omega
    have ek : tk.getD k 0 = tk[k] := by simp [List.getD, hkl]
    have ei : tk.getD i 0 = tk[i] := by simp [List.getD, hil]
    have rk := hr _ (List.getElem_mem hkl)
    have ri := hr _ (List.getElem_mem hil)
    rw [laidAt_succ, List.getElem?_set]
    by_cases e : i = k
    · subst e
      rw [if_pos rfl, if_pos (by rw [laidAt_len, ek]; omega)]
    · rw [if_neg, laidAt_get P tk es hnd hr k (by omega) i (by omega)]
      intro h
      rw [ek, ei] at h
      have : tk[k] = tk[i] := by omega
      exact e ((List.getElem_inj hnd).1 this).symm
theorem chain_mk {pg : List Pg} {L : List Fr} {tk : List Int} {ver : Int} (hE : listPagesE L tk ver = 0) (hnd : tk.Nodup) (hr : ∀ n ∈ tk, 2 ≤ n ∧ n < (pg.length : Int)) (hpg : ∀ i, i < tk.length → pgAt pg (tk.getD i 0) = mkP L tk ver i) :
    chain pg (tk.headD 0) = some (mkPgs L tk ver) := by
  have key : ∀ d j f, j + d = tk.length → d < f → chainF pg f (tk.getD j 0) (tk.take j) = some ((mkPgs L tk ver).drop j) := by
    intro d
    induction d with
    | zero =>
      intro j f hj hf
      obtain ⟨f, rfl⟩ : ∃ f', f = f' + 1 := ⟨f - 1, by omega⟩
      have e : tk.getD j 0 = 0 := by rw [List.getD, List.getElem?_eq_none (by omega)]; rfl
      have e2 : (mkPgs L tk ver).drop j = [] := List.drop_eq_nil_of_le (by unfold mkPgs; rw [if_pos hE]; simp; omega)
      rw [e, e2]
      simp [chainF]
    | succ d ih =>
      intro j f hj hf
      obtain ⟨f, rfl⟩ : ∃ f', f = f' + 1 := ⟨f - 1, by omega⟩
      have hjl : j < tk.length := by omega
      have ej : tk.getD j 0 = tk[j] := by simp [List.getD, hjl]
      have hm := List.getElem_mem hjl
      have rj := hr _ hm
      have hp := hpg j hjl
      have hml : j < (mkPgs L tk ver).length := by unfold mkPgs; rw [if_pos hE]; simp; omega
      have hmj : (mkPgs L tk ver)[j] = mkP L tk ver j := by unfold mkPgs; simp [hE]
      have hnot : tk[j] ∉ tk.take j := fun h => by
        obtain ⟨i, hi, h2⟩ := List.getElem_of_mem h
        simp only [List.length_take] at hi
        rw [List.getElem_take] at h2
        have := (List.getElem_inj hnd).1 h2
        omega
      have hok : okAt pg (tk.getD j 0) (tk.take j) = true := by
        simp only [okAt, hp]
        rw [ej]
        simp only [mkP, ej, Bool.and_eq_true, decide_eq_true_eq, Bool.not_eq_true', decide_eq_false_iff_not]
        exact ⟨⟨⟨⟨rj.1, rj.2⟩, hnot⟩, trivial⟩, trivial⟩
      unfold chainF
      rw [if_neg (by rw [ej]; omega), if_pos hok, hp]
      have hnx : (mkP L tk ver j).next = tk.getD (j + 1) 0 := rfl
      have htk : tk.take j ++ [tk.getD j 0] = tk.take (j + 1) := by rw [ej, List.take_succ_eq_append_getElem hjl]
      rw [hnx, htk, ih (j + 1) f (by omega) (by omega), List.drop_eq_getElem_cons hml, hmj]
      rfl
  have hlen : tk.length ≤ pg.length := by
    have := nodup_leI (m := (List.range pg.length).map fun i : Nat => (i : Int)) hnd (fun x hx => by
      have := hr x hx
      exact List.mem_map.2 ⟨x.toNat, by simp; omega, by omega⟩)
    simpa using this
  have := key tk.length 0 (pg.length + 1) (by omega) (by omega)
  unfold chain
  have e0 : tk.headD 0 = tk.getD 0 0 := by cases tk <;> rfl
  rw [e0]
  simpa using this
/-! ### What says less, and yet all -/
theorem Le_v {x y : Value} (h : Le (.v x) (.v y)) : x = y := by cases h; rfl
theorem Le_li {t : Option Nat} {es es' : List (List C)} (h : Le (.li t es) (.li none es')) : F2 (F2 Le) es es' := by
  generalize hx : C.li t es = x at h
  generalize hy : C.li none es' = y at h
  cases h with
  | refl => rw [← hy] at hx; injection hx with _ hx; subst hx; exact F2.refl (F2.refl .refl) _
  | nil => cases hx
  | li tok e e' hl hl2 h =>
    injection hx with _ hx
    injection hy with _ hy
    subst hx; subst hy
    exact ⟨hl, fun i hi hi' => ⟨hl2 i hi hi', fun j hj hj' => h i hi hi' j hj hj'⟩⟩
  | agg => cases hx
theorem Le_nil {es : List (List C)} (h : Le (.v (.slice none 0 0)) (.li none es)) : es = [] := by
  generalize hy : C.li none es = y at h
  cases h with
  | refl => cases hy
  | nil => injection hy
theorem Le_ints {a b : List Int} (h : Le (LI a) (LI b)) : a = b := by
  have h := Le_li h
  have hl : a.length = b.length := by simpa [intsE_length] using h.1
  refine List.ext_getElem hl fun i hi hi' => ?_
  have := (h.2 i (by rw [intsE_length]; exact hi) (by rw [intsE_length]; exact hi')).2 0 (by simp [intsE]) (by simp [intsE])
  simp [intsE] at this
  have := Le_v this
  injection this
theorem Le_frs {a b : List Fr} (h : Le (LF a) (LF b)) : a = b := by
  have h := Le_li h
  have hl : a.length = b.length := by simpa [frsE_length] using h.1
  refine List.ext_getElem hl fun i hi hi' => ?_
  have h2 := h.2 i (by rw [frsE_length]; exact hi) (by rw [frsE_length]; exact hi')
  rw [frsE_getE, frsE_getE] at h2
  have e0 := h2.2 0 (by simp [frC]) (by simp [frC])
  have e1 := h2.2 1 (by simp [frC]) (by simp [frC])
  simp only [frC, List.getElem_cons_zero, List.getElem_cons_succ] at e0 e1
  have e0 := Le_v e0
  injection e0 with _ e0
  rw [fr_eq]
  exact ⟨e0, Le_ints e1⟩
/-- A page that was made, told with less, is that page. -/
theorem Le_mk {L : List Fr} {nos : List Int} {ver : Int} {i : Nat} {q : Pg} (h : F2 Le (lpF L nos ver i) (pgC q)) : q = mkP L nos ver i := by
  have g : ∀ j (hj : j < 10), Le ((lpF L nos ver i)[j]'(by show j < 10; exact hj)) ((pgC q)[j]'(by show j < 10; exact hj)) := fun j hj => h.2 j hj hj
  have e0 := Le_v (g 0 (by omega))
  have e1 := Le_v (g 1 (by omega))
  have e2 := Le_v (g 2 (by omega))
  have e3 := Le_v (g 3 (by omega))
  have e4 := Le_v (g 4 (by omega))
  have e5 := Le_v (g 5 (by omega))
  have e6 := Le_nil (g 6 (by omega))
  have e7 := Le_v (g 7 (by omega))
  have e8 := Le_v (g 8 (by omega))
  have e9 := g 9 (by omega)
  injection e0 with _ e0
  injection e1 with _ e1
  injection e2 with _ e2
  injection e3 with _ e3
  injection e4 with _ e4
  injection e5 with e5
  injection e7 with _ e7
  injection e8 with e8
  have e6' : q.ents = [] := List.eq_nil_of_length_eq_zero (by rw [← ensE_length]; rw [e6]; rfl)
  have e9' : q.fr = ((partsP L)[i]?).getD [] := by
    have e9 : Le (frP (partsP L) i) (LF q.fr) := e9
    unfold frP at e9
    split at e9
    · rename_i p hp; rw [hp]; exact (Le_frs e9).symm
    · rename_i hp; rw [hp]; exact List.eq_nil_of_length_eq_zero (by rw [← frsE_length, Le_nil e9]; rfl)
  cases q
  simp only at e0 e1 e2 e3 e4 e5 e7 e8 e6' e9'
  subst e0 e1 e2 e3 e4 e5 e7 e8 e6' e9'
  rfl
end Go.Proofs.YtpmknffollpnaaaGreat
namespace Go.Proofs.YtpmknffollpnaaaGreat
open Go Go.VS
theorem cut_room : ∀ (l : List Fr) (room : Nat), (cutP room l).1.length ≤ room ∧ (nums (cutP room l).1).length ≤ room
  | [], room => by simp [cutP, nums, pairs]
  | f :: l, room => by
    unfold cutP
    split
    · simp [nums, pairs]
    · split
      · rename_i h1 h2
        simp only [nums_cons, nums_nil, List.append_nil, List.length_take, List.length_cons, List.length_nil]
        omega
      · rename_i h1 h2
        have ih := cut_room l (room - (8 + 4 * f.p.length))
        simp only [nums_cons, List.length_append, List.length_cons]
        omega
theorem parts_room : ∀ (n : Nat) (l : List Fr), ∀ p ∈ partsF n l, p.length ≤ 490 ∧ (nums p).length ≤ 490
  | 0, _, p, h => by simp [partsF] at h
  | n + 1, l, p, h => by
    unfold partsF at h
    split at h
    · simp at h
    · rcases List.mem_cons.1 h with rfl | h
      · exact cut_room l 490
      · exact parts_room n _ p h
theorem pgs_leQ (Q : Pg → Prop) : ∀ (P : List (List C)), (∀ e ∈ P, ∃ p, F2 Le e (pgC p) ∧ Q p) → ∃ l : List Pg, F2 (F2 Le) P (pgsE l) ∧ ∀ p ∈ l, Q p
  | [], _ => ⟨[], F2.nil, by simp⟩
  | e :: P, h => by
    obtain ⟨p, hp, hq⟩ := h e (by simp)
    obtain ⟨l, hl, hl2⟩ := pgs_leQ Q P fun x hx => h x (by simp [hx])
    exact ⟨p :: l, F2.cons hp hl, fun x hx => by
      rcases List.mem_cons.1 hx with rfl | hx
      · exact hq
      · exact hl2 x hx⟩
theorem sz_any (l : List Fr) : Sz (l.length + (nums l).length) l := ⟨by omega, fun f hf => by have := len_p_nums l f hf; omega⟩
/-- What End stores is a chain that tells the list. -/
theorem end_stores {x : Spc} {rest : List Fr} {shrink : Bool} {r : List (List C) × List Fr × List Int} (h : endV x.sp rest shrink = .ok r) (hx : PgSz x.pg 1000) :
    ∃ pg : List Pg, F2 (F2 Le) (laidAt r.1 r.2.2 (listPagesC r.2.1 r.2.2 x.ver) r.2.2.length) (pgsE pg) ∧ PgSz pg 1000 ∧ pg.length = r.1.length ∧ pg.length ≤ 4096 ∧ listOfS pg (r.2.2.headD 0) = (r.2.1, sorted r.2.2, 0) ∧ (r.2.2.headD 0 = 0 ↔ r.2.2 = []) := by
  obtain ⟨hv, P0, hT, hP, _⟩ := endV_ok h
  have hLE := tk_listPages (ver := x.ver) hT hv
  have hLC := lpF_C _ _ _ hLE
  have hz : ∀ e, e ∈ x.sp.pg ∨ e = zpage → ∃ p, F2 Le e (pgC p) ∧ (p.fr.length ≤ 1000 ∧ (nums p.fr).length ≤ 1000) := fun e he => by
    rcases he with he | rfl
    · have he' : e ∈ pgsE x.pg := he
      simp only [pgsE, List.mem_map] at he'
      obtain ⟨p, hp, rfl⟩ := he'
      exact ⟨p, F2.refl .refl _, hx p hp⟩
    · exact ⟨⟨0, 0, 0, 0, 0, false, [], 0, ⟨#[]⟩, []⟩, .cons (.refl _) (.cons (.refl _) (.cons (.refl _) (.cons (.refl _) (.cons (.refl _) (.cons (.refl _) (.cons .nil (.cons (.refl _) (.cons (.refl _) (.cons .nil .nil))))))))), by simp [nums, pairs]⟩
  have hmk := mkPgs_le r.2.1 r.2.2 x.ver
  have hml : (mkPgs r.2.1 r.2.2 x.ver).length = r.2.2.length := by unfold mkPgs; rw [if_pos hLE]; simp
  have hmi : ∀ i (hi : i < r.2.2.length), (mkPgs r.2.1 r.2.2 x.ver)[i]'(by omega) = mkP r.2.1 r.2.2 x.ver i := fun i hi => by unfold mkPgs; simp [hLE]
  have hlp : ∀ i, i < r.2.2.length → (listPagesC r.2.1 r.2.2 x.ver).getD i [] = lpF r.2.1 r.2.2 x.ver i := fun i hi => by
    rw [hLC, List.getD, rgE_get _ _ i hi]; rfl
  have hlm : ∀ i, i < r.2.2.length → F2 Le (lpF r.2.1 r.2.2 x.ver i) (pgC (mkP r.2.1 r.2.2 x.ver i)) := fun i hi => by
    rw [hLC] at hmk
    have := hmk.2 i (by rw [rgE_len]; exact hi) (by rw [pgsE_length]; omega)
    rw [pgsE_getE, hmi i hi] at this
    simpa [rgE] using this
  obtain ⟨pg, hpg, hpq⟩ := pgs_leQ (fun p => p.fr.length ≤ 1000 ∧ (nums p.fr).length ≤ 1000) (laidAt r.1 r.2.2 (listPagesC r.2.1 r.2.2 x.ver) r.2.2.length) fun e he => by
    rcases laidAt_el _ _ _ _ e he with he | ⟨i, hi, rfl⟩
    · rcases hT.el e he with he | rfl
      · exact hz e (hP e he)
      · exact hz _ (.inr rfl)
    · rw [hlp i hi]
      refine ⟨_, hlm i hi, ?_⟩
      show (((partsP r.2.1)[i]?).getD []).length ≤ 1000 ∧ (nums (((partsP r.2.1)[i]?).getD [])).length ≤ 1000
      cases hq : (partsP r.2.1)[i]? with
      | none => simp [nums, pairs]
      | some p =>
        have := parts_room _ _ p (List.mem_of_getElem? hq)
        simp only [Option.getD_some]
        omega
  have hlen : pg.length = r.1.length := by
    have := hpg.1
    rw [laidAt_len, pgsE_length] at this
    exact this.symm
  have h4 := hT.four
  have hok := hT.okl
  have hrg : ∀ n ∈ r.2.2, 2 ≤ n ∧ n < (pg.length : Int) := fun n hn => by rw [hlen]; exact hok.t n hn
  have hch := chain_mk (pg := pg) hLE hok.nd hrg fun i hi => by
    have hm := List.getElem_mem hi
    have ei : r.2.2.getD i 0 = r.2.2[i] := by simp [List.getD, hi]
    have hri := hok.t _ hm
    have hg := laidAt_get r.1 r.2.2 (listPagesC r.2.1 r.2.2 x.ver) hok.nd (fun n hn => by have := hok.t n hn; omega) r.2.2.length (Nat.le_refl _) i hi
    rw [hlp i hi, ei] at hg
    obtain ⟨hl1, hl2⟩ := List.getElem?_eq_some_iff.1 hg
    have hl3 : (r.2.2[i]).toNat < pg.length := by omega
    have hle := hpg.2 _ hl1 (by rw [pgsE_length]; exact hl3)
    rw [hl2, pgsE_getE] at hle
    have := Le_mk hle
    rw [ei]
    have hpa := pgAt_get (P := pg) (n := r.2.2[i]) (by omega) (by omega)
    rw [List.getElem?_eq_getElem hl3] at hpa
    injection hpa with hpa
    rw [← hpa, this]
  refine ⟨pg, hpg, hpq, hlen, by omega, ?_, ?_⟩
  · unfold listOfS
    rw [hch]
    simp only [listOf_mk (sz_any _) hok.freed hT.parts hLE, if_true, join_mk (sz_any _) hok.freed hT.parts hLE, mkPgs_no hLE]
  · constructor
    · intro h0
      cases htk : r.2.2 with
      | nil => rfl
      | cons a b =>
        have := hok.t a (by rw [htk]; simp)
        rw [htk] at h0
        simp at h0
        omega
    · intro h0; rw [h0]; rfl
/-- Without shrinking: the list with the pages that it gave is the list ahead of that, and has as many parts as pages were taken, or more. -/
theorem end_own {x : Spc} {rest : List Fr} {r : List (List C) × List Fr × List Int} (h : endV x.sp rest false = .ok r) : ∃ (l0 : List Fr) (own : List Int), l0 = putF (putF rest (x.ver - 1) x.gone) 0 x.free ∧ own = (sorted r.2.2).filter (fun n => decide (n < (x.pg.length : Int))) ∧ (own = [] → r.2.1 = l0) ∧
    (own ≠ [] → mergeP r.2.1 [⟨0, own⟩] = (l0, 0)) ∧ freedB l0 = true ∧ r.2.2.length ≤ (partsP l0).length ∧ (∀ n, Sz n l0 → Sz n r.2.1) ∧ own.length ≤ (nums l0).length := by
  obtain ⟨hv, P0, hT, hP, hvb, _, _, _, htl, hP0⟩ := endV_ok h
  simp only [Bool.false_eq_true, if_false] at htl hP0
  have hpl : x.sp.pg.length = x.pg.length := by show (pgsE x.pg).length = _; rw [pgsE_length]
  have hP0l : P0.length = x.pg.length := by rw [hP0]; have := clearAt_len x.sp.pg x.sp.free; simp; omega
  rw [hpl] at hvb
  rw [validB_isB] at hvb
  simp only [Bool.and_eq_true, decide_eq_true_eq] at hvb
  obtain ⟨⟨h2, h4⟩, hgood⟩ := hvb
  have hgood := (isB_iff _ _).1 hgood
  have hg4 : Good (putF (putF rest (x.ver - 1) x.gone) 0 x.free) 4096 := hgood.mono (by omega)
  have hok := hgood.okl (by omega)
  obtain ⟨own, g, htk, hI⟩ := takeLoop_inv (n := _) (N := x.pg.length) (sz_any (putF (putF rest (x.ver - 1) x.gone) 0 x.free)) hok.ne hok.v _ P0 _ [] [] r ⟨by simp, .inl ⟨rfl, rfl⟩, fun h => absurd rfl h, by simp, Nat.le_refl _⟩ (by omega) htl
  have hown := own_sorted hI (fun f hf => (hok.ok f hf).2.2.2.1) hok.z
  refine ⟨_, own, rfl, by rw [htk, hown], fun h0 => ?_, fun h0 => own_merge hI hg4 h0, hok.freed, by rw [htk]; exact hI.cnt, fun n hn => (hI.sz hn hok.ne).1, ?_⟩
  · rcases hI.rel with ⟨_, h⟩ | ⟨_, _, _, h, _⟩
    · exact h
    · exact absurd h0 h
  · rcases hI.rel with ⟨h, _⟩ | ⟨q, l', h, _, _⟩
    · rw [h]; simp
    · rw [h, nums_cons]; simp
end Go.Proofs.YtpmknffollpnaaaGreat
namespace Go.Proofs.YtpmknffollpnaaaGreat
open Go Go.VS
theorem endV_err {sp : Sp} {rest : List Fr} {shrink : Bool} {e : Int} (h : endV sp rest shrink = .error e) : e ≠ 0 := by
  unfold endV at h
  split at h
  · split at h
    · split at h
      · split at h
        · cases h
        · cases h; omega
      · cases h; omega
    · cases h; omega
  · cases h; omega
theorem small_pgs {x : Spc} (h : smallB x = true) : PgSz x.pg 1000 := by
  intro p hp
  unfold smallB at h
  simp only [Bool.and_eq_true, List.all_eq_true] at h
  have := h.2 p hp
  unfold smallPg at this
  simp only [Bool.not_eq_true', Bool.or_eq_false_iff, decide_eq_false_iff_not, Bool.not_eq_false'] at this
  obtain ⟨⟨_, h1⟩, h2⟩ := this
  have := (shortL_sz h2).2
  rw [← nums_sum] at this
  omega
theorem partsF_len : ∀ (n : Nat) (l : List Fr), (partsF n l).length ≤ n
  | 0, l => by simp [partsF]
  | n + 1, l => by
    unfold partsF
    split
    · simp
    · have := partsF_len n (cutP 490 l).2
      simp
      omega
set_option maxRecDepth 8000 in
theorem spaceStores_c (x : Spc) (l : List Fr) (s : St) (hx : ∀ p ∈ x.pg, okFl p.fr) (hl : okFl l) :
    CallC Tryz.prog 5 [.agg (spcC x), LF l] s (fun c s' => c = Bo true ∧ s' = s) (fun _ _ => False) := by
  refine CallC_of Tryz.func5 rfl (by rfl) Tryz.ntmps5 (by simp) ?_
  refine W_seq (W_reg ?_)
  simp [go_sem]
  refine WL_box (by simp [go_sem, spcC]) (by simp) fun b2 hb2 => WL_run _ _ _ ?_
  simp [go_sem]
  refine (fun (h : ∀ s1 : St, VS.look s1.objs b2 = some (spcC x) → Sub s1 s → W Tryz.prog ⟨128, none⟩ _ _ s1 _) => h _ (by simp [VS.look]) (sub_obj hb2 _)) ?_
  clear hb2
  intro s1 v2 hsub
  refine W_seq (W_reg ?_)
  simp [go_sem]
  refine (sane_c s1).use (fun c s2 hc => ?_) (fun _ _ h => h.elim)
  obtain ⟨rfl, hc2⟩ := hc
  subst hc2
  simp [go_sem]
  have v2' := v2
  simp only [spcC] at v2'
  refine W_keep [(1, LF l), (2, ptr b2 0), (5, Bo true)] (by simp [go_sem]) ?_
  refine W_seq (W_seq_k fun K hK => W_reg ?_)
  have key : ∀ E' s3 t, Has E' [(29, Bo t), (1, LF l), (2, ptr b2 0), (5, Bo true)] → E'.ds = [] → Sub s3 s2 → (t = false → smallB x = true ∧ shortL l = true) → K E' s3 := fun E' s3 t h1 h2 hs3 ht => hK _ _ (W_keep _ h1 (by
    rw [h2]
    clear hK
    refine W_ifs t (by simp [go_sem]) (fun h => W_seq (W_reg ?_)) (fun h => W_skip ?_)
    · simp [go_sem]
      refine W_ret ?_
      simp only [go_sem]
      exact ⟨trivial, _, rfl, s, Sub.trans hs3 hsub, by simp [go_sem], rfl⟩
    · obtain ⟨hsm, hsh⟩ := ht h
      obtain ⟨p1, p2, p3, p4⟩ := smallB_sz hsm
      obtain ⟨hsz, hsum⟩ := shortL_sz hsh
      have hnl := nums_sum l
      have v2 := hs3.objs _ _ v2
      have v2' := hs3.objs _ _ v2'
      have hsub := Sub.trans hs3 hsub
      clear hs3 h1
      simp only [go_sem]
      refine W_keep [(1, LF l), (2, ptr b2 0), (5, Bo true)] (by simp [go_sem]) ?_
      have hpgl : x.sp.pg.length = x.pg.length := by show (pgsE x.pg).length = _; rw [pgsE_length]
      have hE := end_c 900 400 x.sp l false hsz p2 p4 (by omega) (by omega) (pgE_sp x) (by omega) (by omega)
      rw [endP_V, spcC_sp] at hE
      cases hV : endV x.sp l false with
      | error e =>
        have he := endV_err hV
        have he' : (e == 0) = false := by simpa using he
        rw [hV] at hE
        simp only [endErr] at hE
        refine W_seq (W_reg ?_)
        simp [go_sem, v2']
        refine Pure.use hE ?_
        simp [go_sem]
        refine WL_alloc tzero_25 (by simp) fun b6 hb6 => WL_run _ _ _ ?_
        simp [go_sem]
        refine W_seq (W_seq (W_reg ?_))
        simp [go_sem, bne, he']
        refine W_ifs true (by simp [go_sem]) (fun _ => W_seq (W_reg ?_)) (fun h => by cases h)
        simp [go_sem, VS.look, frsE]
        refine W_ret ?_
        simp only [go_sem]
        exact ⟨trivial, _, rfl, s, Sub.trans (sub_obj hb6 _) hsub, by simp [go_sem], rfl⟩
      | ok r =>
        rw [hV] at hE
        simp only [endOk] at hE
        obtain ⟨pg, hpg, hpq, hpl, hp4, hlo, hhd⟩ := end_stores hV (small_pgs hsm)
        obtain ⟨l0, own, hl0, hown, ho1, ho2, hfr, hcnt, hsz0, hol⟩ := end_own hV
        obtain ⟨P, L, tk⟩ := r
        simp only at hE hpg hlo hhd hown ho1 ho2 hcnt hsz0
        have hl0s : Sz 1700 l0 ∧ (nums l0).length ≤ 1700 := by
          rw [hl0]
          refine ⟨((hsz.putF p4 (by omega)).putF p2 (by omega)), ?_⟩
          have e1 := (putF_perm (putF l (x.ver - 1) x.gone) 0 x.free).length_eq
          have e2 := (putF_perm l (x.ver - 1) x.gone).length_eq
          simp only [List.length_append] at e1 e2
          omega
        have hLs := hsz0 1700 hl0s.1
        generalize hPl : laidAt P tk (listPagesC L tk x.sp.ver) tk.length = PP at hE
        have hPl' : laidAt P tk (listPagesC L tk x.ver) tk.length = PP := hPl
        rw [hPl'] at hpg
        have hlist := listOf_c ⟨pg, [], [], [], x.ver, x.tree⟩ (tk.headD 0) hpq hp4
        simp only at hlist
        rw [hlo] at hlist
        simp only at hlist
        generalize hhv : tk.headD 0 = hd at hE hlist hhd
        have hsl : (sorted tk).length = tk.length := (sorted_perm tk).length_eq
        have htl : tk.length ≤ 1700 := by have := partsF_len (nums l0).length l0; unfold partsP at hcnt; omega
        generalize hst : sorted tk = st at hlist hown hsl
        refine W_seq (W_reg ?_)
        simp [go_sem, v2']
        refine Pure.use hE ?_
        simp [go_sem]
        refine WL_alloc tzero_25 (by simp) fun b6 hb6 => WL_run _ _ _ ?_
        simp [go_sem]
        have hs4 := Sub.trans (sub_obj hb6 [.li none PP, LI [], LI [], LI [], I x.ver, I x.tree]) hsub
        refine (fun (h : ∀ s4 : St, VS.look s4.objs b2 = some [LPg x.pg, LI x.free, LI x.fresh, LI x.gone, I x.ver, I x.tree] → VS.look s4.objs b6 = some [.li none PP, LI [], LI [], LI [], I x.ver, I x.tree] → VS.look s.objs b6 = none → b2 ≠ b6 → Sub s4 s → W Tryz.prog ⟨128, none⟩ _ _ s4 _) => h _ (lookCons hb6.1 v2') (by simp [VS.look]) (by
          cases hq : VS.look s.objs b6 with
          | none => rfl
          | some y => have := hsub.objs _ _ hq; rw [hb6.1] at this; cases this) (fun e => by rw [← e] at hb6; rw [hb6.1] at v2'; cases v2') hs4) ?_
        clear hs4 hsub v2 v2' hb6
        intro s4 v2 v6 n6 d26 hsub
        refine W_keep [(1, LF l), (2, ptr b2 0), (5, Bo true), (6, ptr b6 0), (7, I hd), (8, LF L), (9, I 0)] (by simp [go_sem]) ?_
        refine W_seq (W_seq (W_reg ?_))
        simp [go_sem, bne]
        refine W_ifs false (by simp [go_sem]) (fun h => by cases h) (fun _ => W_skip ?_)
        simp only [go_sem]
        have hLe : F2 Le [.li none PP, LI [], LI [], LI [], I x.ver, I x.tree] (spcC ⟨pg, [], [], [], x.ver, x.tree⟩) := .cons (.li_of hpg) (F2.refl .refl _)
        refine W_cells v6 hLe.1.symm (fun w g hst j hj v hv => (hLe.2 j hj (by rw [← hLe.1]; exact hj)).R hv) ?_
        have q2 : VS.look (putAt s4.objs b6 (spcC ⟨pg, [], [], [], x.ver, x.tree⟩)) b2 = some [LPg x.pg, LI x.free, LI x.fresh, LI x.gone, I x.ver, I x.tree] := by rw [look_putAt, if_neg d26]; exact v2
        have q6 : VS.look (putAt s4.objs b6 (spcC ⟨pg, [], [], [], x.ver, x.tree⟩)) b6 = some [LPg pg, LI [], LI [], LI [], I x.ver, I x.tree] := by rw [look_putAt, if_pos rfl, v6]; rfl
        refine (fun (h : ∀ s5 : St, VS.look s5.objs b2 = some [LPg x.pg, LI x.free, LI x.fresh, LI x.gone, I x.ver, I x.tree] → VS.look s5.objs b6 = some [LPg pg, LI [], LI [], LI [], I x.ver, I x.tree] → Sub s5 s → W Tryz.prog ⟨128, none⟩ _ _ s5 _) => h _ q2 q6 (sub_put hsub n6 _)) ?_
        clear q2 q6 hsub v2 v6 n6 d26 hLe
        intro s5 v2 v6 hsub
        refine W_keep [(2, ptr b2 0), (5, Bo true), (6, ptr b6 0), (7, I hd), (8, LF L)] (by simp [go_sem]) ?_
        refine W_seq (W_reg ?_)
        simp [go_sem, v6]
        refine Pure.use hlist ?_
        simp [go_sem]
        refine W_keep [(2, ptr b2 0), (5, Bo true), (7, I hd), (8, LF L), (10, LF L), (11, LI st), (12, I 0)] (by simp [go_sem]) ?_
        have hb : ((hd == 0) != ((st.length : Int) == 0)) = false := by
          by_cases h0 : tk = []
          · have e1 : hd = 0 := hhd.2 h0
            have e2 : st.length = 0 := by rw [hsl, h0]; rfl
            rw [e1, e2]; rfl
          · have e1 : hd ≠ 0 := fun e => h0 (hhd.1 e)
            have e2 : st.length ≠ 0 := fun e => h0 (List.eq_nil_of_length_eq_zero (by omega))
            have e3 : (hd == 0) = false := by simpa using e1
            have e4 : ((st.length : Int) == 0) = false := by rw [beq_eq_false_iff_ne]; omega
            rw [e3, e4]; rfl
        refine W_seq (W_seq (W_reg ?_))
        simp [go_sem, bne]
        refine Pure.use (sameFreed_c L L) ?_
        simp [go_sem, intsE_length]
        refine W_ifs false (by simp [go_sem]; simpa [bne] using hb) (fun h => by cases h) (fun _ => W_skip ?_)
        simp only [go_sem]
        refine W_keep [(2, ptr b2 0), (5, Bo true), (8, LF L), (11, LI st)] (by simp [go_sem]) ?_
        refine W_seq (W_reg ?_)
        simp [go_sem]
        refine W_seq (W_reg ?_)
        simp [go_sem]
        refine W_tok 14 1 (by simp [go_sem]) fun r hr => ?_
        refine W_seq (W_seq (W_reg ?_))
        simp [go_sem]
        refine W_for st.length (fun k L' s' => L' = [(2, ptr b2 0), (5, Bo true), (8, LF L), (11, LI st), (13, LF L), (15, I k), (14, .li (some r) (intsE ((st.take k).filter fun n => decide (n < (x.pg.length : Int)))))] ∧ TokI s5 s' r 1 ((st.take k).filter fun n => decide (n < (x.pg.length : Int))).length)
          (l0 := [(2, ptr b2 0), (5, Bo true), (8, LF L), (11, LI st), (13, LF L), (15, I 0), (14, .li (some r) [])]) (ds := []) ⟨rfl, TokI.init hr⟩ (by simp [go_sem]) rfl ?_
        rintro k _ s6 hk ⟨rfl, hT⟩ K hK
        have v26 := hT.sub.objs _ _ v2
        refine W_reg ?_
        simp [go_sem, intsE_length]
        refine hK _ _ (decide (k < st.length)) [(2, ptr b2 0), (5, Bo true), (8, LF L), (11, LI st), (13, LF L), (15, I k), (14, .li (some r) (intsE ((st.take k).filter fun n => decide (n < (x.pg.length : Int)))))] (by simp [go_sem]) (by simp [go_sem]) (by simp [go_sem]) (fun hlt => ?_) (fun hge => ?_)
        · simp only [decide_eq_true_eq] at hlt
          have hw := wrap_succ hlt (by omega)
          have htake : (st.take (k + 1)).filter (fun n => decide (n < (x.pg.length : Int))) = (st.take k).filter (fun n => decide (n < (x.pg.length : Int))) ++ if st[k] < (x.pg.length : Int) then [st[k]] else [] := by
            rw [List.take_succ_eq_append_getElem hlt, List.filter_append]
            congr 1
            by_cases h : st[k] < (x.pg.length : Int) <;> simp [h]
          have hfl : ((st.take k).filter fun n => decide (n < (x.pg.length : Int))).length ≤ 1700 := by
            have := List.length_filter_le (fun n => decide (n < (x.pg.length : Int))) (st.take k)
            simp only [List.length_take] at this
            omega
          rw [htake]
          generalize (st.take k).filter (fun n => decide (n < (x.pg.length : Int))) = acc at hT hfl
          refine ⟨hlt, W_seq_k fun K2 hK2 => W_drawr 8 Tryz.mixed (by kernel_rfl) ?_⟩
          simp [go_sem, intsE_get, hlt, v26, pgsE_length]
          refine hK2 _ _ ?_
          by_cases hin : st[k] < (x.pg.length : Int)
          · refine W_ifs true (by simp [go_sem, hin]) (fun _ => W_reg ?_) (fun h => by cases h)
            simp [go_sem, intsE_get, hlt]
            refine WL_push (s0 := s5) (z := 1) (es := intsE acc) (new := [I st[k]]) (by rw [intsE_length]; exact hT) tel_23 (by simp [go_sem]) (by simp [go_sem]) (by simp [go_sem]) (by simp [go_sem]) (by simp [go_sem]) (by simp [go_sem]) (fun c => by simp [go_sem]) (by simp) (by simp [go_sem]) (intsE_len _) (by rw [intsE_length]; simp [go_sem]; omega) (by simp) (by simp) fun s7 hT7 _ _ _ _ c1 => WL_run _ _ _ ?_
            rw [intsE_snoc] at hT7 ⊢
            rw [intsE_length] at hT7
            simp [go_sem]
            refine W_reg ?_
            simp [go_sem, hw, hin]
            exact ⟨_, ⟨rfl, by simpa using hT7⟩, by simp [go_sem]⟩
          · refine W_ifs false (by simp [go_sem, hin]) (fun h => by cases h) (fun _ => W_skip ?_)
            simp only [go_sem]
            refine W_reg ?_
            simp [go_sem, hw, hin]
            exact ⟨_, ⟨rfl, hT⟩, by simp [go_sem]⟩
        · simp only [decide_eq_false_iff_not] at hge
          have hfull : st.take k = st := List.take_of_length_le (Nat.not_lt.1 hge)
          rw [hfull, ← hown] at hT ⊢
          simp only [go_sem]
          refine W_untok 14 (tok := some r) (es := intsE own) (by simp [go_sem]) ?_
          refine W_keep [(5, Bo true), (8, LF L), (11, LI st), (13, LF L), (14, LI own)] (by simp [go_sem]) ?_
          have hsub6 := Sub.trans hT.sub hsub
          clear hT v26 hK hr
          refine W_seq_k fun K hK => W_seq (W_reg ?_)
          have hLN := listNeeds_c 1700 l0 hl0s.1 (by omega) (by omega)
          rw [hfr] at hLN
          simp only [if_true] at hLN
          have fin : ∀ (E' : Env) (s7 : St), Has E' [(5, Bo true), (11, LI st), (13, LF l0)] → E'.ds = [] → Sub s7 s → K E' s7 := fun E' s7 h1 h2 hs7 => hK _ _ (W_keep _ h1 (by
            rw [h2]
            refine W_seq (W_reg ?_)
            simp [go_sem]
            refine Pure.use hLN ?_
            simp [go_sem]
            refine W_keep [(5, Bo true), (11, LI st), (18, I (partsP l0).length), (19, I 0)] (by simp [go_sem]) ?_
            have hle : (st.length : Int) ≤ ((partsP l0).length : Int) := by omega
            refine W_seq (W_reg ?_)
            simp [go_sem, intsE_length, hle]
            refine W_ret ?_
            simp only [go_sem]
            exact ⟨trivial, _, rfl, s, hs7, by simp [go_sem], rfl⟩))
          by_cases ho : own = []
          · have hL := ho1 ho
            simp [go_sem, ho, intsE]
            refine W_ifs false (by simp [go_sem]) (fun h => by cases h) (fun _ => W_skip ?_)
            simp only [go_sem]
            exact fin _ _ (by simp [go_sem, hL]) (by simp [go_sem]) hsub6
          · have hm := ho2 ho
            have hol1 : 0 < own.length := List.length_pos_iff.2 ho
            have hmc := merge_c 1700 1700 L [⟨0, own⟩] hLs ⟨by simp, fun f hf => by simp at hf; subst hf; simp; omega⟩ (by omega)
            rw [hm] at hmc
            simp [go_sem, intsE_length, hol1]
            refine W_ifs true (by simp [go_sem]) (fun _ => W_seq (W_reg ?_)) (fun h => by cases h)
            simp [go_sem, VS.partsC]
            refine WL_buildSlice tel_26 (by simp [go_sem]) (by rfl) (by rfl) (by simp [VS.partsC, go_sem]) (by simp [VS.partsC, go_sem]) (by simp [go_sem]) (by simp) (by simp) fun r2 hr2 => WL_run _ _ _ ?_
            simp [go_sem, VS.partsC]
            refine Pure.use hmc ?_
            simp [go_sem]
            refine W_seq (W_seq (W_reg ?_))
            simp [go_sem, bne]
            refine W_ifs false (by simp [go_sem]) (fun h => by cases h) (fun _ => W_skip ?_)
            simp only [go_sem]
            refine W_reg ?_
            simp [go_sem]
            exact fin _ _ (by simp [go_sem]) (by simp [go_sem]) (Sub.trans (sub_tok hr2 _) hsub6)))
  simp [go_sem, v2']
  refine Pure.use (small_c x hx) ?_
  cases hsm : smallB x
  · simp [go_sem]
    exact key _ s2 true (by simp [go_sem]) (by simp [go_sem]) (Sub.refl _) (fun h => by cases h)
  · simp [go_sem]
    refine WL_buildSlice tel_90 (by simp [go_sem]) (by rfl) (by rfl) (by simp [VS.partsC, go_sem]) (by simp [VS.partsC, go_sem]) (by simp [go_sem]) (by simp) (by simp) fun r9 hr9 => WL_run _ _ _ ?_
    simp [go_sem, VS.partsC]
    have hs1 := sub_tok hr9 (tsz Tryz.prog 26, 1)
    refine (((short_c [l] (by simp) (by simp; exact hl)) _).le (.cons le_tok .nil)).use (fun c s8 hc => ?_) (fun _ _ h => h.elim)
    obtain ⟨rfl, hc2⟩ := hc
    have hsB : shortB [l] = shortL l := by simp [shortB]
    rw [hsB]
    have hs8 : Sub s8 s2 := by rw [hc2]; exact hs1
    simp [go_sem]
    exact key _ s8 (!shortL l) (by simp [go_sem]) (by simp [go_sem]) hs8 (fun h => ⟨hsm, by simpa using h⟩)
end Go.Proofs.YtpmknffollpnaaaGreat
namespace Go.Proofs.YtpmknffollpnaaaGreat
open Go Go.VS Go.ChangeShapes Go.WideShapes Go.ChangeAt Go.RowKit
theorem Try.ownE : ownKnob Tryz.prog.godebug = none := by kernel_rfl
theorem maxLen_leE {n : Nat} (h : n ≤ reachBytes) : n ≤ 281474976710656 := by unfold reachBytes at h; omega
theorem okFl_of {l : List Fr} (h : okFs l) : okFl l := ⟨maxLen_leE h.1, fun f hf => maxLen_leE (h.2 f hf)⟩
set_option maxRecDepth 100000 in
theorem cells_sl {e : TypeId} {w : World} {r : Reach} {b : Nat} {t : TypeId} {v : Value} (ht : Tryz.prog.underlying t = some (.slice e)) (h : Value.okWide Tryz.prog w r b t v) : v.cells.toList = [v] := by
  obtain ⟨a, l, c, rfl⟩ := okWide_slice ht h
  simp [Value.cells]
set_option maxRecDepth 100000 in
/-- An argument that is a struct. -/
theorem arg_agg {H : Type} {enc : TypeId × Value → H} {w : World} {base : Nat} {sp : Nat → Bool} {hd : Bool} {t : TypeId} {fs : Array Field} {α : Type} {f : α → List C} {p : α → Prop} {v : Value} {d : DataW H} {ps : List MemPlace} {r : Reach} {b : Nat} (hu : Tryz.prog.underlying t = some (.struct fs))
    (h : Rd enc Tryz.prog w base sp hd t f p) (hv : Value.okWide Tryz.prog w r b t v) (hd' : DataW.Trod enc Tryz.prog w base sp hd t v d ps) (hw : ∀ n ∈ d.weights Tryz.prog t, n ≤ reachBytes) : ∃ q, VS.R w st0 gh0 (.agg (f q)) v ∧ p q := by
  obtain ⟨cs, rfl, _⟩ := okWide_struct hu hv
  obtain ⟨n, hn⟩ := hd'
  obtain ⟨q, h1, h2, h3⟩ := h _ _ _ hn hw
  have hc : (Value.agg cs).cells.toList = cs.toList := by simp [Value.cells]
  rw [hc] at h1
  have hcl : cs.toList.length = cs.size := by simp
  refine ⟨q, VR.agg (f q) cs (by omega) (fun j hj => ?_), h3⟩
  have := (h2 j hj (by rw [hc]; omega)).1
  simpa [Value.cells] using this
end Go.Proofs.YtpmknffollpnaaaGreat
