/- The value layer, second half: regions whose order is open, deferred calls, rows, maps, range over functions; what came in, read; what a law leaves. No condition. -/
import Derived.Test.YtpmknffollpnaaaGreatMa
import Derived.OrdersIn
import Derived.Recover
import Derived.Laws.MakeOwn
import Derived.Sort.Grow
import Derived.RangeFuncRecord
import Derived.RangeFuncSeq
import Derived.RangeFuncLeaves
import Derived.Lib.AppendZeros
import Derived.ChangeSame
import Derived.JoinedOf
import Derived.JoinedAt
import Derived.RowKit3
import Derived.ReadAgain
import Derived.RowKit2
import Derived.ChangeSlices
import Derived.SizedLaws
set_option linter.unusedVariables false
set_option linter.unusedSimpArgs false
namespace Go.VS
open Go

theorem evo_congr {f f' : Nat → C} {x : Operand} (h : ∀ t, x = .tmp t → f t = f' t) : evo f x = evo f' x := by
  cases x with
  | tmp t => exact h t rfl
  | _ => rfl
/-- What an operation reads depends on its operands alone. -/
theorem evRd_congr {P : Program} {op : Op} {f f' : Nat → C} {s : St} (h : ∀ x ∈ op.operands, evo f x = evo f' x) : evRd P op f s = evRd P op f' s := by
  cases op with
  | call cl =>
    obtain ⟨callee, args, tys⟩ := cl
    cases callee with
    | builtin b =>
      have ha : ∀ x ∈ args.toList, evo f x = evo f' x := fun x hx => h x (by simp [Op.operands, Call.operands]; simpa using hx)
      cases b <;> simp only [evRd]
      case len =>
        split
        · rename_i x t hx ht
          rw [ha x (by rw [hx]; simp)]
        · rfl
      case min =>
        split
        · rename_i x y hx
          rw [ha x (by rw [hx]; simp), ha y (by rw [hx]; simp)]
        · rfl
      case max =>
        split
        · rename_i x y hx
          rw [ha x (by rw [hx]; simp), ha y (by rw [hx]; simp)]
        · rfl
    | value f => rfl
    | invoke r m => rfl
  | build t parts =>
    have ha : ∀ p ∈ parts.toList, evo f p.2 = evo f' p.2 := fun p hp => h p.2 (by simp only [Op.operands, List.mem_toArray]; exact List.mem_map.2 ⟨p, hp, rfl⟩)
    simp only [evRd]
    have : ∀ (l : List (Nat × Operand)) (cs : List C), (∀ p ∈ l, evo f p.2 = evo f' p.2) → partsB P t f l cs = partsB P t f' l cs := by
      intro l
      induction l with
      | nil => intro cs _; rfl
      | cons p l ih =>
        intro cs hl
        obtain ⟨k, x⟩ := p
        simp only [partsB]
        rw [hl (k, x) (by simp)]
        split
        · split
          · exact ih _ fun p hp => hl p (by simp [hp])
          · rfl
        · rfl
    split
    · rw [this _ _ ha]
    · rfl
  | makeFunc fn first captured =>
    cases fn with
    | func k =>
      have h1 : first.toList.map (evo f) = first.toList.map (evo f') := List.map_congr_left fun x hx => h x (by simp only [Op.operands]; exact Array.mem_append.2 (.inl (by simpa using hx)))
      have h2 : captured.toList.map (evo f) = captured.toList.map (evo f') := List.map_congr_left fun x hx => h x (by simp only [Op.operands]; exact Array.mem_append.2 (.inr (by simpa using hx)))
      simp only [evRd, h1, h2]
    | _ => rfl
  | typeAssert x t u ok =>
    have h1 : evo f x = evo f' x := h x (by simp [Op.operands])
    cases ok <;> simp only [evRd, h1]
  | slice t x lo hi mx =>
    have h1 : evo f x = evo f' x := h x (by simp [Op.operands])
    have h2 : lo.map (evo f) = lo.map (evo f') := by cases lo with | none => rfl | some y => simp only [Option.map_some]; rw [h y (by simp [Op.operands])]
    have h3 : hi.map (evo f) = hi.map (evo f') := by cases hi with | none => rfl | some y => simp only [Option.map_some]; rw [h y (by simp [Op.operands])]
    cases mx <;> simp only [evRd, h1, h2, h3]
  | _ => first
    | rfl
    | (simp only [Op.operands, List.mem_toArray, List.mem_cons, List.not_mem_nil, or_false, forall_eq_or_imp, forall_eq] at h
       simp only [evRd, h])

inductive Q1 (P : Program) (N : NR) (s : St) : Ro → Env → C → Prop
  | rd {d op ty E c} (h : evRd P op E.f s = some c) : Q1 P N s ⟨d, op, ty, .no⟩ E c
  | call {d fo args tys ty E c q first captured} (hf : evo E.f fo = .v (.func (.func q) first captured)) (h : Pure P q (argsC E.f first args captured) c) : Q1 P N s ⟨d, .call { callee := .value fo, args := args, argTypes := tys }, ty, .no⟩ E c
  | on {d op ty E c k b} (hk : E.f k = .v (.bool b)) (h : Q1 P N s ⟨d, op, ty, .no⟩ E c) : Q1 P N s ⟨d, op, ty, .on k b⟩ E c
  | off {d op ty E k b} (hk : gdOff b (E.f k) = true) : Q1 P N s ⟨d, op, ty, .on k b⟩ E (.v undef)
/-- The slots that an operation looks at. -/
def looks (o : Ro) : List Nat := (o.op.operands.toList.filterMap fun | .tmp t => some t | _ => none) ++ (match o.gd with | .on k _ => [k] | _ => [])

theorem looks_evo {o : Ro} {f f' : Nat → C} (h : ∀ t ∈ looks o, f t = f' t) : ∀ x ∈ o.op.operands, evo f x = evo f' x := by
  intro x hx
  refine evo_congr fun t ht => h t ?_
  subst ht
  exact List.mem_append_left _ (List.mem_filterMap.2 ⟨.tmp t, by simpa using hx, rfl⟩)
theorem argsC_congr {f f' : Nat → C} {first captured : Array Value} {args : Array Operand} (h : ∀ x ∈ args, evo f x = evo f' x) : argsC f first args captured = argsC f' first args captured := by
  unfold argsC
  congr 2
  exact List.map_congr_left fun x hx => by rw [h x (by simpa using hx)]
theorem Q1.congr {P : Program} {N : NR} {s : St} {o : Ro} {E E' : Env} {c : C} (h : Q1 P N s o E c) : (∀ t ∈ looks o, E.f t = E'.f t) → Q1 P N s o E' c := by
  induction h with
  | rd h => intro hl; exact .rd (by rw [← evRd_congr (looks_evo hl)]; exact h)
  | call hf h =>
    intro hl
    have h1 := looks_evo hl
    refine .call (by rw [← h1 _ (by simp [Op.operands, Call.operands])]; exact hf) ?_
    rw [← argsC_congr (fun x hx => h1 x (by simp [Op.operands, Call.operands, hx]))]
    exact h
  | on hk h ih =>
    intro hl
    exact .on (by rw [← hl _ (by simp [looks])]; exact hk) (ih fun t ht => hl t (by
      simp only [looks, List.append_nil] at ht ⊢
      exact List.mem_append_left _ ht))
  | off hk => intro hl; exact .off (by rw [← hl _ (by simp [looks])]; exact hk)

section
variable {P : Program} {s : St} {E : Env} {N : NR} {Q : Ends}
/-- A quiet operation, ahead of whatever comes: through the rule for lists. -/
theorem Q1.WL {o : Ro} {rest : List Ro} {c : C} (h : Q1 P N s o E c) (hd : dOk N o.dst = true) (hk : WL P N rest (E.set o.dst c) s Q) : WL P N (o :: rest) E s Q := by
  induction h with
  | rd h => exact WL_rd h (dOk_lt hd) hk
  | call hf h => exact WL_call hf (dOk_lt hd) ((h s).mono (fun c s' ⟨h1, h2⟩ => by subst h1; subst h2; exact hk) (fun _ _ h => h.elim))
  | on hk' h ih => exact WL_on hk' (ih hd hk)
  | off hk' => exact WL_off hk' (dOk_lt hd) hk

inductive Tr (P : Program) (N : NR) (s : St) : List Ro → Env → Env → Prop
  | nil (E : Env) : Tr P N s [] E E
  | cons {o l E E' c} (h : Q1 P N s o E c) (hd : dOk N o.dst = true) (k : Tr P N s l (E.set o.dst c) E') : Tr P N s (o :: l) E E'

theorem Tr.fn {l : List Ro} {E Ef : Env} (h : Tr P N s l E Ef) : ∃ (Es : Nat → Env) (cs : Nat → C), Es 0 = E ∧ Es l.length = Ef ∧
    ∀ i (hi : i < l.length), Es (i + 1) = (Es i).set (l[i]).dst (cs i) ∧ Q1 P N s (l[i]) (Es i) (cs i) ∧ dOk N (l[i]).dst = true := by
  induction h with
  | nil E => exact ⟨fun _ => E, fun _ => .junk, rfl, rfl, fun i hi => by simp at hi⟩
  | @cons o l E E' c h hd k ih =>
    obtain ⟨Es, cs, h1, h2, h3⟩ := ih
    refine ⟨fun i => match i with | 0 => E | i + 1 => Es i, fun i => match i with | 0 => c | i + 1 => cs i, rfl, h2, fun i hi => ?_⟩
    cases i with
    | zero => exact ⟨h1, h, hd⟩
    | succ i => exact h3 i (by simpa using hi)

def dstOf (ops : Array Oper) (i : Nat) : Option Nat := (ops[i]?).bind (·.dst)
def edge (ops : Array Oper) (i j : Nat) : Bool := match ops[i]? with
  | some o => o.after.any fun e => Region.binds .any e && e.on == j
  | none => false
def reach (ops : Array Oper) : Nat → Nat → Nat → Bool
  | 0, _, _ => false
  | n + 1, i, j => edge ops i j || (List.range i).any fun k => edge ops i k && reach ops n k j
def down (ops : Array Oper) : Bool := (List.range ops.size).all fun i => match ops[i]? with
  | some o => o.after.all fun e => !Region.binds .any e || decide (e.on < i)
  | none => true
def drawOk (ops : Array Oper) (p : Nat) : Bool :=
  decide (p ≤ ops.size) && down ops &&
  ((List.range p).all fun i => (List.range p).all fun j => i == j || (dstOf ops i).isNone || dstOf ops i != dstOf ops j) &&
  ((List.range p).all fun i => match ops[i]? with
    | some o => (looks (conv ops o)).all fun t => (List.range p).all fun j => dstOf ops j != some t || (decide (j < i) && edge ops i j)
    | none => true) &&
  ((List.range ops.size).all fun m => decide (m < p) || (List.range m).all fun j => reach ops ops.size m j)

def isL (S : Array Bool) (i : Nat) : Prop := S.getD i false = true
theorem edge_spec {ops : Array Oper} {i j : Nat} (h : edge ops i j = true) : ∃ o e, ops[i]? = some o ∧ e ∈ o.after ∧ Region.binds .any e = true ∧ e.on = j := by
  unfold edge at h
  split at h
  · rename_i o ho
    obtain ⟨e, he, hb⟩ := Array.any_eq_true'.1 h
    simp only [Bool.and_eq_true, beq_iff_eq] at hb
    exact ⟨o, e, ho, he, hb.1, hb.2⟩
  · cases h
/-- What has been carried out has all that it asks for behind it. -/
def Closed (ops : Array Oper) (S : Array Bool) : Prop := ∀ i o e, ops[i]? = some o → isL S i → e ∈ o.after → Region.binds .any e = true → isL S e.on
theorem reach_listed {ops : Array Oper} {S : Array Bool} (hc : Closed ops S) : ∀ (n i j : Nat), (∀ o e, ops[i]? = some o → e ∈ o.after → Region.binds .any e = true → isL S e.on) → reach ops n i j = true → isL S j := by
  intro n
  induction n with
  | zero => intro i j _ h; cases h
  | succ n ih =>
    intro i j hi h
    simp only [reach, Bool.or_eq_true, List.any_eq_true, Bool.and_eq_true, List.mem_range] at h
    rcases h with h | ⟨k, hk, h1, h2⟩
    · obtain ⟨o, e, ho, he, hb, rfl⟩ := edge_spec h
      exact hi o e ho he hb
    · obtain ⟨o, e, ho, he, hb, rfl⟩ := edge_spec h1
      exact ih e.on j (fun o' e' ho' he' hb' => hc e.on o' e' ho' (hi o e ho he hb) he' hb') h2
theorem isL_set {S : Array Bool} {i j : Nat} (hi : i < S.size) : isL (S.setIfInBounds i true) j ↔ (j = i ∨ isL S j) := by
  unfold isL
  by_cases h : i = j
  · subst h
    simp [hi]
  · have h' : ¬ j = i := fun e => h e.symm
    rw [Array.getD_eq_getD_getElem?, Array.getD_eq_getD_getElem?, Array.getElem?_setIfInBounds_ne h]
    simp [h']

theorem Oper.wp_mono3 {F : Fence} {n : Nat} {o : Oper} {a : Act} {w : World} {K K' : Act → World → Prop} {Q Q' : Exit → Act → World → Prop} (h : ∀ a w, K a w → K' a w) (hq : ∀ ch a w, Q (.panic ch) a w → Q' (.panic ch) a w) (ho : LetsOut Q → LetsOut Q')
    (hh : o.wpIn F n P a w K Q) : o.wpIn F n P a w K' Q' := by
  unfold Oper.wpIn at *
  refine ⟨hh.1, ?_⟩
  have hh := hh.2
  generalize (o.semAt F.round a.eval).run P w = r at *
  cases r with
  | ok n w' =>
    cases n <;> simp only [Oper.uponIn] at hh ⊢ <;>
      first
        | exact h _ _ hh
        | exact ⟨hh.1, CallsIn.mono hh.2 (fun e w'' he => by cases e <;> first | exact h _ _ he | exact hq _ _ _ he | exact ho he)⟩
        | exact ⟨hh.1, RowsIn.mono hh.2 (fun _ _ he => h _ _ he)⟩
        | exact ⟨hh.1, RoundIn.mono hh.2 (fun e w'' he => by cases e <;> first | exact h _ _ he | exact hq _ _ _ he | exact ho he)⟩
  | halt x w' => cases x <;> simp only [Oper.uponIn] at hh ⊢ <;> first | exact hq _ _ _ hh | exact hh
theorem Q1.op {o' : Ro} {c : C} (h : Q1 P N s o' E c) {ops : Array Oper} {o : Oper} (hc : conv ops o = o') (hd : dOk N o'.dst = true) {w : World} {g : Gh} {a : Act} (hr : Rel w s g E N a)
    {i : Nat} (hi : ops[i]? = some o) {K : Act → World → Prop} {Q2 : Exit → Act → World → Prop} (hK : ∀ a' w' g', Rel w' s g' (E.set o'.dst c) N a' → Step w s g w' s g' → K a' w') : wpOpIn (rf N.r) 0 P ops Q2 i K a w := by
  have h1 := h.WL (rest := []) (Q := fun x E' s' => x = .normal ∧ E' = E.set o'.dst c ∧ s' = s) hd (WL_nil ⟨rfl, rfl, rfl⟩) ops [o] (by simp [hc]) w g a hr
  have hn : ∀ a' w', wpListIn (rf N.r) 0 P ops (Post w s g N fun x E' s' => x = .normal ∧ E' = E.set o'.dst c ∧ s' = s) [] a' w' → K a' w' := by
    rintro a' w' ⟨E', s', g', q1, q2, _, rfl, rfl⟩
    exact hK a' w' g' q1 q2
  unfold wpOpIn
  simp only [hi]
  unfold wpListIn at h1
  split
  · rename_i hw
    rw [if_pos hw] at h1
    refine Oper.wp_mono3 hn (fun ch a w hp => ?_) (fun hp => (LetsOut_Post hp).elim) h1
    obtain ⟨_, _, _, _, _, h3, _⟩ := hp
    cases h3
  · rename_i hw
    rw [if_neg hw] at h1
    exact ⟨fun _ _ => rf_fn _ _, hn _ _ h1.2⟩

/-- What may come first, in whatever order: what is known of the slots when some operations have been carried out. -/
structure Partly (P : Program) (N : NR) (s : St) (ops : Array Oper) (p : Nat) (E0 Ef : Env) (w0 : World) (g0 : Gh) (S : Array Bool) (a : Act) (w : World) : Prop where
  tail : ∀ m, p ≤ m → m < ops.size → ¬ isL S m
  env : ∃ E g, Rel w s g E N a ∧ Step w0 s g0 w s g ∧ E.ds = E0.ds ∧ ∀ t, ((∃ i, i < p ∧ isL S i ∧ dstOf ops i = some t) → E.f t = Ef.f t) ∧ ((¬ ∃ i, i < p ∧ isL S i ∧ dstOf ops i = some t) → E.f t = E0.f t)

def unl (S : Array Bool) : Nat := (S.toList.filter fun b => !b).length
theorem unl_set (S : Array Bool) (i : Nat) (hi : i < S.size) (hn : ¬ isL S i) : unl (S.setIfInBounds i true) + 1 = unl S := by
  unfold unl
  have hget : S.toList[i]'(by simpa using hi) = false := by
    unfold isL at hn
    simpa [hi] using hn
  rw [Array.toList_setIfInBounds]
  have hsplit : S.toList = S.toList.take i ++ false :: S.toList.drop (i + 1) := by
    have h1 := List.drop_eq_getElem_cons (l := S.toList) (i := i) (by simpa using hi)
    rw [hget] at h1
    rw [← h1, List.take_append_drop]
  have hset : S.toList.set i true = S.toList.take i ++ true :: S.toList.drop (i + 1) := by
    rw [List.set_eq_take_append_cons_drop, if_pos (by simpa using hi)]
  rw [hset]
  conv => rhs; rw [hsplit]
  simp
  omega
theorem all_listed {S : Array Bool} (h : unl S = 0) (i : Nat) (hi : i < S.size) : isL S i := by
  rcases Classical.em (isL S i) with h' | h'
  · exact h'
  · have := unl_set S i hi h'
    omega

theorem draw_core {ops : Array Oper} {p : Nat} (hok : drawOk ops p = true) {E0 Ef : Env} (hds : Ef.ds = E0.ds)
    (hq : ∀ i o, i < p → ops[i]? = some o → ∃ c Ei, Q1 P N s (conv ops o) Ei c ∧ dOk N o.dst = true ∧ Ei.ds = E0.ds ∧ (∀ d, o.dst = some d → Ef.f d = c) ∧
      ∀ t ∈ looks (conv ops o), ((∃ j, j < p ∧ dstOf ops j = some t) → Ei.f t = Ef.f t) ∧ ((¬ ∃ j, j < p ∧ dstOf ops j = some t) → Ei.f t = E0.f t))
    (hEf : ∀ t, (¬ ∃ j, j < p ∧ dstOf ops j = some t) → Ef.f t = E0.f t) {w0 : World} {g0 : Gh} (Q2 : Exit → Act → World → Prop)
    (hfin : ∀ w g a, Rel w s g Ef N a → Step w0 s g0 w s g → wpListIn (rf N.r) 0 P ops Q2 (ops.toList.drop p) a w) :
    ∀ (fuel : Nat) (S : Array Bool) (a : Act) (w : World), S.size = ops.size → unl S = fuel → Closed ops S →
      ((Partly P N s ops p E0 Ef w0 g0 S a w ∧ ∃ i, i < p ∧ ¬ isL S i) ∨ ∃ m, p ≤ m ∧ m ≤ ops.size ∧ (∀ i, i < ops.size → (isL S i ↔ i < m)) ∧ wpListIn (rf N.r) 0 P ops Q2 (ops.toList.drop m) a w) →
      wpAnyIn (rf N.r) 0 P .any ops Q2 fuel S a w := by
  simp only [drawOk, Bool.and_eq_true, decide_eq_true_eq, List.all_eq_true, List.mem_range, Bool.or_eq_true, beq_iff_eq, Option.isNone_iff_eq_none, bne_iff_ne, ne_eq] at hok
  obtain ⟨⟨⟨⟨hp, hdown⟩, hdist⟩, hdata⟩, htail⟩ := hok
  have hready : ∀ S : Array Bool, S.size = ops.size → ∀ i, i ∈ Region.ready .any ops S → i < ops.size ∧ ¬ isL S i ∧ ∀ o e, ops[i]? = some o → e ∈ o.after → Region.binds .any e = true → isL S e.on := by
    intro S hsz i hi
    obtain ⟨h1, o, ho, h2⟩ := mem_ready.1 hi
    have hlt : i < ops.size := (Array.getElem?_eq_some_iff.1 ho).1
    refine ⟨hlt, fun h => ?_, fun o' e ho' he hb => ?_⟩
    · unfold isL at h
      simp [hsz, hlt] at h h1
      rw [h1] at h
      cases h
    · rw [ho] at ho'
      cases ho'
      exact h2 e he hb
  have hprog : ∀ S : Array Bool, S.size = ops.size → (∃ i, i < ops.size ∧ ¬ isL S i) → Region.ready .any ops S ≠ [] := by
    intro S hsz hex hnil
    obtain ⟨n, hn⟩ := hex
    obtain ⟨m, ⟨hm1, hm2⟩, hm3⟩ := least_of (p := fun i => i < ops.size ∧ ¬ isL S i) n hn
    have : m ∈ Region.ready .any ops S := by
      rw [mem_ready]
      have hget : ops[m]? = some ops[m] := Array.getElem?_eq_getElem hm1
      refine ⟨?_, ops[m], hget, fun e he hb => ?_⟩
      · unfold isL at hm2
        simp [hsz, hm1] at hm2 ⊢
        exact hm2
      · have hd := hdown
        unfold down at hd
        simp only [List.all_eq_true, List.mem_range] at hd
        have := hd m hm1
        rw [hget] at this
        simp only at this
        have h1 := Array.all_eq_true_iff_forall_mem.1 this e he
        simp only [hb, Bool.not_true, Bool.false_or, decide_eq_true_eq] at h1
        rcases Classical.em (isL S e.on) with h2 | h2
        · exact h2
        · exact absurd ⟨by omega, h2⟩ (hm3 e.on h1)
    rw [hnil] at this
    cases this
  have htl : ∀ S : Array Bool, Closed ops S → ∀ i, i < ops.size → p ≤ i → (∀ o e, ops[i]? = some o → e ∈ o.after → Region.binds .any e = true → isL S e.on) → ∀ j, j < i → isL S j := by
    intro S hc i hi hpi hpre j hj
    have := htail i hi
    rcases this with h | h
    · omega
    · exact reach_listed hc ops.size i j hpre (h j hj)
  have hclosed : ∀ S : Array Bool, S.size = ops.size → Closed ops S → ∀ i, i < ops.size → (∀ o e, ops[i]? = some o → e ∈ o.after → Region.binds .any e = true → isL S e.on) → Closed ops (S.setIfInBounds i true) := by
    intro S hsz hc i hi hpre j o e ho hj he hb
    rw [isL_set (by omega)] at hj ⊢
    rcases hj with rfl | hj
    · exact .inr (hpre o e ho he hb)
    · exact .inr (hc j o e ho hj he hb)
  intro fuel
  induction fuel with
  | zero =>
    intro S a w hsz hunl hc h
    have hall := fun i (hi : i < ops.size) => all_listed hunl i (by omega)
    refine ⟨?_, ?_⟩
    · cases hr : Region.ready .any ops S with
      | nil => rfl
      | cons x xs =>
        obtain ⟨h1, h2, _⟩ := hready S hsz x (by rw [hr]; simp)
        exact absurd (hall x h1) h2
    · rcases h with ⟨_, i, hi, hni⟩ | ⟨m, h1, h2, h3, h4⟩
      · exact absurd (hall i (by omega)) hni
      · have hm : m = ops.size := by
          rcases Nat.lt_or_ge m ops.size with h | h
          · have := (h3 m h).1 (hall m h); omega
          · omega
        rw [hm, List.drop_eq_nil_of_le (by simp)] at h4
        exact h4
  | succ fuel ih =>
    intro S a w hsz hunl hc h
    have hex : ∃ i, i < ops.size ∧ ¬ isL S i := by
      rcases Classical.em (∃ i, i < ops.size ∧ ¬ isL S i) with h' | h'
      · exact h'
      · exfalso
        have hall : ∀ b ∈ S.toList, b = true := fun b hb => by
          obtain ⟨i, hi, rfl⟩ := List.getElem_of_mem hb
          have hi' : i < ops.size := by simp at hi; omega
          rcases Classical.em (isL S i) with h1 | h1
          · unfold isL at h1
            simp [hsz, hi'] at h1
            simpa using h1
          · exact absurd ⟨i, hi', h1⟩ h'
        have : unl S = 0 := by
          unfold unl
          rw [List.length_eq_zero_iff, List.filter_eq_nil_iff]
          intro b hb
          simp [hall b hb]
        omega
    refine ⟨fun hnil => absurd hnil (hprog S hsz hex), fun i hi => ?_⟩
    obtain ⟨hi1, hi2, hi3⟩ := hready S hsz i hi
    have hsz' : (S.setIfInBounds i true).size = ops.size := by simpa using hsz
    have hunl' : unl (S.setIfInBounds i true) = fuel := by have := unl_set S i (by omega) hi2; omega
    have hc' := hclosed S hsz hc i hi1 hi3
    rcases h with ⟨hA, j0, hj0, hj0n⟩ | ⟨m, h1, h2, h3, h4⟩
    · have hip : i < p := by
        rcases Nat.lt_or_ge i p with h | h
        · exact h
        · exact absurd (htl S hc i hi1 h hi3 j0 (by omega)) hj0n
      have hget : ops[i]? = some ops[i] := Array.getElem?_eq_getElem hi1
      obtain ⟨c, Ei, q1, q2, q0, q3, q4⟩ := hq i ops[i] hip hget
      obtain ⟨E, g, hr, hst, hEds, hEf2⟩ := hA.env
      have hdst : dstOf ops i = (ops[i]).dst := by simp [dstOf, hget]
      have hagree : ∀ t ∈ looks (conv ops ops[i]), Ei.f t = E.f t := fun t ht => by
        rcases Classical.em (∃ j, j < p ∧ dstOf ops j = some t) with ⟨j, hj, hjt⟩ | hno
        · rw [(q4 t ht).1 ⟨j, hj, hjt⟩]
          have h5 := hdata i hip
          rw [hget] at h5
          simp only [List.all_eq_true, List.mem_range, Bool.or_eq_true, Bool.and_eq_true, decide_eq_true_eq, bne_iff_ne, ne_eq] at h5
          rcases h5 t ht j hj with h6 | ⟨h6, h7⟩
          · exact absurd hjt h6
          · obtain ⟨o, e, ho, he, hb, rfl⟩ := edge_spec h7
            exact ((hEf2 t).1 ⟨e.on, hj, hi3 o e ho he hb, hjt⟩).symm
        · rw [(q4 t ht).2 hno]
          exact ((hEf2 t).2 (fun ⟨j, hj, _, hjt⟩ => hno ⟨j, hj, hjt⟩)).symm
      refine (q1.congr hagree).op rfl q2 hr hget fun a' w' g' hr' hst' => ih _ a' w' hsz' hunl' hc' ?_
      have hst2 := hst.trans hst'
      have hE' : ∀ t, ((∃ j, j < p ∧ isL (S.setIfInBounds i true) j ∧ dstOf ops j = some t) → (E.set (conv ops ops[i]).dst c).f t = Ef.f t) ∧
          ((¬ ∃ j, j < p ∧ isL (S.setIfInBounds i true) j ∧ dstOf ops j = some t) → (E.set (conv ops ops[i]).dst c).f t = E0.f t) := by
        intro t
        have hcd : (conv ops ops[i]).dst = (ops[i]).dst := rfl
        rw [hcd]
        rcases Classical.em ((ops[i]).dst = some t) with hd | hd
        · rw [hd]
          refine ⟨fun _ => ?_, fun h => absurd ⟨i, hip, (isL_set (by omega)).2 (.inl rfl), by rw [hdst, hd]⟩ h⟩
          simp only [set_f, if_true]
          exact (q3 t hd).symm
        · have hset : (E.set (ops[i]).dst c).f t = E.f t := by
            cases hd' : (ops[i]).dst with
            | none => rfl
            | some d => rw [set_f, if_neg]; intro e; exact hd (by rw [hd', e])
          rw [hset]
          refine ⟨fun ⟨j, hj, hjl, hjt⟩ => (hEf2 t).1 ?_, fun h => (hEf2 t).2 fun ⟨j, hj, hjl, hjt⟩ => h ⟨j, hj, (isL_set (by omega)).2 (.inr hjl), hjt⟩⟩
          rcases (isL_set (by omega)).1 hjl with rfl | hjl
          · exact absurd (by rw [← hdst]; exact hjt) hd
          · exact ⟨j, hj, hjl, hjt⟩
      have hds' : (E.set (conv ops ops[i]).dst c).ds = E0.ds := by rw [set_ds, hEds]
      have htail' : ∀ m, p ≤ m → m < ops.size → ¬ isL (S.setIfInBounds i true) m := fun m hm hm2 hh => by
        rcases (isL_set (by omega)).1 hh with rfl | hh
        · omega
        · exact hA.tail m hm hm2 hh
      rcases Classical.em (∃ k, k < p ∧ ¬ isL (S.setIfInBounds i true) k) with hk | hk
      · exact .inl ⟨⟨htail', _, g', hr', hst2, hds', hE'⟩, hk⟩
      · have hfull : ∀ k, k < p → isL (S.setIfInBounds i true) k := fun k hkp => by
          rcases Classical.em (isL (S.setIfInBounds i true) k) with h | h
          · exact h
          · exact absurd ⟨k, hkp, h⟩ hk
        refine .inr ⟨p, Nat.le_refl _, hp, fun k hk2 => ⟨fun hh => ?_, hfull k⟩, hfin w' g' a' ?_ hst2⟩
        · rcases Nat.lt_or_ge k p with h | h
          · exact h
          · exact absurd hh (htail' k h hk2)
        · have heq : E.set (conv ops ops[i]).dst c = Ef := by
            have hf : (E.set (conv ops ops[i]).dst c).f = Ef.f := funext fun t => by
              rcases Classical.em (∃ j, j < p ∧ dstOf ops j = some t) with ⟨j, hj, hjt⟩ | hno
              · exact (hE' t).1 ⟨j, hj, hfull j hj, hjt⟩
              · rw [(hE' t).2 fun ⟨j, hj, _, hjt⟩ => hno ⟨j, hj, hjt⟩, hEf t hno]
            generalize E.set (conv ops ops[i]).dst c = E' at *
            cases E'
            cases Ef
            simp only at hf hds' hds
            rw [hf, hds', hds]
          rw [heq] at hr'
          exact hr'
    · have him : i = m := by
        have hge : ¬ i < m := fun h => hi2 ((h3 i hi1).2 h)
        rcases Nat.lt_or_ge m i with h | h
        · have := (h3 m (by omega)).1 (htl S hc i hi1 (by omega) hi3 m h); omega
        · omega
      subst him
      have hget : ops[i]? = some ops[i] := Array.getElem?_eq_getElem hi1
      have hdrop : ops.toList.drop i = ops[i] :: ops.toList.drop (i + 1) := by
        rw [List.drop_eq_getElem_cons (by simpa using hi1)]
        simp
      rw [hdrop] at h4
      have hnext : ∀ a' w', wpListIn (rf N.r) 0 P ops Q2 (ops.toList.drop (i + 1)) a' w' → wpAnyIn (rf N.r) 0 P .any ops Q2 fuel (S.setIfInBounds i true) a' w' := fun a' w' h5 =>
        ih _ a' w' hsz' hunl' hc' (.inr ⟨i + 1, by omega, hi1, fun k hk => by
          rw [isL_set (by omega)]
          constructor
          · rintro (rfl | h)
            · omega
            · have := (h3 k hk).1 h; omega
          · intro h
            rcases Nat.lt_or_ge k i with h' | h'
            · exact .inr ((h3 k hk).2 h')
            · exact .inl (by omega), h5⟩)
      unfold wpOpIn
      simp only [hget]
      unfold wpListIn at h4
      split
      · rename_i hw
        rw [if_pos hw] at h4
        exact Oper.wpIn_mono hnext h4
      · rename_i hw
        rw [if_neg hw] at h4
        exact ⟨fun _ _ => rf_fn _ _, hnext _ _ h4.2⟩

theorem Tr.length_dst {l : List Ro} {E Ef : Env} (h : Tr P N s l E Ef) : Ef.ds = E.ds := by
  induction h with
  | nil => rfl
  | cons _ _ _ ih => rw [ih, set_ds]

theorem isL_rep (n i : Nat) : ¬ isL (Array.replicate n false) i := by
  unfold isL
  rw [Array.getD_eq_getD_getElem?, Array.getElem?_replicate]
  split <;> simp
theorem unl_rep (n : Nat) : unl (Array.replicate n false) = n := by simp [unl]
/-- A REGION WHOSE ORDER IS OPEN: 'p' operations that only read, in whatever order; the others in theirs. -/
theorem W_draw {id : Nat} {ops : Array Oper} {Ef : Env} (p : Nat) (hm : P.follows .mixedOrders = true) (hok : drawOk ops p = true) (htr : Tr P N s ((ops.toList.take p).map (conv ops)) E Ef)
    (hk : WL P N ((ops.toList.drop p).map (conv ops)) Ef s Q) : W P N (.region id ops true) E s Q := by
  intro w g a hr
  refine wpIn_region_any hm ?_
  have hr' : Rel w.drew s g E N a := hr.drew
  have hok' := hok
  simp only [drawOk, Bool.and_eq_true, decide_eq_true_eq, List.all_eq_true, List.mem_range, Bool.or_eq_true, beq_iff_eq, Option.isNone_iff_eq_none, bne_iff_ne, ne_eq] at hok'
  obtain ⟨⟨⟨⟨hp, hdown⟩, hdist⟩, hdata⟩, htail⟩ := hok'
  obtain ⟨Es, cs, h0, hlast, hstep⟩ := htr.fn
  have hlen : ((ops.toList.take p).map (conv ops)).length = p := by simp; omega
  rw [hlen] at hlast
  have hL : ∀ i (hi : i < p), ((ops.toList.take p).map (conv ops))[i]'(by omega) = conv ops (ops[i]'(by omega)) := fun i hi => by simp
  have hstep' : ∀ i (hi : i < p), Es (i + 1) = (Es i).set (ops[i]'(by omega)).dst (cs i) ∧ Q1 P N s (conv ops (ops[i]'(by omega))) (Es i) (cs i) ∧ dOk N (ops[i]'(by omega)).dst = true := fun i hi => by
    have := hstep i (by omega)
    rw [hL i hi] at this
    exact this
  have hdst : ∀ i (hi : i < p), dstOf ops i = (ops[i]'(by omega)).dst := fun i hi => by simp [dstOf, Array.getElem?_eq_getElem (show i < ops.size by omega)]
  -- a slot that none of some operations writes
  have hkeep : ∀ t i j, i ≤ j → j ≤ p → (∀ k, i ≤ k → k < j → dstOf ops k ≠ some t) → (Es j).f t = (Es i).f t := by
    intro t i j hij
    induction hij with
    | refl => intro _ _; rfl
    | @step j hij ih =>
      intro hj hno
      have hij' : i ≤ j := hij
      rw [(hstep' j (by omega)).1]
      have hne := hno j hij' (Nat.lt_succ_self _)
      rw [hdst j (by omega)] at hne
      have : ((Es j).set (ops[j]'(by omega)).dst (cs j)).f t = (Es j).f t := by
        cases hd : (ops[j]'(by omega)).dst with
        | none => rfl
        | some d => rw [set_f, if_neg]; intro e; exact hne (by rw [hd, e])
      rw [this]
      exact ih (by omega) fun k h1 h2 => hno k h1 (by omega)
  have hds : ∀ i, i ≤ p → (Es i).ds = E.ds := by
    intro i
    induction i with
    | zero => intro _; rw [h0]
    | succ i ih => intro hi; rw [(hstep' i (by omega)).1, set_ds]; exact ih (by omega)
  have hwrote : ∀ i (hi : i < p) d, (ops[i]'(by omega)).dst = some d → ∀ j, i < j → j ≤ p → (Es j).f d = cs i := by
    intro i hi d hd j hij hj
    rw [hkeep d (i + 1) j hij hj, (hstep' i hi).1, hd, set_f, if_pos rfl]
    intro k hk1 hk2 hkd
    rcases hdist i hi k (by omega) with (h1 | h1) | h1
    · omega
    · rw [hdst i hi, hd] at h1; cases h1
    · exact h1 (by rw [hdst i hi, hd, hkd])
  refine draw_core (N := N) (s := s) hok (E0 := E) (Ef := Ef) (w0 := w) (g0 := g) (by rw [← hlast]; exact hds p (Nat.le_refl _)) (fun i o hi ho => ?_) (fun t hno => ?_) _ (fun w' g' a' hr2 hst2 => ?_) ops.size (Array.replicate ops.size false) a _ (by simp) (unl_rep _) (fun i o e _ h => absurd h (isL_rep _ _)) ?_
  · have ho' : o = ops[i]'(by omega) := by rw [Array.getElem?_eq_getElem (show i < ops.size by omega)] at ho; injection ho with ho; exact ho.symm
    subst ho'
    refine ⟨cs i, Es i, (hstep' i hi).2.1, (hstep' i hi).2.2, hds i (by omega), fun d hd => ?_, fun t ht => ⟨fun ⟨j, hj, hjt⟩ => ?_, fun hno => ?_⟩⟩
    · rw [← hlast]; exact hwrote i hi d hd p hi (Nat.le_refl _)
    · have h5 := hdata i hi
      rw [ho] at h5
      simp only [List.all_eq_true, List.mem_range, Bool.or_eq_true, Bool.and_eq_true, decide_eq_true_eq, bne_iff_ne, ne_eq] at h5
      rcases h5 t ht j hj with h6 | ⟨h6, _⟩
      · exact absurd hjt h6
      · have hjd : (ops[j]'(by omega)).dst = some t := by rw [← hdst j hj]; exact hjt
        rw [hwrote j hj t hjd i h6 (by omega), ← hlast, hwrote j hj t hjd p (by omega) (Nat.le_refl _)]
    · rw [hkeep t 0 i (Nat.zero_le _) (by omega) (fun k _ hk hkt => hno ⟨k, by omega, hkt⟩), h0]
  · rw [← hlast, hkeep t 0 p (Nat.zero_le _) (Nat.le_refl _) (fun k _ hk hkt => hno ⟨k, hk, hkt⟩), h0]
  · exact wpList_mono (fun e a w hp => Post.mono hst2 (fun _ _ _ h => h) hp) _ _ _ (hk ops _ rfl w' g' a' hr2)
  · have hnone := isL_rep ops.size
    by_cases hp0 : p = 0
    · subst hp0
      refine .inr ⟨0, Nat.le_refl _, Nat.zero_le _, fun i _ => ⟨fun h => absurd h (hnone i), fun h => by omega⟩, ?_⟩
      have hE : Ef = E := by rw [← hlast, h0]
      subst hE
      exact wpList_mono (fun e a w hp => Post.mono Step.drew (fun _ _ _ h => h) hp) _ _ _ (hk ops _ rfl w.drew g a hr')
    · exact .inl ⟨⟨fun m _ _ => hnone m, E, g, hr', Step.drew, rfl, fun t => ⟨fun ⟨i, _, hi, _⟩ => absurd hi (hnone i), fun _ => rfl⟩⟩, 0, by omega, hnone 0⟩

/-- What only reads, carried out; then the rest. -/
def stepQ (P : Program) (N : NR) (d : Option Nat) (op : Op) (E : Env) (s : St) (k : Env → Prop) : Prop := match op with
  | .call { callee := .value fo, args, argTypes := _ } => match evo E.f fo with
    | .v (.func (.func q) first captured) => dOk N d = true ∧ ∃ r, Pure P q (argsC E.f first args captured) r ∧ k (E.set d r)
    | _ => False
  | _ => thenC (if dOk N d = true then evRd P op E.f s else none) fun c => k (E.set d c)
def qrun (P : Program) (N : NR) : List Ro → Env → St → List Ro → Ends → Prop
  | [], E, s, tail, Q => run P N tail E s Q
  | ⟨d, op, _, .no⟩ :: rest, E, s, tail, Q => stepQ P N d op E s fun E' => qrun P N rest E' s tail Q
  | ⟨d, op, _, .on k b⟩ :: rest, E, s, tail, Q => onG (E.f k) b (stepQ P N d op E s fun E' => qrun P N rest E' s tail Q) (thenC (if dOk N d = true then some (.v undef) else none) fun c => qrun P N rest (E.set d c) s tail Q)
  | ⟨_, _, _, .bad⟩ :: _, _, _, _, _ => False
theorem stepQ_q {d : Option Nat} {op : Op} {ty : TypeId} {k : Env → Prop} (h : stepQ P N d op E s k) : ∃ c, Q1 P N s ⟨d, op, ty, .no⟩ E c ∧ dOk N d = true ∧ k (E.set d c) := by
  unfold stepQ at h
  split at h
  · split at h
    · rename_i he
      obtain ⟨h1, r, h2, h3⟩ := h
      exact ⟨r, .call he h2, h1, h3⟩
    · exact h.elim
  · obtain ⟨c, h1, h2⟩ := thenC_elim h
    obtain ⟨h3, h4⟩ := ite_elim h1
    exact ⟨c, .rd h4, h3, h2⟩
theorem qrun_tr : ∀ (l : List Ro) (E : Env) (tail : List Ro), qrun P N l E s tail Q → ∃ Ef, Tr P N s l E Ef ∧ WL P N tail Ef s Q := by
  intro l
  induction l with
  | nil => intro E tail h; exact ⟨E, .nil E, WL_run _ _ _ h⟩
  | cons o rest ih =>
    intro E tail h
    obtain ⟨d, op, ty, gd⟩ := o
    cases gd with
    | no =>
      obtain ⟨c, h1, h2, h3⟩ := stepQ_q (ty := ty) h
      obtain ⟨Ef, h4, h5⟩ := ih _ _ h3
      exact ⟨Ef, .cons h1 h2 h4, h5⟩
    | on k b =>
      unfold qrun onG at h
      split at h
      · rename_i t ht
        split at h
        · rename_i htb
          subst htb
          obtain ⟨c, h1, h2, h3⟩ := stepQ_q (ty := ty) h
          obtain ⟨Ef, h4, h5⟩ := ih _ _ h3
          exact ⟨Ef, .cons (.on ht h1) h2 h4, h5⟩
        · rename_i htb
          obtain ⟨c, h1, h2⟩ := thenC_elim h
          obtain ⟨h3, h4⟩ := ite_elim h1
          cases h4
          obtain ⟨Ef, h5, h6⟩ := ih _ _ h2
          exact ⟨Ef, .cons (.off (by rw [ht]; simp [gdOff, htb])) h3 h5, h6⟩
      · rename_i ht
        obtain ⟨c, h1, h2⟩ := thenC_elim h
        obtain ⟨h3, h4⟩ := ite_elim h1
        cases h4
        obtain ⟨Ef, h5, h6⟩ := ih _ _ h2
        exact ⟨Ef, .cons (.off (by rw [ht]; rfl)) h3 h5, h6⟩
      · exact h.elim
    | bad => exact h.elim
theorem W_drawr {id : Nat} {ops : Array Oper} (p : Nat) (hm : P.follows .mixedOrders = true) (hok : drawOk ops p = true) (h : qrun P N ((ops.toList.take p).map (conv ops)) E s ((ops.toList.drop p).map (conv ops)) Q) : W P N (.region id ops true) E s Q := by
  obtain ⟨Ef, h1, h2⟩ := qrun_tr _ _ _ h
  exact W_draw p hm hok h1 h2

variable {d : Option Nat} {op : Op} {ty : TypeId} {rest tail : List Ro}
def contQ (x : Option C) (P : Program) (N : NR) (d : Option Nat) (rest : List Ro) (E : Env) (s : St) (tail : List Ro) (Q : Ends) : Prop := thenC x fun c => qrun P N rest (E.set d c) s tail Q
def stpQ (P : Program) (N : NR) (d : Option Nat) (op : Op) (rest : List Ro) (E : Env) (s : St) (tail : List Ro) (Q : Ends) : Prop := stepQ P N d op E s fun E' => qrun P N rest E' s tail Q
def gcontQ (x : C) (b : Bool) (P : Program) (N : NR) (d : Option Nat) (op : Op) (rest : List Ro) (E : Env) (s : St) (tail : List Ro) (Q : Ends) : Prop :=
  onG x b (stpQ P N d op rest E s tail Q) (contQ (if dOk N d = true then some (.v undef) else none) P N d rest E s tail Q)
def callQ (x : C) (P : Program) (N : NR) (d : Option Nat) (args : Array Operand) (rest : List Ro) (E : Env) (s : St) (tail : List Ro) (Q : Ends) : Prop := match x with
  | .v (.func (.func q) first captured) => dOk N d = true ∧ ∃ r, Pure P q (argsC E.f first args captured) r ∧ qrun P N rest (E.set d r) s tail Q
  | _ => False
theorem qrun_nil : qrun P N [] E s tail Q = run P N tail E s Q := id rfl
theorem qrun_no : qrun P N (⟨d, op, ty, .no⟩ :: rest) E s tail Q = stpQ P N d op rest E s tail Q := id rfl
theorem qrun_on {k : Nat} {b : Bool} : qrun P N (⟨d, op, ty, .on k b⟩ :: rest) E s tail Q = gcontQ (E.f k) b P N d op rest E s tail Q := id rfl
theorem contQ_some (c : C) : contQ (some c) P N d rest E s tail Q = qrun P N rest (E.set d c) s tail Q := id rfl
theorem gcontQ_tt : gcontQ (.v (.bool true)) true P N d op rest E s tail Q = stpQ P N d op rest E s tail Q := id rfl
theorem gcontQ_ff : gcontQ (.v (.bool false)) false P N d op rest E s tail Q = stpQ P N d op rest E s tail Q := id rfl
theorem gcontQ_tf : gcontQ (.v (.bool true)) false P N d op rest E s tail Q = contQ (if dOk N d = true then some (.v undef) else none) P N d rest E s tail Q := id rfl
theorem gcontQ_ft : gcontQ (.v (.bool false)) true P N d op rest E s tail Q = contQ (if dOk N d = true then some (.v undef) else none) P N d rest E s tail Q := id rfl
theorem gcontQ_u (b : Bool) : gcontQ (.v undef) b P N d op rest E s tail Q = contQ (if dOk N d = true then some (.v undef) else none) P N d rest E s tail Q := id rfl
theorem stpQ_call {fo : Operand} {args : Array Operand} {tys : Array TypeId} : stpQ P N d (.call { callee := .value fo, args := args, argTypes := tys }) rest E s tail Q = callQ (evo E.f fo) P N d args rest E s tail Q := id rfl
theorem callQ_fn {q : FuncId} {first captured : Array Value} {args : Array Operand} : callQ (.v (.func (.func q) first captured)) P N d args rest E s tail Q = (dOk N d = true ∧ ∃ r, Pure P q (argsC E.f first args captured) r ∧ qrun P N rest (E.set d r) s tail Q) := id rfl
theorem stpQ_move (x : Operand) : stpQ P N d (.move x) rest E s tail Q = contQ (if dOk N d = true then evRd P (.move x) E.f s else none) P N d rest E s tail Q := id rfl
theorem stpQ_assign (x : Operand) : stpQ P N d (.assign x) rest E s tail Q = contQ (if dOk N d = true then evRd P (.assign x) E.f s else none) P N d rest E s tail Q := id rfl
theorem stpQ_pick (c x y : Operand) : stpQ P N d (.pick c x y) rest E s tail Q = contQ (if dOk N d = true then evRd P (.pick c x y) E.f s else none) P N d rest E s tail Q := id rfl
theorem stpQ_load (t : TypeId) (x : Operand) : stpQ P N d (.load t x) rest E s tail Q = contQ (if dOk N d = true then evRd P (.load t x) E.f s else none) P N d rest E s tail Q := id rfl
theorem stpQ_fieldAddr (t : TypeId) (x : Operand) (k : Nat) : stpQ P N d (.fieldAddr t x k) rest E s tail Q = contQ (if dOk N d = true then evRd P (.fieldAddr t x k) E.f s else none) P N d rest E s tail Q := id rfl
theorem stpQ_nilCheck (x : Operand) : stpQ P N d (.nilCheck x) rest E s tail Q = contQ (if dOk N d = true then evRd P (.nilCheck x) E.f s else none) P N d rest E s tail Q := id rfl
theorem stpQ_indexAddr (t : TypeId) (x i : Operand) : stpQ P N d (.indexAddr t x i) rest E s tail Q = contQ (if dOk N d = true then evRd P (.indexAddr t x i) E.f s else none) P N d rest E s tail Q := id rfl
theorem stpQ_slice (t : TypeId) (x : Operand) (lo hi mx : Option Operand) : stpQ P N d (.slice t x lo hi mx) rest E s tail Q = contQ (if dOk N d = true then evRd P (.slice t x lo hi mx) E.f s else none) P N d rest E s tail Q := id rfl
theorem stpQ_binOp (b : BinOp) (t : TypeId) (x y : Operand) (u : TypeId) : stpQ P N d (.binOp b t x y u) rest E s tail Q = contQ (if dOk N d = true then evRd P (.binOp b t x y u) E.f s else none) P N d rest E s tail Q := id rfl
theorem stpQ_unOp (u : UnOp) (t : TypeId) (x : Operand) : stpQ P N d (.unOp u t x) rest E s tail Q = contQ (if dOk N d = true then evRd P (.unOp u t x) E.f s else none) P N d rest E s tail Q := id rfl
theorem stpQ_extract (x : Operand) (i : Nat) : stpQ P N d (.extract x i) rest E s tail Q = contQ (if dOk N d = true then evRd P (.extract x i) E.f s else none) P N d rest E s tail Q := id rfl
theorem stpQ_build (t : TypeId) (ps : Array (Nat × Operand)) : stpQ P N d (.build t ps) rest E s tail Q = contQ (if dOk N d = true then evRd P (.build t ps) E.f s else none) P N d rest E s tail Q := id rfl
theorem stpQ_makeFunc (fn : Fn) (fs cs : Array Operand) : stpQ P N d (.makeFunc fn fs cs) rest E s tail Q = contQ (if dOk N d = true then evRd P (.makeFunc fn fs cs) E.f s else none) P N d rest E s tail Q := id rfl
theorem stpQ_makeInterface (t : TypeId) (x : Operand) : stpQ P N d (.makeInterface t x) rest E s tail Q = contQ (if dOk N d = true then evRd P (.makeInterface t x) E.f s else none) P N d rest E s tail Q := id rfl
theorem stpQ_typeAssert (x : Operand) (t u : TypeId) (ok : Bool) : stpQ P N d (.typeAssert x t u ok) rest E s tail Q = contQ (if dOk N d = true then evRd P (.typeAssert x t u ok) E.f s else none) P N d rest E s tail Q := id rfl
theorem stpQ_field (t : TypeId) (x : Operand) (k : Nat) : stpQ P N d (.field t x k) rest E s tail Q = contQ (if dOk N d = true then evRd P (.field t x k) E.f s else none) P N d rest E s tail Q := id rfl
theorem stpQ_convert (t u : TypeId) (x : Operand) : stpQ P N d (.convert t u x) rest E s tail Q = contQ (if dOk N d = true then evRd P (.convert t u x) E.f s else none) P N d rest E s tail Q := id rfl
theorem stpQ_min (args : Array Operand) (tys : Array TypeId) : stpQ P N d (.call { callee := .builtin .min, args := args, argTypes := tys }) rest E s tail Q = contQ (if dOk N d = true then evRd P (.call { callee := .builtin .min, args := args, argTypes := tys }) E.f s else none) P N d rest E s tail Q := id rfl
theorem stpQ_max (args : Array Operand) (tys : Array TypeId) : stpQ P N d (.call { callee := .builtin .max, args := args, argTypes := tys }) rest E s tail Q = contQ (if dOk N d = true then evRd P (.call { callee := .builtin .max, args := args, argTypes := tys }) E.f s else none) P N d rest E s tail Q := id rfl
theorem stpQ_len (args : Array Operand) (tys : Array TypeId) : stpQ P N d (.call { callee := .builtin .len, args := args, argTypes := tys }) rest E s tail Q = contQ (if dOk N d = true then evRd P (.call { callee := .builtin .len, args := args, argTypes := tys }) E.f s else none) P N d rest E s tail Q := id rfl
end
attribute [go_sem] qrun_nil qrun_no qrun_on contQ_some gcontQ_tt gcontQ_ff gcontQ_tf gcontQ_ft gcontQ_u stpQ_call callQ_fn stpQ_move stpQ_assign stpQ_pick stpQ_load stpQ_fieldAddr stpQ_nilCheck stpQ_indexAddr stpQ_slice stpQ_binOp stpQ_unOp stpQ_extract stpQ_build stpQ_makeFunc stpQ_makeInterface stpQ_typeAssert stpQ_field stpQ_convert stpQ_min stpQ_max stpQ_len
end Go.VS
namespace Go.VS
open Go
section
variable {P : Program} {w w' : World} {s s' : St} {g g' : Gh} {E E' : Env} {N : NR} {a : Act} {Q : Ends}

theorem put_get (a : Act) (d : Option Nat) (u : Value) (k : Nat) : (a.put d u).tmps.getD k undef = if d = some k ∧ k < a.tmps.size then u else a.tmps.getD k undef := by
  cases d with
  | none => simp [Act.put]
  | some d =>
    simp only [Act.put]
    by_cases h : d = k
    · subst h
      by_cases h2 : d < a.tmps.size
      · simp [h2]
      · simp [h2]
    · simp [h, Array.getElem?_setIfInBounds_ne h]
theorem ite_iff {α : Type} {b c : Prop} {_ : Decidable b} {_ : Decidable c} {x y u v : α} (h : b ↔ c) (h1 : x = u) (h2 : y = v) : ite b x y = ite c u v := by
  subst h1; subst h2
  by_cases hb : b
  · rw [if_pos hb, if_pos (h.1 hb)]
  · rw [if_neg hb, if_neg fun hc => hb (h.2 hc)]
theorem put_size (a : Act) (d : Option Nat) (u : Value) : (a.put d u).tmps.size = a.tmps.size := by cases d <;> simp [Act.put]
theorem put_ds (a : Act) (d : Option Nat) (u : Value) : (a.put d u).defers = a.defers := by cases d <;> rfl

/-- An operation that only reads, or is passed over. -/
inductive QR (P : Program) (s : St) : Ro → Env → C → Prop
  | rd {d op ty E c} (h : evRd P op E.f s = some c) : QR P s ⟨d, op, ty, .no⟩ E c
  | on {d op ty E c k b} (hk : E.f k = .v (.bool b)) (h : QR P s ⟨d, op, ty, .no⟩ E c) : QR P s ⟨d, op, ty, .on k b⟩ E c
  | off {d op ty E k b} (hk : gdOff b (E.f k) = true) : QR P s ⟨d, op, ty, .on k b⟩ E (.v undef)
theorem QR.q1 {o : Ro} {c : C} (h : QR P s o E c) : Q1 P N s o E c := by
  induction h with
  | rd h => exact .rd h
  | on hk h ih => exact .on hk ih
  | off hk => exact .off hk
theorem QR.congr {o : Ro} {c : C} (h : QR P s o E c) : (∀ t ∈ looks o, E.f t = E'.f t) → QR P s o E' c := by
  induction h with
  | rd h => intro hl; exact .rd (by rw [← evRd_congr (looks_evo hl)]; exact h)
  | on hk h ih =>
    intro hl
    exact .on (by rw [← hl _ (by simp [looks])]; exact hk) (ih fun t ht => hl t (by
      simp only [looks, List.append_nil] at ht ⊢
      exact List.mem_append_left _ ht))
  | off hk => intro hl; exact .off (by rw [← hl _ (by simp [looks])]; exact hk)
theorem QR.val {o : Ro} {c : C} (h : QR P s o E c) (hr : Rel w s g E N a) : ∃ v, R w s g c v := by
  induction h with
  | @rd d op ty E c h =>
    obtain ⟨v, _, h4⟩ := evRd_run (P := P) (ty := 0) hr h { dst := none, op := op, type := 0, pos := "", after := #[], guard := none } rfl
    exact ⟨v, h4⟩
  | on hk h ih => exact ih hr
  | off hk => exact ⟨_, .v _⟩

theorem wpIn_back {F : Fence} {n : Nat} {o : Oper} {a1 : Act} {K K1 : Act → World → Prop} {Q Q1 : Exit → Act → World → Prop} (hs : ∀ cs b, o.op ≠ .select cs b) (hdf : ∀ c, o.op ≠ .defer c) (hev : ∀ x ∈ o.op.operands, a1.eval x = a.eval x)
    (hF : ∀ f, F.fn f) (hds : a1.defers = a.defers)
    (h : o.wpIn F n P a1 w K1 Q1) (hK : ∀ ds u w', K1 ({ a1 with defers := ds }.put o.dst u) w' → K ({ a with defers := ds }.put o.dst u) w') (hQ : ∀ ch w', Q1 (.panic ch) a1 w' → Q (.panic ch) a w') (hO : LetsOut Q1 → LetsOut Q) : o.wpIn F n P a w K Q := by
  have hK' : ∀ u w', K1 (a1.put o.dst u) w' → K (a.put o.dst u) w' := fun u w' h => hK a.defers u w' (by rw [← hds]; exact h)
  unfold Oper.wpIn at *
  refine ⟨fun _ _ => hF _, ?_⟩
  have hh := h.2
  rw [Oper.semAt_eq _ _ _ hdf, ← execOp_congr o hs hev]
  rw [Oper.semAt_eq _ _ _ hdf] at hh
  generalize (execOp a1.eval o).run P w = r at *
  cases r with
  | ok n w' =>
    cases n <;> simp only [Oper.uponIn] at hh ⊢ <;>
      first
        | exact hK' _ _ hh
        | exact ⟨hh.1, CallsIn.mono hh.2 (fun e w'' he => by cases e <;> first | exact hK' _ _ he | exact hQ _ _ he | exact hO he)⟩
        | exact ⟨hh.1, RowsIn.mono hh.2 (fun _ _ he => hK' _ _ he)⟩
        | exact ⟨hh.1, RoundIn.mono hh.2 (fun e w'' he => by cases e <;> first | exact hK' _ _ he | exact hQ _ _ he | exact hO he)⟩
        | exact hK _ _ _ (by rw [← hds]; exact hh)
  | halt x w' => cases x <;> simp only [Oper.uponIn] at hh ⊢ <;> first | exact hQ _ _ hh | exact hh

/-- What one operation leaves. -/
def oneQ (E : Env) (d : Option Nat) (K : C → St → Prop) : Ends := fun x E' s' => x = .normal ∧ ∃ c', E' = E.set d c' ∧ K c' s'
def louder : Op → Bool
  | .select _ _ => false
  | .defer _ => false
  | _ => true
theorem oneQ_out {E : Env} {d : Option Nat} {K : C → St → Prop} {ch : List PanicEntry} {a : Act} (h : Post w s g N (oneQ E d K) (.panic ch) a w') : False := by
  obtain ⟨_, _, _, _, _, h, _⟩ := h
  cases h

theorem WL_back {ro q : Ro} {c : C} (hq : QR P s q E c) (hqd : dOk N q.dst = true) (hno : ∀ t, q.dst = some t → t ∉ looks ro ∧ ro.dst ≠ some t) (hl : louder ro.op = true) {K : C → St → Prop}
    (h : WL P N [ro] (E.set q.dst c) s (oneQ (E.set q.dst c) ro.dst K)) : WL P N [ro] E s (oneQ E ro.dst K) := by
  cases hd : q.dst with
  | none => rw [hd] at h; exact h
  | some t =>
    rw [hd] at h hqd
    obtain ⟨hno1, hno2⟩ := hno t hd
    intro ops l' hl' w g a hr
    cases l' with
    | nil => simp at hl'
    | cons o l' =>
      simp only [List.map_cons, List.cons.injEq, List.map_eq_nil_iff] at hl'
      obtain ⟨hc, rfl⟩ := hl'
      subst hc
      obtain ⟨v, hv⟩ := hq.val hr
      have hr1 := hr.put (d := some t) (dOk_lt hqd) hv
      have h1 := h ops [o] (by simp) w g _ hr1
      have hget : ∀ k, k ≠ t → (a.put (some t) v).tmps.getD k undef = a.tmps.getD k undef := fun k hk => by
        rw [put_get, if_neg]
        rintro ⟨e, _⟩
        injection e with e
        exact hk e.symm
      have hget? : ∀ k, k ≠ t → (a.put (some t) v).tmps[k]? = a.tmps[k]? := fun k hk => by
        simp only [Act.put]
        exact Array.getElem?_setIfInBounds_ne (fun e => hk e.symm)
      have hwant : Region.wanted o (yielded ops (a.put (some t) v).tmps) = Region.wanted o (yielded ops a.tmps) := by
        unfold Region.wanted
        cases hg : o.guard with
        | none => rfl
        | some p =>
          obtain ⟨j, b⟩ := p
          simp only [yielded]
          cases hdj : (ops[j]?).bind (·.dst) with
          | none => rfl
          | some k =>
            have hk : k ∈ looks (conv ops o) := by simp [looks, conv, hg, hdj]
            have hkt : k ≠ t := fun e => hno1 (by rw [← e]; exact hk)
            simp only [Option.bind_some, hget? k hkt]
      have hev : ∀ x ∈ o.op.operands, (a.put (some t) v).eval x = a.eval x := by
        intro x hx
        cases x with
        | tmp k =>
          have hk : k ∈ looks (conv ops o) := List.mem_append_left _ (List.mem_filterMap.2 ⟨.tmp k, by simpa [conv] using hx, rfl⟩)
          exact hget k fun e => hno1 (by rw [← e]; exact hk)
        | _ => rfl
      have hfin : ∀ ds u w', Post w s g N (oneQ (E.set (some t) c) (conv ops o).dst K) .normal ({ a.put (some t) v with defers := ds }.put o.dst u) w' → Post w s g N (oneQ E (conv ops o).dst K) .normal ({ a with defers := ds }.put o.dst u) w' := by
        rintro ds u w' ⟨E', s', g', q1, q2, _, c', rfl, q3⟩
        refine ⟨E.set (conv ops o).dst c', s', g', ⟨q1.st, ?_, ?_, fun k => ?_⟩, q2, rfl, c', rfl, q3⟩
        · have := q1.size
          simp only [put_size] at this ⊢
          simpa [put_size] using this
        · have := q1.ds
          simp only [put_ds, set_ds] at this ⊢
          exact this
        · have hk := q1.f k
          have hd' : (conv ops o).dst = o.dst := rfl
          rw [hd'] at hk ⊢
          rw [put_get] at hk ⊢
          by_cases ho : o.dst = some k
          · simp only [ho, set_f, if_true, true_and, put_size] at hk ⊢
            split
            · rename_i hlt; rw [if_pos hlt] at hk; exact hk
            · rename_i hlt
              rw [if_neg hlt] at hk
              have hkt : k ≠ t := fun e => hno2 (by rw [hd', ho, e])
              have hk2 : R w' s' g' c' ((a.put (some t) v).tmps.getD k undef) := hk
              rw [hget k hkt] at hk2
              have hu : a.tmps.getD k undef = undef := by simp at hlt; simp [hlt]
              rw [hu] at hk2
              exact hk2
          · have hset : (E.set o.dst c').f k = E.f k := by
              cases hod : o.dst with
              | none => rfl
              | some d => rw [set_f, if_neg]; intro e; exact ho (by rw [hod, e])
            rw [hset, if_neg (fun h => ho h.1)]
            exact (hr.f k).step q2
      unfold wpListIn at h1 ⊢
      rw [hwant] at h1
      split
      · rename_i hw
        rw [if_pos hw] at h1
        refine wpIn_back (fun cs b e => ?_) (fun c e => ?_) hev (fun f => rf_fn _ _) rfl h1 hfin (fun ch w' hp => (oneQ_out hp).elim) (fun hp => (LetsOut_Post hp).elim)
        · simp [conv, e, louder] at hl
        · simp [conv, e, louder] at hl
      · rename_i hw
        rw [if_neg hw] at h1
        exact ⟨fun _ _ => rf_fn _ _, hfin a.defers undef w h1.2⟩

/-- One operation, at its place in a region. -/
theorem WL_op1 {ops : Array Oper} {o : Oper} {K : C → St → Prop} (h : WL P N [conv ops o] E s (oneQ E o.dst K)) (hr : Rel w s g E N a) {i : Nat} (hi : ops[i]? = some o) {K2 : Act → World → Prop} {Q2 : Exit → Act → World → Prop}
    (hK : ∀ a' w' g' c s', Rel w' s' g' (E.set o.dst c) N a' → Step w s g w' s' g' → K c s' → K2 a' w') : wpOpIn (rf N.r) 0 P ops Q2 i K2 a w := by
  have h1 := h ops [o] (by simp) w g a hr
  have hn : ∀ a' w', wpListIn (rf N.r) 0 P ops (Post w s g N (oneQ E o.dst K)) [] a' w' → K2 a' w' := by
    rintro a' w' ⟨E', s', g', q1, q2, _, c, rfl, q3⟩
    exact hK a' w' g' c s' q1 q2 q3
  unfold wpOpIn
  simp only [hi]
  unfold wpListIn at h1
  split
  · rename_i hw
    rw [if_pos hw] at h1
    exact Oper.wp_mono3 hn (fun ch a w hp => (oneQ_out hp).elim) (fun hp => (LetsOut_Post hp).elim) h1
  · rename_i hw
    rw [if_neg hw] at h1
    exact ⟨fun _ _ => rf_fn _ _, hn _ _ h1.2⟩

def isLo (los : List Nat) (i : Nat) : Bool := los.any (· == i)
def lro (ops : Array Oper) (i : Nat) : Ro := match ops[i]? with
  | some o => conv ops o
  | none => ⟨none, .panic (.const undef), 0, .bad⟩
/-- 'p' operations may come in whatever order, but for some of them ('los'), which keep theirs; then the others. -/
def drawOk2 (ops : Array Oper) (p : Nat) (los : List Nat) : Bool :=
  decide (p ≤ ops.size) && down ops &&
  ((List.range p).all fun i => (List.range p).all fun j => i == j || (dstOf ops i).isNone || dstOf ops i != dstOf ops j) &&
  ((List.range ops.size).all fun m => decide (m < p) || (List.range m).all fun j => reach ops ops.size m j) &&
  ((List.range p).filter (isLo los) == los) &&
  ((List.range p).all fun i => !isLo los i || louder (lro ops i).op && (List.range i).all fun j => !isLo los j || reach ops ops.size i j) &&
  ((List.range p).all fun i => (looks (lro ops i)).all fun t => (List.range p).all fun j => dstOf ops j != some t ||
    ((decide (j < i) && edge ops i j && (isLo los i || !isLo los j)) || (decide (i < j) && reach ops ops.size j i && (!isLo los i || isLo los j))))
/-- Operations, one by one. -/
def LL (P : Program) (N : NR) (I : St → Prop) : List Ro → (Env → St → Prop) → Env → St → Prop
  | [], K, E, s => K E s
  | o :: l, K, E, s => WL P N [o] E s (oneQ E o.dst fun c s' => I s' ∧ LL P N I l K (E.set o.dst c) s')

open Classical in
/-- What is known of the slots when some operations have not been carried out. -/
noncomputable def EX (E0 : Env) (ops : Array Oper) (p : Nat) (los : List Nat) (S : Array Bool) (k : Nat) (Em : Env) : Env :=
  ⟨fun t => if ∃ i, i < p ∧ k ≤ i ∧ isLo los i = false ∧ ¬ isL S i ∧ dstOf ops i = some t then E0.f t else Em.f t, Em.ds⟩

structure Part2 (P : Program) (N : NR) (I : St → Prop) (ops : Array Oper) (p : Nat) (los : List Nat) (K : Env → St → Prop) (E0 Ef : Env) (w0 : World) (s0 : St) (g0 : Gh) (S : Array Bool) (a : Act) (w : World) : Prop where
  tail : ∀ m, p ≤ m → m < ops.size → ¬ isL S m
  env : ∃ m Em sm gm, m ≤ los.length ∧ (∀ i ∈ los, isL S i ↔ i ∈ los.take m) ∧ I sm ∧ LL P N I ((los.drop m).map (lro ops)) K Em sm ∧ Rel w sm gm (EX E0 ops p los S 0 Em) N a ∧ Step w0 s0 g0 w sm gm ∧ Em.ds = E0.ds ∧
    (∀ t, (∃ i, i < p ∧ isLo los i = false ∧ dstOf ops i = some t) → Em.f t = Ef.f t) ∧ (∀ t, (¬ ∃ i, i < p ∧ dstOf ops i = some t) → Em.f t = E0.f t) ∧ ∀ t, (∃ i, i ∈ los ∧ ¬ isL S i ∧ dstOf ops i = some t) → Em.f t = E0.f t

theorem isLo_mem {los : List Nat} {i : Nat} : isLo los i = true ↔ i ∈ los := by simp [isLo]

theorem draw_core2 {ops : Array Oper} {p : Nat} {los : List Nat} (hok : drawOk2 ops p los = true) {I : St → Prop} {K : Env → St → Prop} {E0 Ef : Env}
    (hq : ∀ i o, i < p → isLo los i = false → ops[i]? = some o → dOk N o.dst = true ∧ ∀ s', I s' → ∃ c Ei, QR P s' (conv ops o) Ei c ∧ (∀ d, o.dst = some d → Ef.f d = c) ∧
      ∀ t ∈ looks (conv ops o), ((∃ j, j < i ∧ isLo los j = false ∧ dstOf ops j = some t) → Ei.f t = Ef.f t) ∧ ((¬ ∃ j, j < i ∧ isLo los j = false ∧ dstOf ops j = some t) → Ei.f t = E0.f t))
    {w0 : World} {s0 : St} {g0 : Gh} (Q2 : Exit → Act → World → Prop)
    (hfin : ∀ w sm g a Em, Rel w sm g Em N a → Step w0 s0 g0 w sm g → K Em sm → wpListIn (rf N.r) 0 P ops Q2 (ops.toList.drop p) a w) :
    ∀ (fuel : Nat) (S : Array Bool) (a : Act) (w : World), S.size = ops.size → unl S = fuel → Closed ops S →
      ((Part2 P N I ops p los K E0 Ef w0 s0 g0 S a w ∧ ∃ i, i < p ∧ ¬ isL S i) ∨ ∃ m, p ≤ m ∧ m ≤ ops.size ∧ (∀ i, i < ops.size → (isL S i ↔ i < m)) ∧ wpListIn (rf N.r) 0 P ops Q2 (ops.toList.drop m) a w) →
      wpAnyIn (rf N.r) 0 P .any ops Q2 fuel S a w := by
  simp only [drawOk2, Bool.and_eq_true, decide_eq_true_eq, List.all_eq_true, List.mem_range, Bool.or_eq_true, beq_iff_eq, Option.isNone_iff_eq_none, bne_iff_ne, ne_eq, Bool.not_eq_true'] at hok
  obtain ⟨⟨⟨⟨⟨⟨hp, hdown⟩, hdist⟩, htail⟩, hlos⟩, hloud⟩, hdata⟩ := hok
  have hlop : ∀ i ∈ los, i < p := fun i hi => by rw [← hlos] at hi; simpa using (List.mem_filter.1 hi).1
  have hsort : los.Pairwise (· < ·) := by rw [← hlos]; exact (List.pairwise_lt_range (n := p)).filter _
  have hdist' : ∀ i j t, i < p → j < p → dstOf ops i = some t → dstOf ops j = some t → i = j := fun i j t hi hj h1 h2 => by
    rcases hdist i hi j hj with (h | h) | h
    · exact h
    · rw [h] at h1; cases h1
    · exact absurd (h1.trans h2.symm) h
  have hlro : ∀ i o, ops[i]? = some o → lro ops i = conv ops o := fun i o h => by simp [lro, h]
  have hback : ∀ (S : Array Bool), Closed ops S → ∀ i j, reach ops ops.size i j = true → isL S i → isL S j := fun S hc i j hr hi =>
    reach_listed hc ops.size i j (fun o e ho he hb => hc i o e ho hi he hb) hr
  have hready : ∀ S : Array Bool, S.size = ops.size → ∀ i, i ∈ Region.ready .any ops S → i < ops.size ∧ ¬ isL S i ∧ ∀ o e, ops[i]? = some o → e ∈ o.after → Region.binds .any e = true → isL S e.on := by
    intro S hsz i hi
    obtain ⟨h1, o, ho, h2⟩ := mem_ready.1 hi
    have hlt : i < ops.size := (Array.getElem?_eq_some_iff.1 ho).1
    refine ⟨hlt, fun h => ?_, fun o' e ho' he hb => ?_⟩
    · unfold isL at h
      simp [hsz, hlt] at h h1
      rw [h1] at h
      cases h
    · rw [ho] at ho'
      cases ho'
      exact h2 e he hb
  have hprog : ∀ S : Array Bool, S.size = ops.size → (∃ i, i < ops.size ∧ ¬ isL S i) → Region.ready .any ops S ≠ [] := by
    intro S hsz hex hnil
    obtain ⟨n, hn⟩ := hex
    obtain ⟨m, ⟨hm1, hm2⟩, hm3⟩ := least_of (p := fun i => i < ops.size ∧ ¬ isL S i) n hn
    have : m ∈ Region.ready .any ops S := by
      rw [mem_ready]
      have hget : ops[m]? = some ops[m] := Array.getElem?_eq_getElem hm1
      refine ⟨?_, ops[m], hget, fun e he hb => ?_⟩
      · unfold isL at hm2
        simp [hsz, hm1] at hm2 ⊢
        exact hm2
      · have hd := hdown
        unfold down at hd
        simp only [List.all_eq_true, List.mem_range] at hd
        have := hd m hm1
        rw [hget] at this
        simp only at this
        have h1 := Array.all_eq_true_iff_forall_mem.1 this e he
        simp only [hb, Bool.not_true, Bool.false_or, decide_eq_true_eq] at h1
        rcases Classical.em (isL S e.on) with h2 | h2
        · exact h2
        · exact absurd ⟨by omega, h2⟩ (hm3 e.on h1)
    rw [hnil] at this
    cases this
  have htl : ∀ S : Array Bool, Closed ops S → ∀ i, i < ops.size → p ≤ i → (∀ o e, ops[i]? = some o → e ∈ o.after → Region.binds .any e = true → isL S e.on) → ∀ j, j < i → isL S j := by
    intro S hc i hi hpi hpre j hj
    have := htail i hi
    rcases this with h | h
    · omega
    · exact reach_listed hc ops.size i j hpre (h j hj)
  have hclosed : ∀ S : Array Bool, S.size = ops.size → Closed ops S → ∀ i, i < ops.size → (∀ o e, ops[i]? = some o → e ∈ o.after → Region.binds .any e = true → isL S e.on) → Closed ops (S.setIfInBounds i true) := by
    intro S hsz hc i hi hpre j o e ho hj he hb
    rw [isL_set (by omega)] at hj ⊢
    rcases hj with rfl | hj
    · exact .inr (hpre o e ho he hb)
    · exact .inr (hc j o e ho hj he hb)
  intro fuel
  induction fuel with
  | zero =>
    intro S a w hsz hunl hc h
    have hall := fun i (hi : i < ops.size) => all_listed hunl i (by omega)
    refine ⟨?_, ?_⟩
    · cases hr : Region.ready .any ops S with
      | nil => rfl
      | cons x xs =>
        obtain ⟨h1, h2, _⟩ := hready S hsz x (by rw [hr]; simp)
        exact absurd (hall x h1) h2
    · rcases h with ⟨_, i, hi, hni⟩ | ⟨m, h1, h2, h3, h4⟩
      · exact absurd (hall i (by omega)) hni
      · have hm : m = ops.size := by
          rcases Nat.lt_or_ge m ops.size with h | h
          · have := (h3 m h).1 (hall m h); omega
          · omega
        rw [hm, List.drop_eq_nil_of_le (by simp)] at h4
        exact h4
  | succ fuel ih =>
    intro S a w hsz hunl hc h
    have hex : ∃ i, i < ops.size ∧ ¬ isL S i := by
      rcases Classical.em (∃ i, i < ops.size ∧ ¬ isL S i) with h' | h'
      · exact h'
      · exfalso
        have hall : ∀ b ∈ S.toList, b = true := fun b hb => by
          obtain ⟨i, hi, rfl⟩ := List.getElem_of_mem hb
          have hi' : i < ops.size := by simp at hi; omega
          rcases Classical.em (isL S i) with h1 | h1
          · unfold isL at h1
            simp [hsz, hi'] at h1
            simpa using h1
          · exact absurd ⟨i, hi', h1⟩ h'
        have : unl S = 0 := by
          unfold unl
          rw [List.length_eq_zero_iff, List.filter_eq_nil_iff]
          intro b hb
          simp [hall b hb]
        omega
    refine ⟨fun hnil => absurd hnil (hprog S hsz hex), fun i hi => ?_⟩
    obtain ⟨hi1, hi2, hi3⟩ := hready S hsz i hi
    have hsz' : (S.setIfInBounds i true).size = ops.size := by simpa using hsz
    have hunl' : unl (S.setIfInBounds i true) = fuel := by have := unl_set S i (by omega) hi2; omega
    have hc' := hclosed S hsz hc i hi1 hi3
    rcases h with ⟨hA, j0, hj0, hj0n⟩ | ⟨m, h1, h2, h3, h4⟩
    · have hip : i < p := by
        rcases Nat.lt_or_ge i p with h | h
        · exact h
        · exact absurd (htl S hc i hi1 h hi3 j0 (by omega)) hj0n
      have hget : ops[i]? = some ops[i] := Array.getElem?_eq_getElem hi1
      obtain ⟨m, Em, sm, gm, hm, hmS, hI, hLL, hr, hst, hEds, hEm1, hEm2, hEm3⟩ := hA.env
      have hdst : dstOf ops i = (ops[i]).dst := by simp [dstOf, hget]
      have htail' : ∀ m, p ≤ m → m < ops.size → ¬ isL (S.setIfInBounds i true) m := fun m hm hm2 hh => by
        rcases (isL_set (by omega)).1 hh with rfl | hh
        · omega
        · exact hA.tail m hm hm2 hh
      -- what an operation at 'k' looks at, when all that it waits for is behind
      have hlook : ∀ k o (X : Nat), k < p → X ≤ k → ¬ isL S k → ops[k]? = some o → isLo los k = false → (∀ j, j < p → edge ops k j = true → ¬ (X ≤ j ∧ isLo los j = false ∧ ¬ isL S j)) → ∀ s', I s' → ∃ c, QR P s' (conv ops o) (EX E0 ops p los S X Em) c ∧ ∀ d, o.dst = some d → Ef.f d = c := by
        intro k o X hk hXk hkn ho hlk hX s' hI'
        obtain ⟨_, hqs⟩ := hq k o hk hlk ho
        obtain ⟨c, Ei, q1, q3, q4⟩ := hqs s' hI'
        refine ⟨c, q1.congr fun t ht => ?_, q3⟩
        have hd := hdata k hk t (by rw [hlro k o ho]; exact ht)
        rcases Classical.em (∃ j, j < k ∧ isLo los j = false ∧ dstOf ops j = some t) with ⟨j, hj, hjl, hjt⟩ | hno
        · rw [(q4 t ht).1 ⟨j, hj, hjl, hjt⟩]
          have h7 : edge ops k j = true := by
            rcases hd j (by omega) with h | h | h
            · exact absurd hjt h
            · exact h.1.2
            · omega
          simp only [EX]
          rw [if_neg, hEm1 t ⟨j, by omega, hjl, hjt⟩]
          rintro ⟨i', a1, a2, a3, a4, a5⟩
          have := hdist' i' j t a1 (by omega) a5 hjt
          subst this
          exact hX _ a1 h7 ⟨a2, a3, a4⟩
        · rw [(q4 t ht).2 hno]
          rcases Classical.em (∃ j, j < p ∧ dstOf ops j = some t) with ⟨j, hj, hjt⟩ | hno2
          · have h7 : k < j ∧ reach ops ops.size j k = true := by
              rcases hd j hj with h | h | h
              · exact absurd hjt h
              · rcases h.2 with h2 | h2
                · rw [hlk] at h2; cases h2
                · exact absurd ⟨j, h.1.1, h2, hjt⟩ hno
              · exact h.1
            have hjn : ¬ isL S j := fun h => hkn (hback S hc j k h7.2 h)
            simp only [EX]
            cases hjl : isLo los j with
            | false => rw [if_pos ⟨j, hj, by omega, hjl, hjn, hjt⟩]
            | true =>
              rw [if_neg, hEm3 t ⟨j, isLo_mem.1 hjl, hjn, hjt⟩]
              rintro ⟨i', a1, a2, a3, a4, a5⟩
              have := hdist' i' j t a1 hj a5 hjt
              subst this
              rw [hjl] at a3
              cases a3
          · simp only [EX]
            rw [if_neg, hEm2 t hno2]
            rintro ⟨i', a1, _, _, _, a5⟩
            exact hno2 ⟨i', a1, a5⟩
      have hnextE : ∀ (m' : Nat) (Em' : Env) (sm' : St) (g' : Gh) (a' : Act) (w' : World), m' ≤ los.length → (∀ k ∈ los, isL (S.setIfInBounds i true) k ↔ k ∈ los.take m') → I sm' → LL P N I ((los.drop m').map (lro ops)) K Em' sm' →
          Rel w' sm' g' (EX E0 ops p los (S.setIfInBounds i true) 0 Em') N a' → Step w0 s0 g0 w' sm' g' → Em'.ds = E0.ds → (∀ t, (∃ i, i < p ∧ isLo los i = false ∧ dstOf ops i = some t) → Em'.f t = Ef.f t) → (∀ t, (¬ ∃ i, i < p ∧ dstOf ops i = some t) → Em'.f t = E0.f t) → (∀ t, (∃ k, k ∈ los ∧ ¬ isL (S.setIfInBounds i true) k ∧ dstOf ops k = some t) → Em'.f t = E0.f t) →
          wpAnyIn (rf N.r) 0 P .any ops Q2 fuel (S.setIfInBounds i true) a' w' := by
        intro m' Em' sm' g' a' w' b1 b2 b3 b4 b5 b6 b7 b8 b9 b10
        refine ih _ a' w' hsz' hunl' hc' ?_
        rcases Classical.em (∃ k, k < p ∧ ¬ isL (S.setIfInBounds i true) k) with hk | hk
        · exact .inl ⟨⟨htail', m', Em', sm', g', b1, b2, b3, b4, b5, b6, b7, b8, b9, b10⟩, hk⟩
        · have hfull : ∀ k, k < p → isL (S.setIfInBounds i true) k := fun k hkp => by
            rcases Classical.em (isL (S.setIfInBounds i true) k) with h | h
            · exact h
            · exact absurd ⟨k, hkp, h⟩ hk
          have hm' : m' = los.length := by
            rcases Nat.lt_or_ge m' los.length with h | h
            · have hx : los[m'] ∈ los.take m' := (b2 _ (List.getElem_mem h)).1 (hfull _ (hlop _ (List.getElem_mem h)))
              obtain ⟨q, hq1, hq2⟩ := List.getElem_of_mem hx
              simp only [List.length_take] at hq1
              rw [List.getElem_take] at hq2
              have := (List.pairwise_iff_getElem.1 hsort) q m' (by omega) h (by omega)
              omega
            · omega
          have hEX : EX E0 ops p los (S.setIfInBounds i true) 0 Em' = Em' := by
            cases Em'
            simp only [EX, Env.mk.injEq, and_true]
            funext t
            rw [if_neg]
            rintro ⟨i', a1, _, _, a4, _⟩
            exact a4 (hfull i' a1)
          rw [hEX] at b5
          rw [hm', List.drop_length] at b4
          refine .inr ⟨p, Nat.le_refl _, hp, fun k hk2 => ⟨fun hh => ?_, hfull k⟩, hfin w' sm' g' a' Em' b5 b6 b4⟩
          rcases Nat.lt_or_ge k p with h | h
          · exact h
          · exact absurd hh (htail' k h hk2)
      cases hlo : isLo los i with
      | false =>
        obtain ⟨hqd, _⟩ := hq i ops[i] hip hlo hget
        obtain ⟨c, q1, q3⟩ := hlook i ops[i] 0 hip (Nat.zero_le _) hi2 hget hlo (fun j hj hed h => by
          obtain ⟨o, e, ho, he, hb, rfl⟩ := edge_spec hed
          exact h.2.2 (hi3 o e ho he hb)) sm hI
        refine (q1.q1 (N := N)).op rfl hqd hr hget fun a' w' g' hr' hst' => hnextE m Em sm g' a' w' hm (fun k hk => ?_) hI hLL ?_ (hst.trans hst') hEds hEm1 hEm2 (fun t ⟨k, b1, b2, b3⟩ => hEm3 t ⟨k, b1, fun h => b2 ((isL_set (by omega)).2 (.inr h)), b3⟩)
        · rw [isL_set (by omega), ← hmS k hk]
          constructor
          · rintro (rfl | h)
            · rw [isLo_mem.2 hk] at hlo; cases hlo
            · exact h
          · exact .inr
        · have heq : (EX E0 ops p los S 0 Em).set (conv ops ops[i]).dst c = EX E0 ops p los (S.setIfInBounds i true) 0 Em := by
            have hcd : (conv ops ops[i]).dst = (ops[i]).dst := rfl
            rw [hcd]
            have hiff : ∀ t, (ops[i]).dst ≠ some t → ((∃ i', i' < p ∧ 0 ≤ i' ∧ isLo los i' = false ∧ ¬ isL (S.setIfInBounds i true) i' ∧ dstOf ops i' = some t) ↔ ∃ i', i' < p ∧ 0 ≤ i' ∧ isLo los i' = false ∧ ¬ isL S i' ∧ dstOf ops i' = some t) := fun t ht => by
              constructor
              · rintro ⟨i', a1, a2, a3, a4, a5⟩
                exact ⟨i', a1, a2, a3, fun h => a4 ((isL_set (by omega)).2 (.inr h)), a5⟩
              · rintro ⟨i', a1, a2, a3, a4, a5⟩
                refine ⟨i', a1, a2, a3, fun h => ?_, a5⟩
                rcases (isL_set (by omega)).1 h with rfl | h
                · exact ht (by rw [← hdst]; exact a5)
                · exact a4 h
            cases hd : (ops[i]).dst with
            | none =>
              simp only [Env.set, EX, Env.mk.injEq, and_true]
              funext t
              exact ite_iff (hiff t (by rw [hd]; simp)).symm rfl rfl
            | some d =>
              simp only [Env.set, EX, Env.mk.injEq, and_true]
              funext t
              by_cases htd : t = d
              · subst htd
                rw [if_pos rfl, if_neg, hEm1 t ⟨i, hip, hlo, by rw [hdst, hd]⟩, q3 t hd]
                rintro ⟨i', a1, _, _, a4, a5⟩
                have := hdist' i' i t a1 hip a5 (by rw [hdst, hd])
                subst this
                exact a4 ((isL_set (by omega)).2 (.inl rfl))
              · rw [if_neg htd]
                exact ite_iff (hiff t (by rw [hd]; simpa using fun e => htd e.symm)).symm rfl rfl
          rw [← heq]
          exact hr'
      | true =>
        have hmem := isLo_mem.1 hlo
        have hbefore : ∀ j ∈ los, j < i → isL S j := fun j hj hji => by
          have h := (hloud i hip)
          rcases h with h | h
          · rw [hlo] at h; cases h
          · rcases h.2 j hji with h | h
            · rw [isLo_mem.2 hj] at h; cases h
            · exact reach_listed hc ops.size i j hi3 h
        have hlt : m < los.length := by
          rcases Nat.lt_or_ge m los.length with h | h
          · exact h
          · exact absurd ((hmS i hmem).2 (by rw [List.take_of_length_le h]; exact hmem)) hi2
        have him : los[m] = i := by
          have hnot : i ∉ los.take m := fun h => hi2 ((hmS i hmem).2 h)
          have hdr : i ∈ los.drop m := by
            have := hmem
            rw [← List.take_append_drop m los] at this
            rcases List.mem_append.1 this with h | h
            · exact absurd h hnot
            · exact h
          obtain ⟨q, hq1, hq2⟩ := List.getElem_of_mem hdr
          simp only [List.length_drop] at hq1
          rw [List.getElem_drop] at hq2
          cases q with
          | zero => simpa using hq2
          | succ q =>
            have hlt2 := (List.pairwise_iff_getElem.1 hsort) m (m + (q + 1)) hlt (by omega) (by omega)
            rw [hq2] at hlt2
            have h1 := (hmS _ (List.getElem_mem hlt)).1 (hbefore _ (List.getElem_mem hlt) hlt2)
            obtain ⟨q', hq1', hq2'⟩ := List.getElem_of_mem h1
            simp only [List.length_take] at hq1'
            rw [List.getElem_take] at hq2'
            have := (List.pairwise_iff_getElem.1 hsort) q' m (by omega) hlt (by omega)
            omega
        have hdropm : los.drop m = i :: los.drop (m + 1) := by rw [List.drop_eq_getElem_cons hlt, him]
        rw [hdropm, List.map_cons, hlro i _ hget] at hLL
        have hW : ∀ X, X ≤ p → WL P N [conv ops ops[i]] (EX E0 ops p los S (p - X) Em) sm (oneQ (EX E0 ops p los S (p - X) Em) (ops[i]).dst fun c s' => I s' ∧ LL P N I ((los.drop (m + 1)).map (lro ops)) K (Em.set (ops[i]).dst c) s') := by
          intro X
          induction X with
          | zero =>
            intro _
            have hEX : EX E0 ops p los S (p - 0) Em = Em := by
              cases Em
              simp only [EX, Env.mk.injEq, and_true]
              funext t
              rw [if_neg]
              rintro ⟨i', a1, a2, _⟩
              omega
            rw [hEX]
            exact hLL
          | succ X ihX =>
            intro hX
            have ihX := ihX (by omega)
            have hk : p - (X + 1) < p := by omega
            have hk1 : p - X = p - (X + 1) + 1 := by omega
            rw [hk1] at ihX
            generalize p - (X + 1) = k at *
            have hkget : ops[k]? = some (ops[k]'(by omega)) := Array.getElem?_eq_getElem (by omega)
            have hkd : dstOf ops k = (ops[k]'(by omega)).dst := by simp [dstOf, hkget]
            by_cases hkq : isLo los k = false ∧ ¬ isL S k
            · obtain ⟨c, q1, q3⟩ := hlook k _ k hk (Nat.le_refl _) hkq.2 hkget hkq.1 (fun j hj hed h => by
                obtain ⟨o, e, ho, he, hb, rfl⟩ := edge_spec hed
                have hd := hdown
                unfold down at hd
                simp only [List.all_eq_true, List.mem_range] at hd
                have := hd k (by omega)
                rw [ho] at this
                simp only at this
                have h1 := Array.all_eq_true_iff_forall_mem.1 this e he
                simp only [hb, Bool.not_true, Bool.false_or, decide_eq_true_eq] at h1
                omega) sm hI
              have heq : (EX E0 ops p los S k Em).set (conv ops (ops[k]'(by omega))).dst c = EX E0 ops p los S (k + 1) Em := by
                have hcd : (conv ops (ops[k]'(by omega))).dst = (ops[k]'(by omega)).dst := rfl
                rw [hcd]
                have hiff : ∀ t, (ops[k]'(by omega)).dst ≠ some t → ((∃ i', i' < p ∧ k + 1 ≤ i' ∧ isLo los i' = false ∧ ¬ isL S i' ∧ dstOf ops i' = some t) ↔ ∃ i', i' < p ∧ k ≤ i' ∧ isLo los i' = false ∧ ¬ isL S i' ∧ dstOf ops i' = some t) := fun t ht => by
                  constructor
                  · rintro ⟨i', a1, a2, a3⟩; exact ⟨i', a1, by omega, a3⟩
                  · rintro ⟨i', a1, a2, a3, a4, a5⟩
                    refine ⟨i', a1, ?_, a3, a4, a5⟩
                    rcases Nat.lt_or_ge k i' with h | h
                    · exact h
                    · have : i' = k := by omega
                      subst this
                      exact absurd (by rw [← hkd]; exact a5) ht
                cases hd : (ops[k]'(by omega)).dst with
                | none =>
                  simp only [Env.set, EX, Env.mk.injEq, and_true]
                  funext t
                  exact ite_iff (hiff t (by rw [hd]; simp)).symm rfl rfl
                | some d =>
                  simp only [Env.set, EX, Env.mk.injEq, and_true]
                  funext t
                  by_cases htd : t = d
                  · subst htd
                    rw [if_pos rfl, if_neg, hEm1 t ⟨k, hk, hkq.1, by rw [hkd, hd]⟩, q3 t hd]
                    rintro ⟨i', a1, a2, _, _, a5⟩
                    have := hdist' i' k t a1 hk a5 (by rw [hkd, hd])
                    omega
                  · rw [if_neg htd]
                    exact ite_iff (hiff t (by rw [hd]; simpa using fun e => htd e.symm)).symm rfl rfl
              have hno : ∀ t, (conv ops (ops[k]'(by omega))).dst = some t → t ∉ looks (conv ops ops[i]) ∧ (conv ops ops[i]).dst ≠ some t := by
                intro t ht
                have hkt : dstOf ops k = some t := by rw [hkd]; exact ht
                constructor
                · intro hl
                  rcases hdata i hip t (by rw [hlro i _ hget]; exact hl) k hk with h | h | h
                  · exact h hkt
                  · obtain ⟨o, e, ho, he, hb, rfl⟩ := edge_spec h.1.2
                    exact hkq.2 (hi3 o e ho he hb)
                  · rcases h.2 with h2 | h2
                    · rw [hlo] at h2; cases h2
                    · rw [hkq.1] at h2; cases h2
                · intro hl
                  have := hdist' i k t hip hk (by rw [hdst]; exact hl) hkt
                  subst this
                  rw [hlo] at hkq
                  cases hkq.1
              have hlouder : louder (conv ops ops[i]).op = true := by
                rcases hloud i hip with h | h
                · rw [hlo] at h; cases h
                · rw [hlro i _ hget] at h; exact h.1
              refine WL_back q1 (hq k _ hk hkq.1 hkget).1 hno hlouder ?_
              rw [heq]
              exact ihX
            · have heq : EX E0 ops p los S k Em = EX E0 ops p los S (k + 1) Em := by
                simp only [EX, Env.mk.injEq, and_true]
                funext t
                have hiff : (∃ i', i' < p ∧ k ≤ i' ∧ isLo los i' = false ∧ ¬ isL S i' ∧ dstOf ops i' = some t) ↔ (∃ i', i' < p ∧ k + 1 ≤ i' ∧ isLo los i' = false ∧ ¬ isL S i' ∧ dstOf ops i' = some t) := by
                  constructor
                  · rintro ⟨i', a1, a2, a3, a4, a5⟩
                    refine ⟨i', a1, ?_, a3, a4, a5⟩
                    rcases Nat.lt_or_ge k i' with h | h
                    · exact h
                    · have : i' = k := by omega
                      subst this
                      exact absurd ⟨a3, a4⟩ hkq
                  · rintro ⟨i', a1, a2, a3⟩; exact ⟨i', a1, by omega, a3⟩
                exact ite_iff hiff rfl rfl
              rw [heq]
              exact ihX
        have hW0 := hW p (Nat.le_refl _)
        rw [Nat.sub_self] at hW0
        refine WL_op1 hW0 hr hget fun a' w' g' c s' hr' hst' hK' => hnextE (m + 1) (Em.set (ops[i]).dst c) s' g' a' w' hlt (fun k hk => ?_) hK'.1 hK'.2 ?_ (hst.trans hst') (by rw [set_ds]; exact hEds) (fun t ht => ?_) (fun t ht => ?_) (fun t ht => ?_)
        · rw [isL_set (by omega), hmS k hk, List.take_succ_eq_append_getElem hlt, him, List.mem_append, List.mem_singleton]
          constructor
          · rintro (h | h)
            · exact .inr h
            · exact .inl h
          · rintro (h | h)
            · exact .inr h
            · exact .inl h
        · have heq : (EX E0 ops p los S 0 Em).set (ops[i]).dst c = EX E0 ops p los (S.setIfInBounds i true) 0 (Em.set (ops[i]).dst c) := by
            have hiff : ∀ t, (∃ i', i' < p ∧ 0 ≤ i' ∧ isLo los i' = false ∧ ¬ isL (S.setIfInBounds i true) i' ∧ dstOf ops i' = some t) ↔ ∃ i', i' < p ∧ 0 ≤ i' ∧ isLo los i' = false ∧ ¬ isL S i' ∧ dstOf ops i' = some t := fun t => by
              constructor
              · rintro ⟨i', a1, a2, a3, a4, a5⟩
                exact ⟨i', a1, a2, a3, fun h => a4 ((isL_set (by omega)).2 (.inr h)), a5⟩
              · rintro ⟨i', a1, a2, a3, a4, a5⟩
                refine ⟨i', a1, a2, a3, fun h => ?_, a5⟩
                rcases (isL_set (by omega)).1 h with rfl | h
                · rw [hlo] at a3; cases a3
                · exact a4 h
            cases hd : (ops[i]).dst with
            | none =>
              simp only [Env.set, EX, Env.mk.injEq, and_true]
              funext t
              exact ite_iff (hiff t).symm rfl rfl
            | some d =>
              simp only [Env.set, EX, Env.mk.injEq, and_true]
              funext t
              by_cases htd : t = d
              · subst htd
                rw [if_pos rfl, if_neg, if_pos rfl]
                rintro ⟨i', a1, _, a3, a4, a5⟩
                have := hdist' i' i t a1 hip a5 (by rw [hdst, hd])
                subst this
                rw [hlo] at a3
                cases a3
              · rw [if_neg htd, if_neg htd]
                exact ite_iff (hiff t).symm rfl rfl
          rw [← heq]
          exact hr'
        · cases hd : (ops[i]).dst with
          | none => exact hEm1 t ht
          | some d =>
            rw [set_f, if_neg]
            · exact hEm1 t ht
            · intro e
              subst e
              obtain ⟨i', a1, a2, a3⟩ := ht
              have := hdist' i' i t a1 hip a3 (by rw [hdst, hd])
              subst this
              rw [hlo] at a2
              cases a2
        · cases hd : (ops[i]).dst with
          | none => exact hEm2 t ht
          | some d =>
            rw [set_f, if_neg]
            · exact hEm2 t ht
            · intro e
              subst e
              exact ht ⟨i, hip, by rw [hdst, hd]⟩
        · obtain ⟨k, b1, b2, b3⟩ := ht
          have hki : k ≠ i := fun e => b2 (by rw [e]; exact (isL_set (by omega)).2 (.inl rfl))
          have hE := hEm3 t ⟨k, b1, fun h => b2 ((isL_set (by omega)).2 (.inr h)), b3⟩
          cases hd : (ops[i]).dst with
          | none => exact hE
          | some d =>
            rw [set_f, if_neg]
            · exact hE
            · intro e
              subst e
              exact hki (hdist' k i t (hlop k b1) hip b3 (by rw [hdst, hd]))
    · have him : i = m := by
        have hge : ¬ i < m := fun h => hi2 ((h3 i hi1).2 h)
        rcases Nat.lt_or_ge m i with h | h
        · have := (h3 m (by omega)).1 (htl S hc i hi1 (by omega) hi3 m h); omega
        · omega
      subst him
      have hget : ops[i]? = some ops[i] := Array.getElem?_eq_getElem hi1
      have hdrop : ops.toList.drop i = ops[i] :: ops.toList.drop (i + 1) := by
        rw [List.drop_eq_getElem_cons (by simpa using hi1)]
        simp
      rw [hdrop] at h4
      have hnext : ∀ a' w', wpListIn (rf N.r) 0 P ops Q2 (ops.toList.drop (i + 1)) a' w' → wpAnyIn (rf N.r) 0 P .any ops Q2 fuel (S.setIfInBounds i true) a' w' := fun a' w' h5 =>
        ih _ a' w' hsz' hunl' hc' (.inr ⟨i + 1, by omega, hi1, fun k hk => by
          rw [isL_set (by omega)]
          constructor
          · rintro (rfl | h)
            · omega
            · have := (h3 k hk).1 h; omega
          · intro h
            rcases Nat.lt_or_ge k i with h' | h'
            · exact .inr ((h3 k hk).2 h')
            · exact .inl (by omega), h5⟩)
      unfold wpOpIn
      simp only [hget]
      unfold wpListIn at h4
      split
      · rename_i hw
        rw [if_pos hw] at h4
        exact Oper.wpIn_mono hnext h4
      · rename_i hw
        rw [if_neg hw] at h4
        exact ⟨fun _ _ => rf_fn _ _, hnext _ _ h4.2⟩
end
end Go.VS
namespace Go.VS
open Go
section
variable {P : Program} {w w' : World} {s s' : St} {g g' : Gh} {E E' : Env} {N : NR} {a : Act} {Q : Ends}
/-- What only reads, one by one; the others are passed over. -/
inductive TrQ (P : Program) (N : NR) (s : St) (los : List Nat) : Nat → List Ro → Env → Env → Prop
  | nil (k : Nat) (E : Env) : TrQ P N s los k [] E E
  | quiet {k o l E E' c} (hk : isLo los k = false) (h : QR P s o E c) (hd : dOk N o.dst = true) (t : TrQ P N s los (k + 1) l (E.set o.dst c) E') : TrQ P N s los k (o :: l) E E'
  | loud {k o l E E'} (hk : isLo los k = true) (t : TrQ P N s los (k + 1) l E E') : TrQ P N s los k (o :: l) E E'
theorem TrQ.fn {los : List Nat} {k : Nat} {l : List Ro} {E Ef : Env} (h : TrQ P N s los k l E Ef) : ∃ (Es : Nat → Env) (cs : Nat → C), Es 0 = E ∧ Es l.length = Ef ∧
    ∀ i (hi : i < l.length), (isLo los (k + i) = false → Es (i + 1) = (Es i).set (l[i]).dst (cs i) ∧ QR P s (l[i]) (Es i) (cs i) ∧ dOk N (l[i]).dst = true) ∧ (isLo los (k + i) = true → Es (i + 1) = Es i) := by
  induction h with
  | nil k E => exact ⟨fun _ => E, fun _ => .junk, rfl, rfl, fun i hi => by simp at hi⟩
  | @quiet k o l E E' c hk h hd t ih =>
    obtain ⟨Es, cs, h1, h2, h3⟩ := ih
    refine ⟨fun i => match i with | 0 => E | i + 1 => Es i, fun i => match i with | 0 => c | i + 1 => cs i, rfl, h2, fun i hi => ?_⟩
    cases i with
    | zero => exact ⟨fun _ => ⟨h1, h, hd⟩, fun h => by rw [Nat.add_zero, hk] at h; cases h⟩
    | succ i =>
      have := h3 i (by simpa using hi)
      rw [Nat.add_right_comm, Nat.add_assoc] at this
      exact this
  | @loud k o l E E' hk t ih =>
    obtain ⟨Es, cs, h1, h2, h3⟩ := ih
    refine ⟨fun i => match i with | 0 => E | i + 1 => Es i, fun i => match i with | 0 => .junk | i + 1 => cs i, rfl, h2, fun i hi => ?_⟩
    cases i with
    | zero => exact ⟨fun h => (by rw [Nat.add_zero, hk] at h; cases h), fun _ => h1⟩
    | succ i =>
      have := h3 i (by simpa using hi)
      rw [Nat.add_right_comm, Nat.add_assoc] at this
      exact this

/-- A REGION WHOSE ORDER IS OPEN: of 'p' operations some ('los') do more than read, and keep their order; the others in theirs. -/
theorem W_draw2 {id : Nat} {ops : Array Oper} {Ef : Env} (p : Nat) (los : List Nat) (I : St → Prop) (hm : P.follows .mixedOrders = true) (hok : drawOk2 ops p los = true) (hI : I s)
    (htr : ∀ s', I s' → TrQ P N s' los 0 ((ops.toList.take p).map (conv ops)) E Ef)
    (hk : LL P N I (los.map (lro ops)) (fun E' s' => WL P N ((ops.toList.drop p).map (conv ops)) E' s' Q) Ef s) : W P N (.region id ops true) E s Q := by
  intro w g a hr
  refine wpIn_region_any hm ?_
  have hr' : Rel w.drew s g E N a := hr.drew
  have hok' := hok
  simp only [drawOk2, Bool.and_eq_true, decide_eq_true_eq, List.all_eq_true, List.mem_range, Bool.or_eq_true, beq_iff_eq, Option.isNone_iff_eq_none, bne_iff_ne, ne_eq, Bool.not_eq_true'] at hok'
  obtain ⟨⟨⟨⟨⟨⟨hp, hdown⟩, hdist⟩, htail⟩, hlos⟩, hloud⟩, hdata⟩ := hok'
  have hlen : ((ops.toList.take p).map (conv ops)).length = p := by simp; omega
  have hL : ∀ i (hi : i < p), ((ops.toList.take p).map (conv ops))[i]'(by omega) = conv ops (ops[i]'(by omega)) := fun i hi => by simp
  have hdst : ∀ i (hi : i < p), dstOf ops i = (ops[i]'(by omega)).dst := fun i hi => by simp [dstOf, Array.getElem?_eq_getElem (show i < ops.size by omega)]
  have hdist' : ∀ i j t, i < p → j < p → dstOf ops i = some t → dstOf ops j = some t → i = j := fun i j t hi hj h1 h2 => by
    rcases hdist i hi j hj with (h | h) | h
    · exact h
    · rw [h] at h1; cases h1
    · exact absurd (h1.trans h2.symm) h
  -- what the trace tells, in whatever memory
  have key : ∀ s', I s' → ∃ (Es : Nat → Env) (cs : Nat → C), Es 0 = E ∧ Es p = Ef ∧ (∀ i (hi : i < p), isLo los i = false → QR P s' (conv ops (ops[i]'(by omega))) (Es i) (cs i) ∧ dOk N (ops[i]'(by omega)).dst = true) ∧
      (∀ t i j, i ≤ j → j ≤ p → (∀ k, i ≤ k → k < j → isLo los k = false → dstOf ops k ≠ some t) → (Es j).f t = (Es i).f t) ∧ (∀ i (hi : i < p), isLo los i = false → ∀ d, (ops[i]'(by omega)).dst = some d → ∀ j, i < j → j ≤ p → (Es j).f d = cs i) ∧ ∀ i, i ≤ p → (Es i).ds = E.ds := by
    intro s' hI'
    obtain ⟨Es, cs, h0, hlast, hstep⟩ := (htr s' hI').fn
    rw [hlen] at hlast
    have hstep' : ∀ i (hi : i < p), (isLo los i = false → Es (i + 1) = (Es i).set (ops[i]'(by omega)).dst (cs i) ∧ QR P s' (conv ops (ops[i]'(by omega))) (Es i) (cs i) ∧ dOk N (ops[i]'(by omega)).dst = true) ∧ (isLo los i = true → Es (i + 1) = Es i) := fun i hi => by
      have := hstep i (by omega)
      rw [hL i hi, Nat.zero_add] at this
      exact this
    have hkeep : ∀ t i j, i ≤ j → j ≤ p → (∀ k, i ≤ k → k < j → isLo los k = false → dstOf ops k ≠ some t) → (Es j).f t = (Es i).f t := by
      intro t i j hij
      induction hij with
      | refl => intro _ _; rfl
      | @step j hij ih =>
        intro hj hno
        have hij' : i ≤ j := hij
        have ih := ih (by omega) fun k h1 h2 h3 => hno k h1 (by omega) h3
        cases hlo : isLo los j with
        | true => rw [(hstep' j (by omega)).2 hlo]; exact ih
        | false =>
          rw [((hstep' j (by omega)).1 hlo).1]
          have hne := hno j hij' (Nat.lt_succ_self _) hlo
          rw [hdst j (by omega)] at hne
          have : ((Es j).set (ops[j]'(by omega)).dst (cs j)).f t = (Es j).f t := by
            cases hd : (ops[j]'(by omega)).dst with
            | none => rfl
            | some d => rw [set_f, if_neg]; intro e; exact hne (by rw [hd, e])
          rw [this]
          exact ih
    refine ⟨Es, cs, h0, hlast, fun i hi hlo => ((hstep' i hi).1 hlo).2, hkeep, fun i hi hlo d hd j hij hj => ?_, fun i => ?_⟩
    · rw [hkeep d (i + 1) j hij hj, ((hstep' i hi).1 hlo).1, hd, set_f, if_pos rfl]
      intro k hk1 hk2 hkl hkd
      have := hdist' i k d hi (by omega) (by rw [hdst i hi, hd]) hkd
      omega
    · induction i with
      | zero => intro _; rw [h0]
      | succ i ih =>
        intro hi
        cases hlo : isLo los i with
        | true => rw [(hstep' i (by omega)).2 hlo]; exact ih (by omega)
        | false => rw [((hstep' i (by omega)).1 hlo).1, set_ds]; exact ih (by omega)
  obtain ⟨Es0, cs0, k0, k1, k2, k3, k4, k5⟩ := key s hI
  have hEfds : Ef.ds = E.ds := by rw [← k1]; exact k5 p (Nat.le_refl _)
  have hEf : ∀ t, (¬ ∃ i, i < p ∧ isLo los i = false ∧ dstOf ops i = some t) → Ef.f t = E.f t := fun t hno => by
    rw [← k1, k3 t 0 p (Nat.zero_le _) (Nat.le_refl _) (fun k _ hk hl hkt => hno ⟨k, hk, hl, hkt⟩), k0]
  refine draw_core2 (N := N) hok (I := I) (K := fun E' s' => WL P N ((ops.toList.drop p).map (conv ops)) E' s' Q) (E0 := E) (Ef := Ef) (w0 := w) (s0 := s) (g0 := g) (fun i o hi hlo ho => ?_) _ (fun w' sm g' a' Em hr2 hst2 hW => ?_) ops.size (Array.replicate ops.size false) a _ (by simp) (unl_rep _) (fun i o e _ h => absurd h (isL_rep _ _)) ?_
  · have ho' : o = ops[i]'(by omega) := by rw [Array.getElem?_eq_getElem (show i < ops.size by omega)] at ho; injection ho with ho; exact ho.symm
    subst ho'
    refine ⟨(k2 i hi hlo).2, fun s' hI' => ?_⟩
    obtain ⟨Es, cs, j0, j1, j2, j3, j4, j5⟩ := key s' hI'
    refine ⟨cs i, Es i, (j2 i hi hlo).1, fun d hd => ?_, fun t ht => ⟨fun ⟨j, hjt, hj⟩ => ?_, fun hno => ?_⟩⟩
    · rw [← j1]; exact j4 i hi hlo d hd p hi (Nat.le_refl _)
    · rw [j4 j (by omega) hj.1 t (by rw [← hdst j (by omega)]; exact hj.2) i hjt (by omega), ← j1, j4 j (by omega) hj.1 t (by rw [← hdst j (by omega)]; exact hj.2) p (by omega) (Nat.le_refl _)]
    · rw [j3 t 0 i (Nat.zero_le _) (by omega) (fun k _ hk hl hkt => hno ⟨k, hk, hl, hkt⟩), j0]
  · exact wpList_mono (fun e a w hp => Post.mono hst2 (fun _ _ _ h => h) hp) _ _ _ (hW ops _ rfl w' g' a' hr2)
  · have hnone := isL_rep ops.size
    by_cases hp0 : p = 0
    · subst hp0
      have hl0 : los = [] := by rw [← hlos]; rfl
      subst hl0
      refine .inr ⟨0, Nat.le_refl _, Nat.zero_le _, fun i _ => ⟨fun h => absurd h (hnone i), fun h => by omega⟩, ?_⟩
      have hE : Ef = E := by rw [← k1, k0]
      subst hE
      exact wpList_mono (fun e a w hp => Post.mono Step.drew (fun _ _ _ h => h) hp) _ _ _ (hk ops _ rfl w.drew g a hr')
    · refine .inl ⟨⟨fun m _ _ => hnone m, 0, Ef, s, g, Nat.zero_le _, fun i _ => ⟨fun h => absurd h (hnone i), fun h => by simp at h⟩, hI, hk, ⟨hr'.st, hr'.size, by rw [hr'.ds]; exact hEfds.symm, fun t => ?_⟩, Step.drew, hEfds, fun t _ => rfl, fun t hno => hEf t fun ⟨i, a1, _, a3⟩ => hno ⟨i, a1, a3⟩, fun t ⟨i, a1, _, a3⟩ => hEf t fun ⟨j, b1, b2, b3⟩ => by
        have hip : i < p := by rw [← hlos] at a1; simpa using (List.mem_filter.1 a1).1
        have := hdist' i j t hip b1 a3 b3
        subst this
        rw [isLo_mem.2 a1] at b2
        cases b2⟩, 0, by omega, hnone 0⟩
      simp only [EX]
      split
      · exact hr'.f t
      · rename_i hno
        rw [hEf t fun ⟨i, a1, a2, a3⟩ => hno ⟨i, a1, Nat.zero_le _, a2, hnone i, a3⟩]
        exact hr'.f t

/-! ### As simp carries it out -/
def qr (P : Program) (N : NR) (los : List Nat) : Nat → List Ro → Env → St → (Env → Prop) → Prop
  | _, [], E, _, K => K E
  | k, ⟨d, op, ty, .no⟩ :: rest, E, s, K => if isLo los k = true then qr P N los (k + 1) rest E s K else thenC (if dOk N d = true then evRd P op E.f s else none) fun c => qr P N los (k + 1) rest (E.set d c) s K
  | k, ⟨d, op, ty, .on j b⟩ :: rest, E, s, K => if isLo los k = true then qr P N los (k + 1) rest E s K else
      onG (E.f j) b (thenC (if dOk N d = true then evRd P op E.f s else none) fun c => qr P N los (k + 1) rest (E.set d c) s K) (thenC (if dOk N d = true then some () else none) fun _ => qr P N los (k + 1) rest (E.set d (.v undef)) s K)
  | _, ⟨_, _, _, .bad⟩ :: _, _, _, _ => False
theorem qr_tr {los : List Nat} : ∀ (l : List Ro) (k : Nat) (E : Env) (K : Env → Prop), qr P N los k l E s K → ∃ Ef, TrQ P N s los k l E Ef ∧ K Ef := by
  intro l
  induction l with
  | nil => intro k E K h; exact ⟨E, .nil _ _, h⟩
  | cons o rest ih =>
    intro k E K h
    obtain ⟨d, op, ty, gd⟩ := o
    cases hlo : isLo los k with
    | true =>
      have h' : qr P N los (k + 1) rest E s K := by
        cases gd with
        | no => unfold qr at h; rw [if_pos hlo] at h; exact h
        | on j b => unfold qr at h; rw [if_pos hlo] at h; exact h
        | bad => unfold qr at h; exact h.elim
      obtain ⟨Ef, h1, h2⟩ := ih _ _ _ h'
      exact ⟨Ef, .loud hlo h1, h2⟩
    | false =>
      cases gd with
      | no =>
        unfold qr at h
        rw [if_neg (by rw [hlo]; simp)] at h
        obtain ⟨c, h1, h2⟩ := thenC_elim h
        obtain ⟨hd, h1⟩ := ite_elim h1
        obtain ⟨Ef, h3, h4⟩ := ih _ _ _ h2
        exact ⟨Ef, .quiet hlo (.rd h1) hd h3, h4⟩
      | on j b =>
        unfold qr at h
        rw [if_neg (by rw [hlo]; simp)] at h
        unfold onG at h
        split at h
        · rename_i t ht
          split at h
          · rename_i htb
            subst htb
            obtain ⟨c, h1, h2⟩ := thenC_elim h
            obtain ⟨hd, h1⟩ := ite_elim h1
            obtain ⟨Ef, h3, h4⟩ := ih _ _ _ h2
            exact ⟨Ef, .quiet hlo (.on ht (.rd h1)) hd h3, h4⟩
          · rename_i htb
            obtain ⟨_, h1, h2⟩ := thenC_elim h
            obtain ⟨Ef, h3, h4⟩ := ih _ _ _ h2
            exact ⟨Ef, .quiet hlo (.off (by rw [ht]; simp [gdOff, htb])) (ite_elim h1).1 h3, h4⟩
        · rename_i ht
          obtain ⟨_, h1, h2⟩ := thenC_elim h
          obtain ⟨Ef, h3, h4⟩ := ih _ _ _ h2
          exact ⟨Ef, .quiet hlo (.off (by rw [ht]; rfl)) (ite_elim h1).1 h3, h4⟩
        · exact h.elim
      | bad => unfold qr at h; exact h.elim
theorem W_draws {id : Nat} {ops : Array Oper} {Ef : Env} (p : Nat) (los : List Nat) (I : St → Prop) (hm : P.follows .mixedOrders = true) (hok : drawOk2 ops p los = true) (hI : I s)
    (htr : ∀ s', I s' → qr P N los 0 ((ops.toList.take p).map (conv ops)) E s' fun E' => E' = Ef)
    (hk : LL P N I (los.map (lro ops)) (fun E' s' => WL P N ((ops.toList.drop p).map (conv ops)) E' s' Q) Ef s) : W P N (.region id ops true) E s Q :=
  W_draw2 p los I hm hok hI (fun s' hI' => by obtain ⟨Ef', h1, h2⟩ := qr_tr _ _ _ _ (htr s' hI'); subst h2; exact h1) hk
theorem LL_cons {I : St → Prop} {o : Ro} {l : List Ro} {K : Env → St → Prop} (h : ∀ Q' : Ends, (∀ c s', I s' → LL P N I l K (E.set o.dst c) s' → WL P N [] (E.set o.dst c) s' Q') → WL P N [o] E s Q') : LL P N I (o :: l) K E s :=
  h (oneQ E o.dst fun c s' => I s' ∧ LL P N I l K (E.set o.dst c) s') fun c s' h1 h2 => WL_nil ⟨rfl, c, rfl, h1, h2⟩
theorem LL_nil {I : St → Prop} {K : Env → St → Prop} (h : K E s) : LL P N I [] K E s := h

variable {los : List Nat} {k : Nat} {d : Option Nat} {op : Op} {ty : TypeId} {rest : List Ro} {K : Env → Prop}
def contR (x : Option C) (P : Program) (N : NR) (los : List Nat) (k : Nat) (d : Option Nat) (rest : List Ro) (E : Env) (s : St) (K : Env → Prop) : Prop := thenC x fun c => qr P N los k rest (E.set d c) s K
def gcontR (x : C) (b : Bool) (P : Program) (N : NR) (los : List Nat) (k : Nat) (d : Option Nat) (op : Op) (rest : List Ro) (E : Env) (s : St) (K : Env → Prop) : Prop :=
  onG x b (contR (if dOk N d = true then evRd P op E.f s else none) P N los k d rest E s K) (contR (if dOk N d = true then some (.v undef) else none) P N los k d rest E s K)
theorem qr_nil : qr P N los k [] E s K = K E := id rfl
theorem qr_no : qr P N los k (⟨d, op, ty, .no⟩ :: rest) E s K = if isLo los k = true then qr P N los (k + 1) rest E s K else contR (if dOk N d = true then evRd P op E.f s else none) P N los (k + 1) d rest E s K := id rfl
theorem qr_on {j : Nat} {b : Bool} : qr P N los k (⟨d, op, ty, .on j b⟩ :: rest) E s K = if isLo los k = true then qr P N los (k + 1) rest E s K else gcontR (E.f j) b P N los (k + 1) d op rest E s K := by
  show (if _ then _ else onG _ _ _ _) = if _ then _ else onG _ _ _ _
  congr 2
  unfold contR
  split <;> rfl
theorem contR_some (c : C) : contR (some c) P N los k d rest E s K = qr P N los k rest (E.set d c) s K := id rfl
theorem gcontR_tt : gcontR (.v (.bool true)) true P N los k d op rest E s K = contR (if dOk N d = true then evRd P op E.f s else none) P N los k d rest E s K := id rfl
theorem gcontR_ff : gcontR (.v (.bool false)) false P N los k d op rest E s K = contR (if dOk N d = true then evRd P op E.f s else none) P N los k d rest E s K := id rfl
theorem gcontR_tf : gcontR (.v (.bool true)) false P N los k d op rest E s K = contR (if dOk N d = true then some (.v undef) else none) P N los k d rest E s K := id rfl
theorem gcontR_ft : gcontR (.v (.bool false)) true P N los k d op rest E s K = contR (if dOk N d = true then some (.v undef) else none) P N los k d rest E s K := id rfl
theorem gcontR_u (b : Bool) : gcontR (.v undef) b P N los k d op rest E s K = contR (if dOk N d = true then some (.v undef) else none) P N los k d rest E s K := id rfl
end
attribute [go_sem] isLo qr_nil qr_no qr_on contR_some gcontR_tt gcontR_ff gcontR_tf gcontR_ft gcontR_u lro
end Go.VS
namespace Go.VS
open Go
section
variable {P : Program} {w : World} {s : St} {g : Gh} {E : Env} {N : NR} {Q : Ends} {a : Act}
/-- 'for cond { body }': each round lowers a number; the slots are told by a list. -/
theorem W_while {b c tC : Nat} {head body : Code} (n : Nat) (Inv : Nat → List (Nat × C) → St → Prop) {ds : List Deferred} {l0 : List (Nat × C)}
    (h0 : Inv n l0 s) (hE : Has E l0) (hds : E.ds = ds)
    (round : ∀ m l s, Inv m l s → ∀ K : Env → St → Prop, (∀ E' s' (t : Bool) (l' : List (Nat × C)), E'.ds = ds → E'.f tC = .v (.bool t) → Has E' l' →
      (t = true → ∀ K2 : Env → St → Prop, (∀ E3 s3 m' l3, m' < m → Inv m' l3 s3 → Has E3 l3 → E3.ds = ds → K2 E3 s3) → W P N body (envL l' ds) s' (blockQ c (nextQ K2 (blockQ b Q)))) →
      (t = false → Q .normal (envL l' ds) s') → K E' s') → W P N head (envL l ds) s (nextQ K (blockQ b Q))) :
    W P N (.block b (.loop (.seq (.seq head (.cond (.tmp tC) .skip (.exit b))) (.block c body)))) E s Q := by
  refine W_block (W_loopL Inv (ds := ds) (fun m L s hI => ?_) h0 hE hds)
  refine W_seq (W_seq ((round m L s hI (fun E' s' => ∃ (t : Bool) (l' : List (Nat × C)), E'.ds = ds ∧ E'.f tC = .v (.bool t) ∧ Has E' l' ∧
      (t = true → ∀ K2 : Env → St → Prop, (∀ E3 s3 m' l3, m' < m → Inv m' l3 s3 → Has E3 l3 → E3.ds = ds → K2 E3 s3) → W P N body (envL l' ds) s' (blockQ c (nextQ K2 (blockQ b Q)))) ∧
      (t = false → Q .normal (envL l' ds) s')) (fun E' s' t l' a1 a2 a3 a4 a5 => ⟨t, l', a1, a2, a3, a4, a5⟩)).mono fun x E' s' h => ?_))
  cases x with
  | normal =>
    obtain ⟨t, l', hds', ht, hl', h1, h2⟩ := h
    refine (W_cond (t := t) ht (fun htt => W_skip ?_) (fun htf => ?_))
    · have hb := h1 htt (fun E3 s3 => ∃ m' l3, m' < m ∧ Inv m' l3 s3 ∧ Has E3 l3 ∧ E3.ds = ds) (fun E3 s3 m' l3 a1 a2 a3 a4 => ⟨m', l3, a1, a2, a3, a4⟩)
      have hb' : W P N body E' s' _ := W_keep l' hl' (by rw [hds']; exact hb)
      simp only [nextQ_normal]
      refine W_block (hb'.mono fun x E2 s2 h => ?_)
      cases x with
      | normal => exact h
      | exit i =>
        simp only [blockQ_exit, nextQ_exit, nextQ_normal] at h ⊢
        exact h
      | _ => exact h
    · refine W_keep l' hl' ?_
      rw [hds']
      refine W_exit ?_
      simp only [nextQ_exit, blockQ_exit, if_true]
      exact h2 htf
  | _ => exact h
/-- A call that hands back one value, as an operation of a list. -/
theorem WL_callP {d : Option Nat} {fo : Operand} {args : Array Operand} {tys : Array TypeId} {ty : TypeId} {rest : List Ro} {k : FuncId} {first captured : Array Value} {xs : List C} {r : C}
    (hf : evo E.f fo = .v (.func (.func k) first captured)) (ha : argsC E.f first args captured = xs) (hd : dOk N d = true) (h : Pure P k xs r) (hk : WL P N rest (E.set d r) s Q) :
    WL P N (⟨d, .call { callee := .value fo, args := args, argTypes := tys }, ty, .no⟩ :: rest) E s Q := by
  subst ha
  exact WL_call hf (dOk_lt hd) ((h s).mono (fun c s' ⟨h1, h2⟩ => by subst h1; subst h2; exact hk) (fun _ _ h => h.elim))
/-- A call, as an operation of a list. -/
theorem WL_callC {d : Option Nat} {fo : Operand} {args : Array Operand} {tys : Array TypeId} {ty : TypeId} {rest : List Ro} {k : FuncId} {first captured : Array Value} {xs : List C} {K : KR} {Kp : KP}
    (hf : evo E.f fo = .v (.func (.func k) first captured)) (ha : argsC E.f first args captured = xs) (hd : dOk N d = true) (h : CallC P k xs s K Kp) (hk : ∀ c s', K c s' → WL P N rest (E.set d c) s' Q) (hp : ∀ ch s', Kp ch s' → Q (.panic ch) E s') :
    WL P N (⟨d, .call { callee := .value fo, args := args, argTypes := tys }, ty, .no⟩ :: rest) E s Q := by
  subst ha
  exact WL_call hf (dOk_lt hd) (h.mono (fun c s' h1 => hk c s' h1) hp)
end
end Go.VS
namespace Go.VS
open Go
section
variable {P : Program} {w w' : World} {s s' : St} {g g' : Gh} {E E' : Env} {N : NR} {a : Act} {Q : Ends}
theorem cells_step (hst : StRel w s g) {b : Nat} {cs cs' : List C} (hl : look s.objs b = some cs) (hlen : cs'.length = cs.length) (hle : ∀ (j : Nat) (hj : j < cs.length) v, R w s g cs[j] v → R w s g (cs'[j]'(by omega)) v) :
    StRel w { s with objs := putAt s.objs b cs' } g ∧ Step w s g w { s with objs := putAt s.objs b cs' } g := by
  have hiS : ∀ k, (look (putAt s.objs b cs') k).isSome = (look s.objs k).isSome := fun k => isSome_putAt _ _ _ _
  have hstep : Step w s g w { s with objs := putAt s.objs b cs' } g := by
    refine ⟨rfl, rfl, rfl, Nat.le_refl _, fun _ _ _ => rfl, fun a u hu ho => ⟨hu, fun h => ho ?_⟩, fun k hk h => ?_, fun _ _ => rfl, fun _ _ => rfl, Nat.le_refl _, fun _ _ _ h => h⟩
    · rcases h with h | h | h
      · exact .inl (by rw [← hiS]; exact h)
      · exact .inr (.inl h)
      · exact .inr (.inr h)
    · rcases h with h | h | h
      · exact .inl (by rw [← hiS]; exact h)
      · exact .inr (.inl h)
      · exact .inr (.inr h)
  refine ⟨hst.next hstep (fun k ds hk => ?_) (fun k z es hk => .inl ⟨hk, rfl⟩) (fun r z L hr => ⟨(hst.toks r z L hr).1, .inl ⟨hr, rfl, fun _ _ _ _ => rfl⟩⟩) (fun k m hk => .inl ⟨hk, rfl⟩)
    (fun k h1 h2 => hst.d1 k (by rw [← hiS]; exact h1) h2) (fun k r zL o c h1 h2 h3 => hst.d2 k r zL o c h1 h2 (h3.imp (fun h => by rw [← hiS]; exact h) id)) hst.d3, hstep⟩
  have hk' : look (putAt s.objs b cs') k = some ds := hk
  rw [look_putAt] at hk'
  split at hk'
  · rename_i hkb
    subst hkb
    rw [hl] at hk'
    simp only [Option.map_some, Option.some.injEq] at hk'
    subst hk'
    obtain ⟨arr, e, h1, h2, h3⟩ := hst.objs k cs hl
    refine .inr ⟨arr, e, h1, by omega, fun j hj => ?_⟩
    obtain ⟨u, q1, q2⟩ := h3 j (by omega)
    exact ⟨u, q1, (hle j (by omega) u q2).step hstep⟩
  · exact .inl ⟨hk', rfl⟩
theorem W_cells {c : Code} {b : Nat} {cs cs' : List C} (hl : look s.objs b = some cs) (hlen : cs'.length = cs.length) (hle : ∀ w g, StRel w s g → ∀ (j : Nat) (hj : j < cs.length) v, R w s g cs[j] v → R w s g (cs'[j]'(by omega)) v)
    (h : W P N c E { s with objs := putAt s.objs b cs' } Q) : W P N c E s Q :=
  W_ghost2 fun w g a hr => by
    obtain ⟨h1, h2⟩ := cells_step hr.st hl hlen (hle w g hr.st)
    exact ⟨E, _, g, hr.step h2 h1, h2, h⟩
/-- A nil slice in a variable, that it may be appended to. -/
theorem W_tokc {c : Code} {b : Nat} {cs : List C} (j : Nat) (z : Nat) (hl : look s.objs b = some cs) (hj : cs[j]? = some (.v (.slice none 0 0))) (h : ∀ r, look s.toks r = none → W P N c E { s with objs := putAt s.objs b (cs.set j (.li (some r) [])), toks := (r, (z, 0)) :: s.toks } Q) : W P N c E s Q :=
  W_ghost2 fun w g a hr => by
    obtain ⟨h1, h2, h3⟩ := newTok hr.st z
    obtain ⟨hjl, hjv⟩ := List.getElem?_eq_some_iff.1 hj
    obtain ⟨h4, h5⟩ := cells_step (cs' := cs.set j (.li (some g.nt) [])) h1 hl (by simp) (fun i hi v hv => by
      by_cases e : j = i
      · subst e
        simp only [List.getElem_set_self]
        rw [hjv] at hv
        rw [hv.v_eq]
        exact nil_rel hr.st z
      · rw [List.getElem_set_ne e]
        exact hv)
    exact ⟨E, _, _, (hr.step h2 h1).step h5 h4, h2.trans h5, h _ h3⟩
end
end Go.VS
namespace Go.VS
open Go
section
variable {P : Program} {w w1 w' : World} {s s1 s' : St} {g g1 g' : Gh} {E E1 : Env} {N : NR} {a : Act} {Q Q' : Ends}

theorem WL_one {d : Option Nat} {op : Op} {ty : TypeId} {rest : List Ro}
    (h : ∀ (ops : Array Oper) (w : World) (g : Gh) (a : Act) (o : Oper) (l' : List Oper), Rel w s g E N a → o.op = op → o.type = ty → o.dst = d → l'.map (conv ops) = rest →
      o.wpIn (rf N.r) 0 P a w (fun a' w' => wpListIn (rf N.r) 0 P ops (Post w s g N Q) l' a' w') (Post w s g N Q)) :
    WL P N (⟨d, op, ty, .no⟩ :: rest) E s Q := by
  intro ops l' hl w g a hr
  cases l' with
  | nil => simp at hl
  | cons o l' =>
    simp only [List.map_cons, List.cons.injEq] at hl
    obtain ⟨ho, hrest⟩ := hl
    simp only [conv, Ro.mk.injEq] at ho
    obtain ⟨h1, h2, h3, h4⟩ := ho
    have hg : o.guard = none := by
      cases hgd : o.guard with
      | none => rfl
      | some p =>
        obtain ⟨j, b⟩ := p
        simp only [hgd] at h4
        split at h4 <;> cases h4
    exact wpListIn_plain hg (fun K hK => Oper.wpIn_mono hK (h ops w g a o l' hr h2 h3 h1 hrest))

theorem WL_panic {d : Option Nat} {x : Operand} {ty : TypeId} {rest : List Ro} {t : TypeId} {u : Value} (hx : evo E.f x = .v (.iface t u)) (h : Q (.panic [{ v := .iface t u, recovered := false }]) E s) :
    WL P N (⟨d, .panic x, ty, .no⟩ :: rest) E s Q := by
  refine WL_one fun ops w g a o l' hr h1 h2 h3 h4 => ?_
  have hv := hr.evo x
  rw [hx] at hv
  have hv := hv.v_eq
  have hrun : (execOp a.eval o).run P w = .halt (.panic (.iface t u)) w := by
    simp only [execOp, h1, Instr.panic, hv, goPanic]
    rfl
  unfold Oper.wpIn
  refine ⟨fun _ _ => rf_fn _ _, ?_⟩
  rw [Oper.semAt_eq _ _ _ (by rw [h1]; simp), hrun]
  exact ⟨E, s, g, hr, Step.refl _ _ _, h⟩

theorem WL_defer (hN : N.r = none) {fo : Operand} {args : Array Operand} {tys : Array TypeId} {ty : TypeId} {rest : List Ro} {k : FuncId} {first captured : Array Value} {l : List Value}
    (hf : evo E.f fo = .v (.func (.func k) first captured)) (hl : valsOf (args.toList.map (evo E.f)) = some l)
    (h : WL P N rest ⟨E.f, { target := .fn (.func k) captured, args := first ++ l.toArray } :: E.ds⟩ s Q) :
    WL P N (⟨none, .defer { callee := .value fo, args := args, argTypes := tys }, ty, .no⟩ :: rest) E s Q := by
  refine WL_one fun ops w g a o l' hr h1 h2 h3 h4 => ?_
  have hv := hr.evo fo
  rw [hf] at hv
  have hv := hv.v_eq
  have ha := vals_rel hr hl
  have hrun : (execOp a.eval o).run P w = .ok (.defer { target := .fn (.func k) captured, args := first ++ l.toArray }) w := by
    simp only [execOp, h1, resolve, Deferred.ofValue, hv, Sem.run_bind, Sem.run_pure, Result.andThen_ok, ha]
  unfold Oper.wpIn
  refine ⟨fun _ _ => rf_fn _ _, ?_⟩
  rw [show (rf N.r).round = none from hN, Oper.semAt_none, hrun, Oper.uponIn_defer, h3]
  exact h ops l' h4 w g _ ⟨hr.st, hr.size, by simp [Act.put, hr.ds], fun t => hr.f t⟩

/-- A deferred call, told by what is known of its arguments. -/
def CallD (P : Program) (k : FuncId) (args : List C) (s : St) (u : FrameMode) (K : C → FrameMode → St → Prop) (Kp : List PanicEntry → FrameMode → St → Prop) : Prop :=
  Callable P k ∧ ∀ w g (vals : Array Value), StRel w s g → (hn : vals.size = args.length) → (∀ (j : Nat) (hj : j < args.length), R w s g (args[j]) (vals[j]'(by omega))) → CallsD P k vals u w fun e u' w' => match e with
    | .returned v => ∃ c s' g', StRel w' s' g' ∧ Step w s g w' s' g' ∧ R w' s' g' c v ∧ K c u' s'
    | .panicked ch => ∃ s' g', StRel w' s' g' ∧ Step w s g w' s' g' ∧ Kp ch u' s'
    | .outgrown => False

/-- What comes of a body's end: its deferred calls, then its results. -/
def leaveQ (P : Program) (rs : List ResultVar) (K : KR) (Kp : KP) (f : Nat → C) : List Deferred → FrameMode → St → Prop
  | [], .returning, s => ∃ c, resC P rs f s = some c ∧ ∃ s', Sub s s' ∧ K (strip c) s'
  | [], .panicking ch, s => ∃ s', Sub s s' ∧ Kp ch s'
  | [], .run, _ => False
  | d :: ds, u, s => u ≠ .run ∧ ∃ k cap, d.target = .fn (.func k) cap ∧ CallD P k ((d.args.toList ++ cap.toList).map .v) s u (fun _ u' s' => leaveQ P rs K Kp f ds (settle u') s') (fun ch u' s' => leaveQ P rs K Kp f ds (raised u' ch) s')
def retD (P : Program) (rs : List ResultVar) (K : KR) (Kp : KP) : Ends
  | .normal, E, s => leaveQ P rs K Kp E.f E.ds .returning s
  | .ret, E, s => leaveQ P rs K Kp E.f E.ds .returning s
  | .panic ch, E, s => leaveQ P rs K Kp E.f E.ds (.panicking ch) s
  | _, _, _ => False

theorem leaves_of {fn : Func} {K : KR} {Kp : KP} {f : Nat → C} {tmps : Array Value} {w0 : World} {s0 : St} {g0 : Gh} : ∀ (ds : List Deferred) (u : FrameMode) (w : World) (s : St) (g : Gh), leaveQ P fn.results.toList K Kp f ds u s →
    StRel w s g → Step w0 s0 g0 w s g → (∀ t, R w s g (f t) (tmps.getD t undef)) → Leaves P fn tmps (CPost w0 s0 g0 K Kp) ds u w := by
  intro ds
  induction ds with
  | nil =>
    intro u w s g h hst hstep hf
    cases u with
    | run => exact h.elim
    | returning =>
      obtain ⟨c, h4, s'', h5, h6⟩ := h
      have hr : Rel w s g ⟨f, []⟩ ⟨tmps.size, none⟩ { tmps := tmps, defers := [] } := ⟨hst, rfl, rfl, hf⟩
      obtain ⟨v, h7, h8⟩ := resC_run (P := P) hr h4
      exact ⟨v, h7, strip c, s'', g, h5.st hst, hstep.trans (h5.step _ _), (h8.step (h5.step _ _)).strip, h6⟩
    | panicking ch =>
      obtain ⟨s'', h5, h6⟩ := h
      exact ⟨s'', g, h5.st hst, hstep.trans (h5.step _ _), h6⟩
  | cons d ds ih =>
    intro u w s g h hst hstep hf
    have h : u ≠ .run ∧ ∃ k cap, d.target = .fn (.func k) cap ∧ CallD P k ((d.args.toList ++ cap.toList).map .v) s u (fun _ u' s' => leaveQ P fn.results.toList K Kp f ds (settle u') s') (fun ch u' s' => leaveQ P fn.results.toList K Kp f ds (raised u' ch) s') := h
    obtain ⟨hu, k, cap, ht, hcall, hbody⟩ := h
    refine ⟨hu, .func k, cap, k, d.args ++ cap, ht, by rw [ht]; simp [invoke, hcall _ w], ?_⟩
    refine (hbody w g (d.args ++ cap) hst (by simp) (fun j hj => ?_)).mono fun e u' w' he => ?_
    · simp only [List.getElem_map]
      have : (d.args.toList ++ cap.toList)[j]'(by simpa using hj) = (d.args ++ cap)[j]'(by simpa using hj) := by simp [← Array.toList_append]
      rw [this]
      exact .v _
    · cases e with
      | returned v =>
        obtain ⟨c, s', g', q1, q2, q3, q4⟩ := he
        exact ih _ _ _ _ q4 q1 (hstep.trans q2) (fun t => (hf t).step q2)
      | panicked ch =>
        obtain ⟨s', g', q1, q2, q3⟩ := he
        exact ih _ _ _ _ q3 q1 (hstep.trans q2) (fun t => (hf t).step q2)
      | outgrown => exact he.elim

/-- A FUNCTION WITH DEFERRED CALLS, by its body. -/
theorem CallC_ofD {k : FuncId} {fn : Func} {c : Code} {args : List C} {K : KR} {Kp : KP} (hf : P.funcs[k]? = some fn) (hb : fn.body = some c) (hname : (fn.name == "runtime.NumGoroutine") = false) {n : Nat} (hN : fn.ntmps = n) (hl : args.length ≤ n)
    (h : W P ⟨n, none⟩ c (env0 args) s (retD P fn.results.toList K Kp)) : CallC P k args s K Kp := by
  refine ⟨callable_of hf (by rw [hb]; rfl) hname, fun w g vals hst hn hr => calls_of_wp_defers hf hb ?_⟩
  rw [hN]
  refine Code.wp_mono (fun e a' w' hp => ?_) (wpIn_wide.1 (h w g _ (Rel.env0 hst hn hr hl)))
  cases e with
  | normal =>
    obtain ⟨E', s', g', h1, h2, h3⟩ := hp
    show Leaves P fn a'.tmps _ a'.defers .returning w'
    rw [h1.ds]
    exact leaves_of _ _ _ _ _ h3 h1.st h2 h1.f
  | ret =>
    obtain ⟨E', s', g', h1, h2, h3⟩ := hp
    show Leaves P fn a'.tmps _ a'.defers .returning w'
    rw [h1.ds]
    exact leaves_of _ _ _ _ _ h3 h1.st h2 h1.f
  | panic ch =>
    obtain ⟨E', s', g', h1, h2, h3⟩ := hp
    show Leaves P fn a'.tmps _ a'.defers (.panicking ch) w'
    rw [h1.ds]
    exact leaves_of _ _ _ _ _ h3 h1.st h2 h1.f
  | exit id => obtain ⟨_, _, _, _, _, h⟩ := hp; exact h
  | goto l => obtain ⟨_, _, _, _, _, h⟩ := hp; exact h
  | outgrown => exact hp

/-! ### What recovers: a body whose first operation is 'recover' -/
def recD (u : FrameMode) : Value × FrameMode := match u with
  | .panicking ({ v, recovered := false, goexit := false } :: older) => (v, .panicking ({ v, recovered := true } :: older))
  | u => (.nilIface, u)
theorem recoverD_eq (c : Frame) (cs : List Frame) : (match recoverD (c :: cs) with | some (v, cs') => (v, cs') | none => (.nilIface, c :: cs)) = ((recD c.mode).1, { c with mode := (recD c.mode).2 } :: cs) := by
  obtain ⟨f, t, td, df, mode, k, r⟩ := c
  cases mode with
  | run => rfl
  | returning => rfl
  | panicking l =>
    cases l with
    | nil => rfl
    | cons p older =>
      obtain ⟨v, rc, ge⟩ := p
      cases rc <;> cases ge <;> rfl

theorem CallD_rec {k : FuncId} {fn : Func} {args : List C} {u : FrameMode} {K : C → FrameMode → St → Prop} {Kp : List PanicEntry → FrameMode → St → Prop} {id : Nat} {ops : Array Oper} {o0 o1 : Oper} {d : Nat} {c : Code}
    (hf : P.funcs[k]? = some fn) (hb : fn.body = some (.seq (.region id ops false) c)) (hname : (fn.name == "runtime.NumGoroutine") = false) {n : Nat} (hN : fn.ntmps = n) (hl : args.length ≤ n)
    (hops : ops = #[o0, o1]) (ho0 : o0.op = .call { callee := .builtin .recover, args := #[], argTypes := #[] }) (hg0 : o0.guard = none) (hd0 : o0.dst = some d) (hd : d < n) (hg1 : o1.guard = none) {d1 : Nat} (hd1 : o1.dst = some d1) (hd1' : d1 < n) (ho1 : o1.op = .assign (.tmp d))
    (h : W P ⟨n, none⟩ c (((env0 args).set (some d) (.v (recD u).1)).set (some d1) (.v (recD u).1)) s (retQ P fn.results.toList (fun c s' => K c (recD u).2 s') (fun ch s' => Kp ch (recD u).2 s'))) : CallD P k args s u K Kp := by
  refine ⟨callable_of hf (by rw [hb]; rfl) hname, fun w g vals hst hn hr => ?_⟩
  refine callsD_of_wpS hf hb fun c₀ cs hu => ?_
  rw [hN]
  subst hops
  have hR0 := Rel.env0 (N := ⟨n, none⟩) hst hn hr hl
  generalize hA : ({ tmps := vals ++ Array.replicate (n - vals.size) undef, defers := [] } : Act) = A at hR0
  refine wpS_seq (wpS_region ?_)
  have hrun0 : (execOp A.eval o0).run P w = .ok .recover w := by
    simp only [execOp, ho0, resolve, invoke, builtin, Sem.run_bind, Sem.run_pure, Result.andThen_ok]
  have hR1 : Rel w s g ((env0 args).set (some d) (.v (recD u).1)) ⟨n, none⟩ (A.put (some d) (recD u).1) := hR0.put (fun k hk => by cases hk; exact hd) (.v _)
  have hR2 : Rel w s g (((env0 args).set (some d) (.v (recD u).1)).set (some d1) (.v (recD u).1)) ⟨n, none⟩ ((A.put (some d) (recD u).1).put (some d1) (recD u).1) := hR1.put (fun k hk => by cases hk; exact hd1') (.v _)
  have hev : (A.put (some d) (recD u).1).eval (.tmp d) = (recD u).1 := by
    have := hR1.f d
    simp only [set_f, if_true] at this
    exact this.v_eq
  have hrun1 : (execOp (A.put (some d) (recD u).1).eval o1).run P w = .ok (.value (recD u).1) w := by
    simp only [execOp, ho1, hev, Sem.run_pure]
  have hw0 : ∀ y, Region.wanted o0 y = true := fun y => by simp [Region.wanted, hg0]
  have hw1 : ∀ y, Region.wanted o1 y = true := fun y => by simp [Region.wanted, hg1]
  have hrec := recoverD_eq c₀ cs
  rw [hu] at hrec
  have hgo : Exit.thenS (c.wpS P (bodyPostS P fn c₀ cs fun e u' w' => match e with
    | .returned v => ∃ c s' g', StRel w' s' g' ∧ Step w s g w' s' g' ∧ R w' s' g' c v ∧ K c u' s'
    | .panicked ch => ∃ s' g', StRel w' s' g' ∧ Step w s g w' s' g' ∧ Kp ch u' s'
    | .outgrown => False)) (bodyPostS P fn c₀ cs fun e u' w' => match e with
    | .returned v => ∃ c s' g', StRel w' s' g' ∧ Step w s g w' s' g' ∧ R w' s' g' c v ∧ K c u' s'
    | .panicked ch => ∃ s' g', StRel w' s' g' ∧ Step w s g w' s' g' ∧ Kp ch u' s'
    | .outgrown => False) .normal ((A.put (some d) (recD u).1).put (some d1) (recD u).1) ({ c₀ with mode := (recD u).2 } :: cs) w := by
    refine wpS_of_wp (Code.wp_mono (fun e a' w' hp => ?_) (wpIn_wide.1 (h w g _ hR2)))
    cases e with
    | normal =>
      obtain ⟨E', s', g', h1, h2, h3, c, h4, s'', h5, h6⟩ := hp
      obtain ⟨v, h7, h8⟩ := resC_run (P := P) h1 h4
      exact ⟨h1.ds.trans h3, _, rfl, v, h7, strip c, s'', g', h5.st h1.st, h2.trans (h5.step _ _), (h8.step (h5.step _ _)).strip, h6⟩
    | ret =>
      obtain ⟨E', s', g', h1, h2, h3, c, h4, s'', h5, h6⟩ := hp
      obtain ⟨v, h7, h8⟩ := resC_run (P := P) h1 h4
      exact ⟨h1.ds.trans h3, _, rfl, v, h7, strip c, s'', g', h5.st h1.st, h2.trans (h5.step _ _), (h8.step (h5.step _ _)).strip, h6⟩
    | panic ch =>
      obtain ⟨E', s', g', h1, h2, h3, s'', h5, h6⟩ := hp
      exact ⟨h1.ds.trans h3, _, rfl, s'', g', h5.st h1.st, h2.trans (h5.step _ _), h6⟩
    | exit id => obtain ⟨_, _, _, _, _, h⟩ := hp; exact h
    | goto l => obtain ⟨_, _, _, _, _, h⟩ := hp; exact h
    | outgrown => exact hp.elim
  have hrange : List.range (#[o0, o1] : Array Oper).size = [0, 1] := rfl
  rw [hrange]
  have e0 : (#[o0, o1] : Array Oper)[0]? = some o0 := rfl
  have e1 : (#[o0, o1] : Array Oper)[1]? = some o1 := rfl
  simp only [wpOpsS, e0, e1, hw0, hw1, if_true, hrun0, hd0, hd1]
  cases hrc : recoverD (c₀ :: cs) with
  | none =>
    rw [hrc] at hrec
    simp only [Prod.mk.injEq] at hrec
    obtain ⟨q1, q2⟩ := hrec
    simp only [q1, hrun1, Oper.upon_value, hd1]
    rw [q2]
    exact hgo
  | some p =>
    rw [hrc] at hrec
    obtain ⟨v, cs'⟩ := p
    simp only [Prod.mk.injEq] at hrec
    obtain ⟨q1, q2⟩ := hrec
    subst q1
    subst q2
    simp only [hrun1, Oper.upon_value, hd1]
    exact hgo
end
end Go.VS
namespace Go.VS
open Go
abbrev Rows := List (Nat × (Nat × List (List C)))
/-- A slice over a row of ours, wholly told; nil, too. -/
def RowOf (R : Rows) (c : C) (z : Nat) (es : List (List C)) : Prop := (c = .v (.slice none 0 0) ∧ es = []) ∨ (c = .li none [] ∧ es = []) ∨ ∃ b, c = .rs b es.length ∧ look R b = some (z, es)
/-- .. one that was not there at first; what was there at first is as it was. -/
structure RowIn (R0 R : Rows) (c : C) (z : Nat) (es : List (List C)) : Prop where
  row : RowOf R c z es
  old : ∀ k x, look R0 k = some x → look R k = some x
  new : ∀ b n, c = .rs b n → look R0 b = none
section
variable {P : Program} {w w1 w' : World} {s s1 s' : St} {g g1 g' : Gh} {E E1 : Env} {N : NR} {a : Act} {Q Q' : Ends}

theorem addRow (hst : StRel w s g) (arr : Array Value) (e : TypeId) (z cap : Nat) (es : List (List C)) (hcap : es.length ≤ cap) (hm : cap ≤ maxLen) (hsz : cap * z ≤ arr.size)
    (hz : ∀ x ∈ es, x.length = z) (hu : ∀ (i j : Nat) (hi : i < es.length) (hj : j < (es[i]).length), ∃ u, arr[i * z + j]? = some u ∧ R w s g ((es[i])[j]) u)
    (R0 : Rows) (hR0 : ∀ k x, look R0 k = some x → look s.rows k = some x) :
    ∃ g', StRel (w.alloc (.cells arr e)) { s with rows := (w.heap.size, (z, es)) :: R0 } g' ∧ Step w s g (w.alloc (.cells arr e)) { s with rows := (w.heap.size, (z, es)) :: R0 } g' ∧ g'.rc w.heap.size = cap := by
  have hlook : ∀ k, k ≠ w.heap.size → look ((w.heap.size, (z, es)) :: R0) k = look R0 k := fun k hk => by simp [look, show ¬ w.heap.size = k from fun e => hk e.symm]
  have hlook0 : look ((w.heap.size, (z, es)) :: R0) w.heap.size = some (z, es) := by simp [look]
  have hsub : ∀ k, (look R0 k).isSome → (look s.rows k).isSome := fun k hk => isSome_of (hR0 k) hk
  have hstep : Step w s g (w.alloc (.cells arr e)) { s with rows := (w.heap.size, (z, es)) :: R0 } { g with rc := fun k => if k = w.heap.size then cap else g.rc k, rz := fun k => if k = w.heap.size then z else g.rz k } := by
    refine Step.alloc _ hst (fun a ha h => ?_) (fun k hk h => ?_) (fun k hk => by simp [Nat.ne_of_lt hk]) (fun k hk => by simp [Nat.ne_of_lt hk]) (Nat.le_refl _) (fun _ _ _ h => h)
    · rcases h with h | h | h
      · exact .inl h
      · rw [hlook _ (Nat.ne_of_lt ha)] at h; exact .inr (.inl (hsub _ h))
      · exact .inr (.inr h)
    · rcases h with h | h | h | h
      · exact .inl h
      · rw [hlook _ (Nat.ne_of_lt hk)] at h; exact .inr (.inl (hsub _ h))
      · exact .inr (.inr (.inl h))
      · exact .inr (.inr (.inr h))
  refine ⟨_, hst.next hstep (fun b cs h => .inl ⟨h, Go.RowKit.Below.heap_alloc w _ b (hst.objs_lt (by simp only at h; rw [h]; rfl))⟩) (fun b z' es' h => ?_)
    (fun r z' L h => ⟨(hst.toks r z' L h).1, .inl ⟨h, rfl, fun b o c hb => Go.RowKit.Below.heap_alloc w _ b (hst.toks_lt h hb)⟩⟩) (fun b m h => .inl ⟨h, Go.RowKit.Below.heap_alloc w _ b (hst.maps_lt (by simp only at h; rw [h]; rfl))⟩)
    (fun b h1 h2 => ?_) (fun b r zL o c h1 h2 h3 => ?_) hst.d3, hstep, by simp⟩
  · by_cases hb : b = w.heap.size
    · subst hb
      simp only [hlook0, Option.some.injEq, Prod.mk.injEq] at h
      obtain ⟨rfl, rfl⟩ := h
      refine .inr ⟨arr, e, heap_new w _, by simp, by simpa using hcap, by simpa using hsz, by simpa using hm, hz, fun i j hi hj => ?_⟩
      obtain ⟨u, h1, h2⟩ := hu i j hi hj
      exact ⟨u, h1, h2.step hstep⟩
    · simp only [hlook b hb] at h
      have h' := hR0 _ _ h
      exact .inl ⟨h', Go.RowKit.Below.heap_alloc w _ b (hst.rows_lt (by rw [h']; rfl))⟩
  · by_cases hb : b = w.heap.size
    · subst hb; exact absurd (hst.objs_lt h1) (Nat.lt_irrefl _)
    · simp only [hlook b hb] at h2; exact hst.d1 b h1 (hsub _ h2)
  · have hlt := hst.toks_lt h1 h2
    refine hst.d2 b r zL o c h1 h2 (h3.imp id fun h3 => ?_)
    simp only [hlook b (Nat.ne_of_lt hlt)] at h3
    exact hsub _ h3

theorem del_look {R : Rows} {b k : Nat} {x : Nat × List (List C)} (h : look (del R b) k = some x) : look R k = some x := by
  rw [look_del] at h
  split at h
  · cases h
  · exact h

/-- What an append to a row writes, in its place. -/
theorem rowPlace (hst : StRel w s g) {b z : Nat} {es es2 : List (List C)} (hl : look s.rows b = some (z, es)) (hroom : es.length + es2.length ≤ g.rc b) (hz2 : ∀ x ∈ es2, x.length = z) (u2 : Nat → Nat → Value)
    (hu2 : ∀ (i j : Nat) (hi : i < es2.length) (hj : j < (es2[i]).length), R w s g ((es2[i])[j]) (u2 i j)) {arr : Array Value} {et : TypeId} (harr : w.heap[b]? = some (.cells arr et (0, 0))) :
    StRel (w.setRow b (arr.toList.take (es.length * z) ++ newsOf u2 es2.length z ++ arr.toList.drop (es.length * z + (newsOf u2 es2.length z).length)).toArray) { s with rows := putAt s.rows b (z, es ++ es2) } g ∧
    Step w s g (w.setRow b (arr.toList.take (es.length * z) ++ newsOf u2 es2.length z ++ arr.toList.drop (es.length * z + (newsOf u2 es2.length z).length)).toArray) { s with rows := putAt s.rows b (z, es ++ es2) } g := by
  obtain ⟨arr', e', h3, hrz, hn, hc, hm, hes, hel⟩ := hst.rows b z es hl
  rw [harr] at h3
  injection h3 with h3
  injection h3 with h3 h3'
  subst h3
  have hl2 := newsOf_length u2 es2.length z
  have hfit : es.length * z + (newsOf u2 es2.length z).length ≤ arr.size := by
    rw [hl2, ← Nat.add_mul]
    have := Nat.mul_le_mul_right z hroom
    omega
  have hlk : ∀ k, look (putAt s.rows b (z, es ++ es2)) k = if k = b then some (z, es ++ es2) else look s.rows k := fun k => by
    rw [look_putAt]; split
    · rw [hl]; rfl
    · rfl
  have hiS : ∀ k, (look (putAt s.rows b (z, es ++ es2)) k).isSome = (look s.rows k).isSome := fun k => isSome_putAt _ _ _ _
  have hstep : Step w s g (w.setRow b (arr.toList.take (es.length * z) ++ newsOf u2 es2.length z ++ arr.toList.drop (es.length * z + (newsOf u2 es2.length z).length)).toArray) { s with rows := putAt s.rows b (z, es ++ es2) } g := by
    refine Step.setRow arr _ et harr (.inr (.inl (by rw [hl]; rfl))) (fun j hj u hu => absurd (show own s g ⟨b, j, none⟩ from .inr (.inl (by rw [hl]; rfl))) hj) (fun a ha => ?_) (fun k ha => ?_) (fun _ _ => rfl) (fun _ _ => rfl) (Nat.le_refl _) (fun _ _ _ h => h)
    · rcases ha with ha | ha | ha
      · exact .inl ha
      · rw [hiS] at ha; exact .inr (.inl ha)
      · exact .inr (.inr ha)
    · rcases ha with ha | ha | ha
      · exact .inl ha
      · rw [hiS] at ha; exact .inr (.inl ha)
      · exact .inr (.inr ha)
  refine ⟨hst.next hstep (fun k cs hk => .inl ⟨hk, setRow_other w b k _ (fun e => hst.d1 b (by rw [← e]; simp only at hk; rw [hk]; rfl) (by rw [hl]; rfl))⟩) (fun k z' es' hk => ?_)
    (fun r z0 L hr => ⟨(hst.toks r z0 L hr).1, .inl ⟨hr, rfl, fun k o c hb => setRow_other w b k _ (fun e => hst.d2 k r _ o c hr hb (.inr (by rw [e, hl]; rfl)))⟩⟩)
    (fun k m hk => .inl ⟨hk, setRow_other w b k _ (hst.maps_ne (by simp only at hk; rw [hk]; rfl) harr)⟩) (fun k h1 h2 => hst.d1 k h1 (by rw [← hiS]; exact h2)) (fun k r zL o c h1 h2 h3 => hst.d2 k r zL o c h1 h2 (h3.imp id fun h => by rw [← hiS]; exact h)) hst.d3, hstep⟩
  simp only [hlk] at hk
  split at hk
  · rename_i hkb
    subst hkb
    simp only [Option.some.injEq, Prod.mk.injEq] at hk
    obtain ⟨rfl, rfl⟩ := hk
    have hlenz : ∀ x ∈ es ++ es2, x.length = z := fun x hx => by rcases List.mem_append.1 hx with hx | hx; exact hes x hx; exact hz2 x hx
    refine .inr ⟨_, et, setRow_heap w k arr _ et (0, 0) harr, hrz, by simpa using hroom, by rw [seg_size _ _ _ hfit]; exact hc, hm, hlenz, fun i j hi hj => ?_⟩
    have e1 := app_get es es2 i hi
    have hjz : j < z := by rw [← hlenz _ (List.getElem_mem hi)]; exact hj
    rw [seg_get _ _ _ hfit]
    by_cases hlt : i < es.length
    · rw [dif_pos hlt] at e1
      have hj' : j < (es[i]).length := by rw [← e1]; exact hj
      obtain ⟨u, h6, h7⟩ := hel i j hlt hj'
      have e2 : ((es ++ es2)[i])[j]'hj = (es[i])[j] := by simp [e1]
      rw [if_neg, e2]
      · exact ⟨u, h6, h7.step hstep⟩
      · intro hin
        have := Nat.mul_le_mul_right z (show i + 1 ≤ es.length by omega)
        rw [Nat.add_mul] at this
        omega
    · rw [dif_neg hlt] at e1
      have hi' : i - es.length < es2.length := by simp at hi; omega
      have hj' : j < (es2[i - es.length]).length := by rw [← e1]; exact hj
      have h5 : es.length * z + (i - es.length) * z = i * z := by rw [← Nat.add_mul]; congr 1; omega
      have h6 := newsOf_get u2 es2.length z (i - es.length) j hi' hjz
      have h7 := (List.getElem?_eq_some_iff.1 h6).1
      have e2 : ((es ++ es2)[i])[j]'hj = (es2[i - es.length])[j] := by simp [e1]
      rw [if_pos (by omega), show i * z + j - es.length * z = (i - es.length) * z + j by omega, e2]
      exact ⟨_, h6, (hu2 _ _ hi' hj').step hstep⟩
  · rename_i hkb
    exact .inl ⟨hk, setRow_other w b k _ hkb⟩

theorem WL_appendRow {d t e : Nat} {ty : TypeId} {rest : List Ro} {x y : Operand} {es es2 : List (List C)} {R0 : Rows} (hx : RowIn R0 s.rows (evo E.f x) (tsz P e) es) (hnl : evo E.f x ≠ .li none []) (ht : tel P t = some e) (hz : (tzero P e).isSome) (hb0 : 0 < tby P e)
    (hy : elsC (evo E.f y) = some es2) (hlen : ∀ q ∈ es2, q.length = tsz P e) (hby : (es.length + es2.length) * tby P e ≤ 140737488355328) (hzs : ((tzero P e).map List.length) = some (tsz P e)) (hd : d < N)
    (h : ∀ c' R', RowIn R0 R' c' (tsz P e) (es ++ es2) → c' ≠ .li none [] → WL P N rest (E.set (some d) c') { s with rows := R' } Q) :
    WL P N (⟨some d, .call { callee := .builtin .append, args := #[x, y], argTypes := #[t, t] }, ty, .no⟩ :: rest) E s Q := by
  refine WL_core (fun k hk => by cases hk; exact hd) fun w g a o hr ho1 ho2 => ?_
  obtain ⟨i, zv, hi, hzv, hisz, hiby⟩ := info_parts' hz
  have hinf : (P.info? e).isSome := by rw [hi]; rfl
  have hvs : zv.cells.size = tsz P e := by simpa [tzero, hi, hzv] using hzs
  obtain ⟨A2, c2, u2, hv2, hc2, hr2⟩ := els_cells (hr.evo y) hy hlen
  have hsum := maxLen_of hb0 hby
  have hsum' : es.length + es2.length ≤ maxLen := by unfold maxLen; omega
  have hrun0 : ∀ (v' : Value) (w' : World), (Builtin.append_ #[t, t] o.type #[a.eval x, a.eval y]).run P w = .ok v' w' → (execOp a.eval o).run P w = .ok (.value v') w' := fun v' w' hq => by
    simp [execOp, ho1, resolve, invoke, builtin, hq]
  have hrx := hr.evo x
  obtain ⟨hrow, hold, hnew⟩ := hx
  by_cases hm0 : es2.length = 0
  · obtain rfl : es2 = [] := List.eq_nil_of_length_eq_zero hm0
    simp only [List.append_nil] at h
    rcases hrow with ⟨hc, rfl⟩ | ⟨hc, _⟩ | ⟨b, hc, hl⟩
    · rw [hc] at hrx
      have hrun := run_append_zero (P := P) (w := w) t e o.type (tel_u ht) hinf none A2 0 0 c2 (Nat.le_refl _)
      refine ⟨_, w, s, g, .v (.slice none 0 0), .inl (hrun0 _ _ (by rw [hrx.v_eq, hv2]; exact hrun)), .v _, hr.st, Step.refl _ _ _, h _ s.rows ⟨.inl ⟨rfl, rfl⟩, hold, fun b n hb => by cases hb⟩ (by simp)⟩
    · exact absurd hc hnl
    · rw [hc] at hrx
      obtain ⟨hv, hb, hn⟩ := hrx.rs_inv
      have hrun := run_append_zero (P := P) (w := w) t e o.type (tel_u ht) hinf (some ⟨b, 0, none⟩) A2 es.length (g.rc b) c2 hn
      refine ⟨_, w, s, g, .rs b es.length, .inl (hrun0 _ _ (by rw [hv, hv2]; exact hrun)), .rs _ _ hb hn, hr.st, Step.refl _ _ _, h _ s.rows ⟨.inr (.inr ⟨b, rfl, hl⟩), hold, fun b' n hb' => hnew b' n (by rw [hc]; exact hb')⟩ (by simp)⟩
  · obtain ⟨ad2, rfl, hcell2⟩ := hc2 (by omega)
    have hl2 : (newsOf u2 es2.length (tsz P e)).length = es2.length * tsz P e := newsOf_length _ _ _
    have hn2 : ∀ j v, (newsOf u2 es2.length (tsz P e))[j]? = some v → w.cell? (ad2.add j) = some v := fun j v hj => by
      obtain ⟨hj1, hj2⟩ := List.getElem?_eq_some_iff.1 hj
      rw [hl2] at hj1
      rw [hcell2 j hj1, ← hj2]
      simp [newsOf]
    have ho2' := newsOf_one hlen (fun i j hi hj => (hr2 i j hi hj).2)
    rcases hrow with ⟨hc, rfl⟩ | ⟨hc, _⟩ | ⟨b, hc, hl⟩
    · rw [hc] at hrx
      have hrun := run_append_nil (P := P) w t o.type e i zv (tel_u ht) hi hzv ad2 es2.length c2 (newsOf u2 es2.length (tsz P e)) (by rw [hisz]; exact hl2) hn2 (by omega) (by simp only [List.length_nil, Nat.zero_add] at hsum; omega) (by rw [hiby]; simp at hby; omega)
      have hge := grownCap_ge w es2.length 0 e
      have hcm : grownCap w es2.length 0 e ≤ maxLen := grownCap_le_maxLen w es2.length 0 e (by simpa using hsum')
      obtain ⟨g', h1, h2, h3⟩ := addRow (w := w.drew) hr.st.drew ((newsOf u2 es2.length (tsz P e)).toArray ++ Builtin.zeroCells zv.cells (grownCap w es2.length 0 e - es2.length)) e (tsz P e) (grownCap w es2.length 0 e) es2
        (by simpa using hge) hcm (by
          simp only [Array.size_append, List.size_toArray, hl2, size_zeroCells, hvs, ← Nat.add_mul]
          exact Nat.mul_le_mul_right _ (by omega)) hlen (fun i j hi hj => ⟨u2 i j, by
            have hjz : j < tsz P e := by rw [← hlen _ (List.getElem_mem hi)]; exact hj
            have hq := newsOf_get u2 es2.length (tsz P e) i j hi hjz
            have hql := (List.getElem?_eq_some_iff.1 hq).1
            rw [Array.getElem?_append_left (by simpa using hql)]
            simpa using hq, (hr2 i j hi hj).1.step Step.drew⟩) s.rows (fun _ _ h => h)
      simp only [World.size_drew] at h1 h2 h3
      have hfr : ∀ k x, look s.rows k = some x → look ((w.heap.size, (tsz P e, es2)) :: s.rows) k = some x := fun k x hk => by
        have := hr.st.rows_lt (b := k) (by rw [hk]; rfl)
        simp [look, show ¬ w.heap.size = k by omega, hk]
      refine ⟨_, _, _, g', .rs w.heap.size es2.length, .inl (hrun0 _ _ (by rw [hrx.v_eq, hv2]; exact hrun)), ?_, h1, Step.drew.trans h2, h _ _ ⟨.inr (.inr ⟨w.heap.size, by simp, by simp [look]⟩), fun k x hk => hfr k x (hold k x hk), fun b n hb => ?_⟩ (by simp)⟩
      · have := VR.rs (w := w.drew.alloc (.cells ((newsOf u2 es2.length (tsz P e)).toArray ++ Builtin.zeroCells zv.cells (grownCap w es2.length 0 e - es2.length)) e)) (O := own { s with rows := (w.heap.size, (tsz P e, es2)) :: s.rows } g') (T := TK { s with rows := (w.heap.size, (tsz P e, es2)) :: s.rows } g') (g := g') w.heap.size es2.length (by simp) (by rw [h3]; simpa using hge)
        rw [h3] at this
        exact this
      · cases hb
        cases hq : look R0 w.heap.size with
        | none => rfl
        | some q => exact absurd (hr.st.rows_lt (b := w.heap.size) (by rw [hold _ _ hq]; rfl)) (Nat.lt_irrefl _)
    · exact absurd hc hnl
    · rw [hc] at hrx
      obtain ⟨hv, hb, hn⟩ := hrx.rs_inv
      obtain ⟨arr, et, harr, hrz, hne, hasz, hcm, hes, hel⟩ := hr.st.rows b _ es hl
      by_cases hroom : es.length + es2.length ≤ g.rc b
      · have hfit : es.length * tsz P e + (newsOf u2 es2.length (tsz P e)).length ≤ arr.size := by
          rw [hl2, ← Nat.add_mul]
          have := Nat.mul_le_mul_right (tsz P e) hroom
          omega
        have hrun := run_append_room' (P := P) (w := w) t o.type e et (tel_u ht) hinf b es.length (g.rc b) arr harr ad2 es2.length c2 (newsOf u2 es2.length (tsz P e)) hl2 hn2 ho2' hroom hfit
        obtain ⟨h1, h2⟩ := rowPlace hr.st hl hroom hlen u2 (fun i j hi hj => (hr2 i j hi hj).1) harr
        refine ⟨_, _, _, g, .rs b (es ++ es2).length, .inl (hrun0 _ _ (by rw [hv, hv2]; exact hrun)), ?_, h1, h2, h _ _ ⟨.inr (.inr ⟨b, rfl, by rw [look_putAt, if_pos rfl, hl]; rfl⟩), fun k x hk => ?_, fun b' n hb' => by cases hb'; exact hnew b _ hc⟩ (by simp)⟩
        · rw [List.length_append]
          exact .rs _ _ (by simpa using hb) hroom
        · rw [look_putAt, if_neg]
          · exact hold k x hk
          · intro e
            subst e
            rw [hnew k _ hc] at hk
            cases hk
      · have hch : ∃ u1 : Nat → Nat → Value, ∀ (i j : Nat) (hi : i < es.length) (hj : j < (es[i]).length), arr[i * tsz P e + j]? = some (u1 i j) ∧ R w s g ((es[i])[j]) (u1 i j) := by
          refine ⟨fun i j => (arr[i * tsz P e + j]?).getD undef, fun i j hi hj => ?_⟩
          obtain ⟨u, q1, q2⟩ := hel i j hi hj
          simp only [q1, Option.getD_some]
          exact ⟨trivial, q2⟩
        obtain ⟨u1, hu1⟩ := hch
        have hold1 : ∀ j v, (newsOf u1 es.length (tsz P e))[j]? = some v → w.cell? ((⟨b, 0, none⟩ : Addr).add j) = some v := fun j v hj => by
          obtain ⟨hj1, hj2⟩ := List.getElem?_eq_some_iff.1 hj
          rw [newsOf_length] at hj1
          have hz0 : 0 < tsz P e := by
            rcases Nat.eq_zero_or_pos (tsz P e) with h0 | h0
            · rw [h0] at hj1; simp at hj1
            · exact h0
          have hi' : j / tsz P e < es.length := by rw [Nat.div_lt_iff_lt_mul hz0]; exact hj1
          have hj' : j % tsz P e < (es[j / tsz P e]).length := by rw [hes _ (List.getElem_mem hi')]; exact Nat.mod_lt _ hz0
          have hq := (hu1 _ _ hi' hj').1
          have e1 : j / tsz P e * tsz P e + j % tsz P e = j := by rw [Nat.mul_comm]; exact Nat.div_add_mod j _
          rw [e1] at hq
          rw [add_none, ← hj2]
          simp only [World.cell?, harr, Nat.zero_add, Option.isSome_none, Bool.false_eq_true, if_false]
          rw [hq]
          simp [newsOf]
        have hrun := run_append_grow (P := P) w t o.type e i zv (tel_u ht) hi hzv ⟨b, 0, none⟩ es.length (g.rc b) (newsOf u1 es.length (tsz P e)) (by rw [hisz, newsOf_length]) hold1 ad2 es2.length c2 (newsOf u2 es2.length (tsz P e)) (by rw [hisz]; exact hl2) hn2
          (by omega) (by omega) (by rw [hiby]; exact growslice_fits (by omega) hby)
        have hge := grownCap_ge w (es.length + es2.length) (g.rc b) e
        have hcm' : grownCap w (es.length + es2.length) (g.rc b) e ≤ maxLen := grownCap_le_maxLen w _ _ e hsum'
        have hlenz : ∀ x ∈ es ++ es2, x.length = tsz P e := fun x hx => by rcases List.mem_append.1 hx with hx | hx; exact hes x hx; exact hlen x hx
        obtain ⟨g', h1, h2, h3⟩ := addRow (w := w.drew) hr.st.drew
          ((newsOf u1 es.length (tsz P e)).toArray ++ (newsOf u2 es2.length (tsz P e)).toArray ++ Builtin.zeroCells zv.cells (grownCap w (es.length + es2.length) (g.rc b) e - (es.length + es2.length))) e (tsz P e) (grownCap w (es.length + es2.length) (g.rc b) e) (es ++ es2)
          (by simpa using hge) hcm' (by
            simp only [Array.size_append, List.size_toArray, newsOf_length, size_zeroCells, hvs, ← Nat.add_mul]
            exact Nat.mul_le_mul_right _ (by omega)) hlenz (fun i j hi hj => by
            have e1 := app_get es es2 i hi
            have hjz : j < tsz P e := by rw [← hlenz _ (List.getElem_mem hi)]; exact hj
            by_cases hlt : i < es.length
            · rw [dif_pos hlt] at e1
              have hj' : j < (es[i]).length := by rw [← e1]; exact hj
              have e2 : ((es ++ es2)[i])[j]'hj = (es[i])[j] := by simp [e1]
              rw [e2]
              refine ⟨u1 i j, ?_, (hu1 i j hlt hj').2.step Step.drew⟩
              have hq := newsOf_get u1 es.length (tsz P e) i j hlt hjz
              have hql := (List.getElem?_eq_some_iff.1 hq).1
              rw [Array.append_assoc, Array.getElem?_append_left (by simpa using hql)]
              simpa using hq
            · rw [dif_neg hlt] at e1
              have hi' : i - es.length < es2.length := by simp at hi; omega
              have hj' : j < (es2[i - es.length]).length := by rw [← e1]; exact hj
              have e2 : ((es ++ es2)[i])[j]'hj = (es2[i - es.length])[j] := by simp [e1]
              rw [e2]
              refine ⟨u2 (i - es.length) j, ?_, (hr2 _ _ hi' hj').1.step Step.drew⟩
              have hq := newsOf_get u2 es2.length (tsz P e) (i - es.length) j hi' hjz
              have hql := (List.getElem?_eq_some_iff.1 hq).1
              have h5 : es.length * tsz P e + (i - es.length) * tsz P e = i * tsz P e := by rw [← Nat.add_mul]; congr 1; omega
              rw [Array.append_assoc, Array.getElem?_append_right (by simp [newsOf_length]; omega), List.size_toArray, newsOf_length,
                show i * tsz P e + j - es.length * tsz P e = (i - es.length) * tsz P e + j by omega, Array.getElem?_append_left (by simpa using hql)]
              simpa using hq) (del s.rows b) (fun _ _ h => del_look h)
        simp only [World.size_drew] at h1 h2 h3
        have hfr : ∀ k x, look R0 k = some x → look ((w.heap.size, (tsz P e, es ++ es2)) :: del s.rows b) k = some x := fun k x hk => by
          have hk' := hold k x hk
          have := hr.st.rows_lt (b := k) (by rw [hk']; rfl)
          have hkb : k ≠ b := fun e => by subst e; rw [hnew k _ hc] at hk; cases hk
          simp [look, show ¬ w.heap.size = k by omega, look_del, hkb, hk']
        refine ⟨_, _, _, g', .rs w.heap.size (es ++ es2).length, .inl (hrun0 _ _ (by rw [hv, hv2]; exact hrun)), ?_, h1, Step.drew.trans h2, h _ _ ⟨.inr (.inr ⟨w.heap.size, rfl, by simp [look]⟩), hfr, fun b' n hb' => ?_⟩ (by simp)⟩
        · have := VR.rs (w := w.drew.alloc (.cells ((newsOf u1 es.length (tsz P e)).toArray ++ (newsOf u2 es2.length (tsz P e)).toArray ++ Builtin.zeroCells zv.cells (grownCap w (es.length + es2.length) (g.rc b) e - (es.length + es2.length))) e))
            (O := own { s with rows := (w.heap.size, (tsz P e, es ++ es2)) :: del s.rows b } g') (T := TK { s with rows := (w.heap.size, (tsz P e, es ++ es2)) :: del s.rows b } g') (g := g') w.heap.size (es ++ es2).length (by simp) (by rw [h3]; simpa using hge)
          rw [h3] at this
          simpa using this
        · cases hb'
          cases hq : look R0 w.heap.size with
          | none => rfl
          | some q => exact absurd (hr.st.rows_lt (b := w.heap.size) (by rw [hold _ _ hq]; rfl)) (Nat.lt_irrefl _)
end
end Go.VS
namespace Go.VS
open Go
section
variable {P : Program} {w w1 w' : World} {s s1 s' : St} {g g1 g' : Gh} {E E1 : Env} {N : NR} {a : Act} {Q Q' : Ends}

theorem rows_sub {R0 : Rows} (h : ∀ k x, look R0 k = some x → look s.rows k = some x) : Sub s { s with rows := R0 } :=
  ⟨fun _ _ h => h, h, fun _ _ h => h, fun _ _ h => h⟩
/-- A row that is not written any more is a slice that is read. -/
theorem RowIn.froze {R0 : Rows} {c : C} {z : Nat} {es : List (List C)} {v : Value} (hx : RowIn R0 s.rows c z es) (hone : es.all (fun e => e.all one) = true) (hst : StRel w s g) (hv : R w s g c v) :
    R w { s with rows := R0 } g (.li none es) v := by
  obtain ⟨hrow, hold, hnew⟩ := hx
  rcases hrow with ⟨rfl, rfl⟩ | ⟨rfl, rfl⟩ | ⟨b, rfl, hl⟩
  · cases hv
    exact .li none [] none 0 0 ⟨0, 0, none⟩ z (fun _ _ => undef) rfl (Nat.zero_le _) (Nat.le_refl _) (by simp) (by simp) rfl (by simp) (by simp) (by simp) (fun r hr => by cases hr)
  · exact hv.step ((rows_sub (s := s) hold).step w g)
  · obtain ⟨rfl, hb, hn⟩ := hv.rs_inv
    obtain ⟨arr, e, harr, hrz, hne, hasz, hcm, hes, hel⟩ := hst.rows b z es hl
    have hch : ∃ u : Nat → Nat → Value, ∀ (i j : Nat) (hi : i < es.length) (hj : j < (es[i]).length), arr[i * z + j]? = some (u i j) ∧ R w s g ((es[i])[j]) (u i j) := by
      refine ⟨fun i j => (arr[i * z + j]?).getD undef, fun i j hi hj => ?_⟩
      obtain ⟨u, q1, q2⟩ := hel i j hi hj
      simp only [q1, Option.getD_some]
      exact ⟨trivial, q2⟩
    obtain ⟨u, hu⟩ := hch
    have hstep := (rows_sub (s := s) hold).step w g
    have hR0 : look R0 b = none := hnew b _ rfl
    refine .li none es _ es.length (g.rc b) ⟨b, 0, none⟩ z u rfl hcm hn hes (fun _ => rfl) rfl (fun i j hi hj => ⟨?_, ?_⟩) (fun i j hi hj => (hu i j hi hj).2.step hstep) (fun i j hi hj => ?_) (fun r hr => by cases hr)
    · simp only [World.cell?, harr, Nat.zero_add, Option.isSome_none, Bool.false_eq_true, if_false]
      exact (hu i j hi hj).1
    · rintro (h | h | ⟨q, z', L, b', o, c, h1, h2, h3, h4⟩)
      · exact hst.d1 b h (by rw [hl]; rfl)
      · simp only [hR0] at h; cases h
      · simp only at h3
        subst h3
        exact hst.d2 b q _ o c h1 h2 (.inr (by rw [hl]; rfl))
    · exact one_val (List.all_eq_true.1 (List.all_eq_true.1 hone _ (List.getElem_mem hi)) _ (List.getElem_mem hj)) (hu i j hi hj).2
theorem froze_rel {t z : Nat} {es : List (List C)} {R0 : Rows} (hx : RowIn R0 s.rows (E.f t) z es) (hone : es.all (fun e => e.all one) = true) (hr : Rel w s g E N a) :
    Rel w { s with rows := R0 } g (E.set (some t) (.li none es)) N a := by
  have hsub := rows_sub (s := s) hx.old
  have hr' := hr.step (hsub.step w g) (hsub.st hr.st)
  refine ⟨hr'.st, hr'.size, hr'.ds, fun k => ?_⟩
  rw [set_f]
  split
  · rename_i hk; subst hk; exact hx.froze hone hr.st (hr.f k)
  · exact hr'.f k
theorem W_freeze {c : Code} (t z : Nat) (es : List (List C)) (R0 : Rows) (hx : RowIn R0 s.rows (E.f t) z es) (hone : es.all (fun e => e.all one) = true) (h : W P N c (E.set (some t) (.li none es)) { s with rows := R0 } Q) : W P N c E s Q :=
  W_ghost2 fun w g a hr => ⟨_, _, g, froze_rel hx hone hr, (rows_sub hx.old).step w g, h⟩
theorem WL_freeze {l : List Ro} (t z : Nat) (es : List (List C)) (R0 : Rows) (hx : RowIn R0 s.rows (E.f t) z es) (hone : es.all (fun e => e.all one) = true) (h : WL P N l (E.set (some t) (.li none es)) { s with rows := R0 } Q) : WL P N l E s Q :=
  WL_ghost2 fun w g a hr => ⟨_, _, g, froze_rel hx hone hr, (rows_sub hx.old).step w g, h⟩

/-- A call's result that is a row, frozen. -/
theorem CallC.frozen {k : FuncId} {args : List C} {K : KR} {Kp : KP} (h : CallC P k args s (fun c s' => ∃ R0 z es, RowIn R0 s'.rows c z es ∧ es.all (fun e => e.all one) = true ∧ K (.li none es) { s' with rows := R0 }) Kp) : CallC P k args s K Kp :=
  ⟨h.1, fun w g vals hs hn hr => (h.2 w g vals hs hn hr).mono fun e w' he => by
    cases e with
    | returned v =>
      obtain ⟨c, s', g', q1, q2, q3, R0, z, es, q4, q5, q6⟩ := he
      have hsub := rows_sub (s := s') q4.old
      exact ⟨_, _, g', hsub.st q1, q2.trans (hsub.step _ _), q4.froze q5 q1 q3, q6⟩
    | panicked ch => exact he
    | outgrown => exact he⟩

/-- New memory of zeros. -/
theorem WL_makeSlice {d t e : Nat} {ty : TypeId} {rest : List Ro} {x y : Operand} {n : Nat} {k : IntKind} {zs : List C} (hx : evo E.f x = .v (.int k n)) (hy : evo E.f y = .v (.int k n)) (ht : tel P t = some e) (hz : tzero P e = some zs)
    (hzs : zs.length = tsz P e) (hz0 : 0 < tsz P e) (hby : tby P e * n ≤ 281474976710656) (hn : n ≤ maxLen) (hd : d < N)
    (h : ∀ b, look s.rows b = none → look s.objs b = none → WL P N rest (E.set (some d) (.rs b n)) { s with rows := (b, (tsz P e, List.replicate n zs)) :: s.rows } Q) :
    WL P N (⟨some d, .makeSlice t x y, ty, .no⟩ :: rest) E s Q := by
  refine WL_core (fun k hk => by cases hk; exact hd) fun w g a o hr ho1 ho2 => ?_
  obtain ⟨i, zv, hi, hzv, hisz, hiby⟩ := info_parts' (P := P) (e := e) (by rw [hz]; rfl)
  have hzv' : zs = zv.cells.toList.map .v := by simpa [tzero, hi, hzv] using hz.symm
  have hrx := hr.evo x
  have hry := hr.evo y
  rw [hx] at hrx
  rw [hy] at hry
  have h63 : (n : Int) ≤ 9223372036854775807 := by unfold maxLen at hn; omega
  have hb' : (i.bytes : Int) * (n : Int) ≤ 281474976710656 := by
    rw [hiby]
    have h : ((tby P e * n : Nat) : Int) ≤ 281474976710656 := by omega
    rwa [Int.natCast_mul] at h
  have hrun := run_make (P := P) w t e i zv (tel_u ht) hi hzv k k n n (by omega) (Int.le_refl _) hb' h63
  simp only [Int.toNat_natCast] at hrun
  have hvs : zv.cells.size = tsz P e := by rw [hzv'] at hzs; simpa using hzs
  have hget : ∀ k, k < n * tsz P e → (madeCells zv.cells (n * i.size))[k]? = zv.cells[k % tsz P e]? := fun k hk => by
    have hlt : k % tsz P e < zv.cells.size := by rw [hvs]; exact Nat.mod_lt _ hz0
    rw [hisz]
    rw [Array.getElem?_eq_getElem hlt]
    simp only [madeCells, Array.getElem?_map, Array.getElem?_range, hk, if_true, Option.map_some, hvs]
    congr 1
    exact getElem!_pos zv.cells (k % tsz P e) hlt
  obtain ⟨g', h1, h2, h3⟩ := addRow hr.st (madeCells zv.cells (n * i.size)) e (tsz P e) n (List.replicate n zs) (by simp) hn (by rw [size_madeCells, hisz]; omega) (fun x hx => by rw [List.eq_of_mem_replicate hx]; exact hzs)
    (fun i' j hi' hj => by
      simp only [List.length_replicate] at hi'
      simp only [List.getElem_replicate] at hj ⊢
      have hjz : j < tsz P e := by rw [← hzs]; exact hj
      have hlt : i' * tsz P e + j < n * tsz P e := by
        have := Nat.mul_le_mul_right (tsz P e) (show i' + 1 ≤ n by omega)
        rw [Nat.add_mul] at this
        omega
      rw [hget _ hlt, (flat_div hjz rfl).2]
      refine ⟨zv.cells[j]'(by omega), by simp [hvs, hjz], ?_⟩
      subst hzv'
      simpa using VR.v _) s.rows (fun _ _ h => h)
  have hfr := hr.st.fresh
  refine ⟨.slice (some ⟨w.heap.size, 0, none⟩) n n, _, _, g', .rs w.heap.size n, .inl (by simp only [execOp, ho1, hrx.v_eq, hry.v_eq, Sem.run_bind, hrun, Result.andThen_ok, Sem.run_pure]), ?_, h1, h2, h _ hfr.2 hfr.1⟩
  have := VR.rs (w := w.alloc (.cells (madeCells zv.cells (n * i.size)) e)) (O := own { s with rows := (w.heap.size, (tsz P e, List.replicate n zs)) :: s.rows } g') (T := TK { s with rows := (w.heap.size, (tsz P e, List.replicate n zs)) :: s.rows } g') (g := g') w.heap.size n (by simp) (by rw [h3]; exact Nat.le_refl _)
  rw [h3] at this
  exact this

/-- A row that a callee has written. -/
theorem rowChange (hst : StRel w s g) {b z : Nat} {es es' : List (List C)} (hl : look s.rows b = some (z, es)) (hlen : es'.length = es.length) (hz : ∀ x ∈ es', x.length = z) {arr arr' : Array Value} {et : TypeId} (harr : w.heap[b]? = some (.cells arr et (0, 0)))
    (hsz : arr'.size = arr.size) (hos : w'.os = w.os) (htape : w'.tape = w.tape) (hout : w'.output = w.output) (hsize : w.heap.size ≤ w'.heap.size) (hb : w'.heap[b]? = some (.cells arr' et (0, 0))) (hother : ∀ k, k < w.heap.size → k ≠ b → w'.heap[k]? = w.heap[k]?)
    (hu : ∀ (i j : Nat) (hi : i < es'.length) (hj : j < (es'[i]).length), ∃ u, arr'[i * z + j]? = some u ∧ R w s g ((es'[i])[j]) u) :
    StRel w' { s with rows := putAt s.rows b (z, es') } g ∧ Step w s g w' { s with rows := putAt s.rows b (z, es') } g := by
  obtain ⟨arr0, e', h3, hrz, hn, hc, hm, hes, hel⟩ := hst.rows b z es hl
  rw [harr] at h3
  injection h3 with h3
  injection h3 with h3 h3'
  subst h3
  have hlk : ∀ k, look (putAt s.rows b (z, es')) k = if k = b then some (z, es') else look s.rows k := fun k => by
    rw [look_putAt]; split
    · rw [hl]; rfl
    · rfl
  have hiS : ∀ k, (look (putAt s.rows b (z, es')) k).isSome = (look s.rows k).isSome := fun k => isSome_putAt _ _ _ _
  have hblt : b < w.heap.size := (Array.getElem?_eq_some_iff.1 harr).1
  have hB : ownB s g b := .inr (.inl (by rw [hl]; rfl))
  have hstep : Step w s g w' { s with rows := putAt s.rows b (z, es') } g := by
    refine ⟨hos, htape, hout, hsize, fun k hk ho => hother k hk (fun e => ho (by rw [e]; exact hB)), fun a u hu' ho => ⟨?_, fun h => ho ?_⟩, fun k hk h => ?_, fun _ _ => rfl, fun _ _ => rfl, Nat.le_refl _, fun _ _ _ h => h⟩
    · have hab : a.block ≠ b := fun e => ho (.inr (.inl (by rw [e, hl]; rfl)))
      rw [World.cell?_of_block (hother a.block (World.block_lt_of_cell? w a hu') hab)]
      exact hu'
    · rcases h with h | h | h
      · exact .inl h
      · rw [hiS] at h; exact .inr (.inl h)
      · exact .inr (.inr h)
    · rcases h with h | h | h
      · exact .inl h
      · rw [hiS] at h; exact .inr (.inl h)
      · exact .inr (.inr h)
  refine ⟨hst.next hstep (fun k cs hk => .inl ⟨hk, hother k (hst.objs_lt (by simp only at hk; rw [hk]; rfl)) (fun e => hst.d1 b (by rw [← e]; simp only at hk; rw [hk]; rfl) (by rw [hl]; rfl))⟩) (fun k z' es2 hk => ?_)
    (fun r z0 L hr => ⟨(hst.toks r z0 L hr).1, .inl ⟨hr, rfl, fun k o c hb => hother k (hst.toks_lt hr hb) (fun e => hst.d2 k r _ o c hr hb (.inr (by rw [e, hl]; rfl)))⟩⟩)
    (fun k m hk => .inl ⟨hk, hother k (hst.maps_lt (by simp only at hk; rw [hk]; rfl)) (hst.maps_ne (by simp only at hk; rw [hk]; rfl) harr)⟩) (fun k h1 h2 => hst.d1 k h1 (by rw [← hiS]; exact h2)) (fun k r zL o c h1 h2 h3 => hst.d2 k r zL o c h1 h2 (h3.imp id fun h => by rw [← hiS]; exact h)) hst.d3, hstep⟩
  simp only [hlk] at hk
  split at hk
  · rename_i hkb
    subst hkb
    simp only [Option.some.injEq, Prod.mk.injEq] at hk
    obtain ⟨rfl, rfl⟩ := hk
    exact .inr ⟨_, et, hb, hrz, by rw [hlen]; exact hn, by rw [hsz]; exact hc, hm, hz, fun i j hi hj => let ⟨u, h6, h7⟩ := hu i j hi hj; ⟨u, h6, h7.step hstep⟩⟩
  · rename_i hkb
    exact .inl ⟨hk, hother k (hst.rows_lt (by rw [hk]; rfl)) hkb⟩

/-- Integers, as the cells of a slice. -/
def intsE (l : List Int) : List (List C) := l.map fun n => [.v (.int .i64 n)]
theorem intsE_length (l : List Int) : (intsE l).length = l.length := by simp [intsE]
theorem intsE_one (l : List Int) : (intsE l).all (fun e => e.all one) = true := by
  rw [List.all_eq_true]
  intro e he
  obtain ⟨n, _, rfl⟩ := List.mem_map.1 he
  rfl
theorem intsE_len (l : List Int) : ∀ x ∈ intsE l, x.length = 1 := by
  intro e he
  obtain ⟨n, _, rfl⟩ := List.mem_map.1 he
  rfl
/-- What the library's sort leaves. -/
theorem sortRow (hst : StRel w s g) {b : Nat} {zs d : List Int} (hl : look s.rows b = some (1, intsE zs)) (hd : d.length = zs.length) (n : Nat) (os : Array Obj) :
    StRel (Sort.grow (Sort.putRow (Value.int .i64) (Sort.ahead w n) b 0 d.toArray) os) { s with rows := putAt s.rows b (1, intsE d) } g ∧
    Step w s g (Sort.grow (Sort.putRow (Value.int .i64) (Sort.ahead w n) b 0 d.toArray) os) { s with rows := putAt s.rows b (1, intsE d) } g := by
  obtain ⟨arr, et, harr, hrz, hn, hc, hm, hes, hel⟩ := hst.rows b 1 _ hl
  have hblt : b < w.heap.size := (Array.getElem?_eq_some_iff.1 harr).1
  rw [intsE_length] at hn
  have hheap : ∀ k, k < w.heap.size → (Sort.grow (Sort.putRow (Value.int .i64) (Sort.ahead w n) b 0 d.toArray) os).heap[k]? = (Sort.putRow (Value.int .i64) w b 0 d.toArray).heap[k]? := fun k hk => by
    show ((Sort.putRow (Value.int .i64) w b 0 d.toArray).heap ++ os)[k]? = _
    rw [Array.getElem?_append_left (by simpa using hk)]
  refine rowChange hst (arr' := Sort.putCells (Value.int .i64) 0 d.toArray arr) hl (by simp [intsE_length, hd]) (intsE_len d) harr (by simp [Sort.putCells]) rfl rfl rfl (by simp [Sort.ahead]) ?_ (fun k hk hkb => ?_) (fun i j hi hj => ?_)
  · rw [hheap b hblt]
    simp only [Sort.putRow, Sort.mapBlock]
    rw [Array.getElem?_modify, if_pos rfl, harr]
    rfl
  · rw [hheap k hk]
    simp only [Sort.putRow, Sort.mapBlock]
    rw [Array.getElem?_modify, if_neg (fun e => hkb e.symm)]
  · rw [intsE_length] at hi
    have hj0 : j = 0 := by
      have := intsE_len d _ (List.getElem_mem (by simpa [intsE_length] using hi))
      rw [this] at hj
      omega
    subst hj0
    have harrlt : i < arr.size := by omega
    refine ⟨.int .i64 d[i], ?_, by simpa [intsE] using VR.v _⟩
    simp [Sort.putCells, harrlt, hi]
end
end Go.VS
namespace Go.VS
open Go
section
variable {P : Program} {w w1 w' : World} {s s1 s' : St} {g g1 g' : Gh} {E E1 : Env} {N : NR} {a : Act} {Q Q' : Ends}

/-- A new object that is no cells. -/
theorem addOth (hst : StRel w s g) (o : Obj) (m : Oth) (hn : ncell o = true) (hm : OthRel o m) :
    StRel (w.alloc o) { s with maps := (w.heap.size, m) :: s.maps } g ∧ Step w s g (w.alloc o) { s with maps := (w.heap.size, m) :: s.maps } g := by
  have hlook : ∀ k, k ≠ w.heap.size → look ((w.heap.size, m) :: s.maps) k = look s.maps k := fun k hk => by simp [look, show ¬ w.heap.size = k from fun e => hk e.symm]
  have hstep : Step w s g (w.alloc o) { s with maps := (w.heap.size, m) :: s.maps } g := by
    refine Step.alloc _ hst (fun a ha h => h) (fun k hk h => ?_) (fun _ _ => rfl) (fun _ _ => rfl) (Nat.le_refl _) (fun _ _ _ h => h)
    rcases h with h | h | h | h
    · exact .inl h
    · exact .inr (.inl h)
    · exact .inr (.inr (.inl h))
    · simp only [hlook k (Nat.ne_of_lt hk)] at h; exact .inr (.inr (.inr h))
  refine ⟨hst.next hstep (fun b cs h => .inl ⟨h, Go.RowKit.Below.heap_alloc w _ b (hst.objs_lt (by simp only at h; rw [h]; rfl))⟩) (fun b z es h => .inl ⟨h, Go.RowKit.Below.heap_alloc w _ b (hst.rows_lt (by simp only at h; rw [h]; rfl))⟩)
    (fun r z' L h => ⟨(hst.toks r z' L h).1, .inl ⟨h, rfl, fun b o c hb => Go.RowKit.Below.heap_alloc w _ b (hst.toks_lt h hb)⟩⟩) (fun b m' h => ?_) hst.d1 hst.d2 hst.d3, hstep⟩
  by_cases hb : b = w.heap.size
  · subst hb
    simp only [look, if_true, Option.some.injEq] at h
    subst h
    exact .inr ⟨o, heap_new w o, hn, hm⟩
  · simp only [hlook b hb] at h
    exact .inl ⟨h, Go.RowKit.Below.heap_alloc w _ b (hst.maps_lt (by rw [h]; rfl))⟩
theorem putObj_same {b : Nat} {o o' : Obj} (h : w.heap[b]? = some o) : (w.putObj b o').heap[b]? = some o' := by
  have hlt := (Array.getElem?_eq_some_iff.1 h).1
  simp [World.putObj, hlt]
theorem putObj_other {b k : Nat} {o' : Obj} (h : k ≠ b) : (w.putObj b o').heap[k]? = w.heap[k]? := by
  simp only [World.putObj]
  rw [Array.getElem?_setIfInBounds_ne (fun e => h e.symm)]
/-- An object of ours that is no cells, changed. -/
theorem putOth (hst : StRel w s g) {b : Nat} {m0 : Oth} (hl : look s.maps b = some m0) (o' : Obj) (m' : Oth) (hn : ncell o' = true) (hm : OthRel o' m') :
    StRel (w.putObj b o') { s with maps := putAt s.maps b m' } g ∧ Step w s g (w.putObj b o') { s with maps := putAt s.maps b m' } g := by
  obtain ⟨o0, h0, hn0, _⟩ := hst.maps b m0 hl
  have hlk : ∀ k, look (putAt s.maps b m') k = if k = b then some m' else look s.maps k := fun k => by
    rw [look_putAt]; split
    · rw [hl]; rfl
    · rfl
  have hiS : ∀ k, (look (putAt s.maps b m') k).isSome = (look s.maps k).isSome := fun k => isSome_putAt _ _ _ _
  have hB : ownB s g b := .inr (.inr (.inr (by rw [hl]; rfl)))
  have hnc : ∀ k arr e fr, w.heap[k]? = some (.cells arr e fr) → k ≠ b := fun k arr e fr hk he => by subst he; rw [hk] at h0; cases h0; cases hn0
  have hstep : Step w s g (w.putObj b o') { s with maps := putAt s.maps b m' } g := by
    refine ⟨rfl, rfl, rfl, by simp [World.putObj], fun k hk ho => putObj_other (fun e => ho (by rw [e]; exact hB)), fun a u hu ho => ⟨?_, ho⟩, fun k hk h => ?_, fun _ _ => rfl, fun _ _ => rfl, Nat.le_refl _, fun _ _ _ h => h⟩
    · have hab : a.block ≠ b := fun e => by
        unfold World.cell? at hu
        rw [e, h0] at hu
        cases o0 <;> simp_all [ncell]
      rw [World.cell?_of_block (putObj_other hab)]
      exact hu
    · rcases h with h | h | h | h
      · exact .inl h
      · exact .inr (.inl h)
      · exact .inr (.inr (.inl h))
      · rw [hiS] at h; exact .inr (.inr (.inr h))
  refine ⟨hst.next hstep (fun k cs hk => .inl ⟨hk, putObj_other (by obtain ⟨arr, e, q, _⟩ := hst.objs k cs hk; exact hnc k _ _ _ q)⟩) (fun k z es hk => .inl ⟨hk, putObj_other (by obtain ⟨arr, e, q, _⟩ := hst.rows k z es hk; exact hnc k _ _ _ q)⟩)
    (fun r z L hr => ⟨(hst.toks r z L hr).1, .inl ⟨hr, rfl, fun k o c hb => putObj_other (by
      have := (hst.toks r z L hr).2
      rw [hb] at this
      obtain ⟨_, ⟨arr, e, q, _⟩, _⟩ := this
      exact hnc k _ _ _ q)⟩⟩) (fun k m hk => ?_) hst.d1 hst.d2 hst.d3, hstep⟩
  simp only [hlk] at hk
  split at hk
  · rename_i hkb
    subst hkb
    cases hk
    exact .inr ⟨o', putObj_same h0, hn, hm⟩
  · rename_i hkb
    exact .inl ⟨hk, putObj_other hkb⟩

/-- What another has known since, it knows still. -/
def FrameO (O0 O O' : List (Nat × List C)) : Prop := (∀ b cs, look O0 b = none → look O b = some cs → look O' b = some cs) ∧ ∀ b, (look O b).isSome → (look O' b).isSome
def YieldC (P : Program) (l : Nat) (xs : Nat → List C) (m : Nat) (J : Nat → St → Prop) (Jx : St → Prop) (O0 : List (Nat × List C)) : Prop :=
  ∀ i s w g (vals : Array Value), i < m → J i s → StRel w s g → (hn : vals.size = (xs i).length) → (∀ (j : Nat) (hj : j < (xs i).length), R w s g ((xs i)[j]) (vals[j]'(by omega))) →
    YieldAt (rf none) 0 P l vals w fun e w' => ∃ s' g', StRel w' s' g' ∧ Step w s g w' s' g' ∧ FrameO O0 s.objs s'.objs ∧ ((e = .returned (.bool true) ∧ J (i + 1) s') ∨ (e = .returned (.bool false) ∧ Jx s'))
/-- The function that is ranged over: it hands on 'm' times something, in order, till it is told to stop. -/
def IterC (P : Program) (k : FuncId) (caps : List Value) (xs : Nat → List C) (m : Nat) (s1 : St) : Prop :=
  ∀ l J Jx, (∀ i s s', J i s → (∀ b cs, look s.objs b = some cs → look s'.objs b = some cs) → s'.rows = s.rows → s'.toks = s.toks → s'.maps = s.maps → J i s') → (∀ i s, J i s → ∀ b, (look s1.objs b).isSome → (look s.objs b).isSome) → YieldC P l xs m J Jx s1.objs → J 0 s1 →
    CallC P k (.v (.func (.yield l) #[] #[]) :: caps.map .v) s1 (fun _ s' => J m s' ∨ Jx s') (fun _ _ => False)

theorem WL_yield {d : Option Nat} {fo : Operand} {args : Array Operand} {tys : Array TypeId} {ty : TypeId} {rest : List Ro} {l m i : Nat} {xs : Nat → List C} {J : Nat → St → Prop} {Jx : St → Prop} {O0 : List (Nat × List C)}
    (hN : N.r = none) (hf : evo E.f fo = .v (.func (.yield l) #[] #[])) (hY : YieldC P l xs m J Jx O0) (hi : i < m) (hJ : J i s) (hargs : args.toList.map (fun x => strip (evo E.f x)) = xs i) (hd : ∀ k, d = some k → k < N)
    (h1 : ∀ s', J (i + 1) s' → FrameO O0 s.objs s'.objs → WL P N rest (E.set d (.v (.bool true))) s' Q) (h2 : ∀ s', Jx s' → FrameO O0 s.objs s'.objs → WL P N rest (E.set d (.v (.bool false))) s' Q) :
    WL P N (⟨d, .call { callee := .value fo, args := args, argTypes := tys }, ty, .no⟩ :: rest) E s Q := by
  refine WL_one fun ops w g a o l' hr ho1 ho2 ho3 ho4 => ?_
  have hv := hr.evo fo
  rw [hf] at hv
  have hv := hv.v_eq
  have hlen : (args.map a.eval).size = (xs i).length := by rw [← hargs]; simp
  obtain ⟨fn, tmps, assign, body, hrun, hR⟩ := hY i s w g (args.map a.eval) hi hJ hr.st hlen (fun j hj => by
    have : (xs i)[j] = (args.toList.map (fun x => strip (evo E.f x)))[j]'(by rw [hargs]; exact hj) := by simp [hargs]
    rw [this]
    simp only [List.getElem_map, Array.getElem_map, Array.getElem_toList]
    exact (hr.evo _).strip)
  have hrun' : (execOp a.eval o).run P w = .ok (.round l fn tmps assign body) w := by
    simp only [execOp, ho1, resolve, Deferred.ofValue, hv, Sem.run_bind, Sem.run_pure, Result.andThen_ok, invoke]
    simpa using hrun
  unfold Oper.wpIn
  refine ⟨fun _ _ => rf_fn _ _, ?_⟩
  rw [Oper.semAt_eq _ _ _ (by rw [ho1]; simp), hrun', Oper.uponIn_round, hN]
  refine ⟨fun h => absurd h (rf_depth _), hR.mono ?_⟩
  rintro e w' ⟨s', g', q1, q2, q3, ⟨rfl, q4⟩ | ⟨rfl, q4⟩⟩
  · have hr' : Rel w' s' g' (E.set d (.v (.bool true))) N (a.put o.dst (.bool true)) := by rw [ho3]; exact (hr.step q2 q1).put hd (.v _)
    have := wpList_mono (fun e a w hp => Post.mono q2 (fun _ _ _ h => h) hp) _ _ _ (h1 s' q4 q3 ops l' ho4 w' g' _ hr')
    rw [hN] at this
    exact this
  · have hr' : Rel w' s' g' (E.set d (.v (.bool false))) N (a.put o.dst (.bool false)) := by rw [ho3]; exact (hr.step q2 q1).put hd (.v _)
    have := wpList_mono (fun e a w hp => Post.mono q2 (fun _ _ _ h => h) hp) _ _ _ (h2 s' q4 q3 ops l' ho4 w' g' _ hr')
    rw [hN] at this
    exact this
def vOnly : C → C
  | .v x => .v x
  | _ => .junk
/-- The slots at a round's start: what was wholly known at the loop's, and what is handed over. -/
def roundE (E : Env) (p1 p2 : Nat) (c1 c2 : C) : Env := ⟨fun t => if t = p2 then c2 else if t = p1 then c1 else vOnly (E.f t), []⟩
def roundQ (O0 : List (Nat × List C)) (Inv : List (Nat × List C) → Rows → Prop) (InvX : List (Nat × List C) → Rows → Prop) (s2 : St) : Ends
  | .normal, _, s' => Inv s'.objs s'.rows ∧ s'.maps = s2.maps ∧ s'.toks = s2.toks ∧ FrameO O0 s2.objs s'.objs
  | .ret, _, s' => InvX s'.objs s'.rows ∧ s'.maps = s2.maps ∧ s'.toks = s2.toks ∧ FrameO O0 s2.objs s'.objs
  | _, _, _ => False
theorem rf_inRound (l : Nat) : (rf none).inRound l = rf (some l) := rfl
theorem loop_of (hst : StRel w s g) {l : Nat} {o : Obj} (h : look s.maps l = some (.raw o)) : w.heap[l]? = some o := by
  obtain ⟨o', h1, _, h2⟩ := hst.maps l _ h
  have h2 : o' = o := h2
  subst h2
  exact h1
theorem setE_rel {tmps : Array Value} {c : C} {v : Value} {f : Nat → C} {p : Nat} (hf : ∀ t, R w s g (f t) (tmps.getD t undef)) (hp : p < tmps.size) (hv : R w s g c v) :
    ∀ t, R w s g (if t = p then c else f t) ((tmps.setIfInBounds p v).getD t undef) := by
  intro t
  split
  · rename_i h
    subst h
    rw [Array.getD_eq_getD_getElem?, Array.getElem?_setIfInBounds_self_of_lt hp]
    exact hv
  · rename_i h
    rw [Array.getD_eq_getD_getElem?, Array.getElem?_setIfInBounds_ne (fun e => h e.symm), ← Array.getD_eq_getD_getElem?]
    exact hf t

/-- A RANGE OVER A FUNCTION. -/
theorem W_rangeFunc {gop : Operand} {p1 p2 : Nat} {assign body : Code} {k : FuncId} {caps : Array Value} {m : Nat} {x1 x2 : Nat → C} (hN : N.r = none) (hg : evo E.f gop = .v (.func (.func k) #[] caps)) (hp1 : p1 < N.n) (hp2 : p2 < N.n)
    (hit : ∀ s1 : St, s1.objs = s.objs → IterC P k caps.toList (fun i => [x1 i, x2 i]) m s1)
    (Inv : Nat → List (Nat × List C) → Rows → Prop) (InvX : List (Nat × List C) → Rows → Prop)
    (hup : ∀ i O O' R, Inv i O R → (∀ b cs, look O b = some cs → look O' b = some cs) → Inv i O' R) (h0 : Inv 0 s.objs s.rows)
    (hround : ∀ i l s1, i < m → Inv i s1.objs s1.rows → W P ⟨N.n, some l⟩ assign (roundE E p1 p2 (x1 i) (x2 i)) s1 (nextQ (fun E' s' => s' = s1 ∧ ∀ s2 : St, s2.objs = s1.objs → s2.rows = s1.rows →
      W P ⟨N.n, some l⟩ body E' s2 (roundQ s.objs (Inv (i + 1)) InvX s2)) (fun _ _ _ => False)))
    (hdone : ∀ s' D, Inv m s'.objs s'.rows → look s'.maps D = some (.raw (.deferred (some []))) → look s.maps D = none → (∀ k x, look s.toks k = some x → look s'.toks k = some x) → (∀ k x, look s.maps k = some x → look s'.maps k = some x) → Q .normal ⟨E.f, { target := .collected D, args := #[] } :: E.ds⟩ s')
    (hret : ∀ s' D, InvX s'.objs s'.rows → look s'.maps D = some (.raw (.deferred (some []))) → look s.maps D = none → (∀ k x, look s.toks k = some x → look s'.toks k = some x) → (∀ k x, look s.maps k = some x → look s'.maps k = some x) → Q .ret ⟨E.f, { target := .collected D, args := #[] } :: E.ds⟩ s') :
    W P N (.rangeFunc gop #[p1, p2] assign body) E s Q := by
  intro w g a hr
  rw [hN]
  refine wpIn_rangeFunc fun fn _ => ?_
  have hv := hr.evo gop
  rw [hg] at hv
  have hv := hv.v_eq
  obtain ⟨a1, a2⟩ := addOth hr.st (.deferred (some [])) (.raw (.deferred (some []))) rfl rfl
  obtain ⟨b1, b2⟩ := addOth a1 (.loop { state := .ready, pending := none, fn, tmps := a.tmps, params := #[p1, p2], assign, body, defers := w.heap.size }) (.raw (.loop { state := .ready, pending := none, fn, tmps := a.tmps, params := #[p1, p2], assign, body, defers := w.heap.size })) rfl rfl
  rw [World.size_alloc] at b1 b2
  have hstep1 := a2.trans b2
  generalize hs1 : ({ { s with maps := (w.heap.size, Oth.raw (.deferred (some []))) :: s.maps } with maps := (w.heap.size + 1, Oth.raw (.loop { state := .ready, pending := none, fn, tmps := a.tmps, params := #[p1, p2], assign, body, defers := w.heap.size })) :: (w.heap.size, Oth.raw (.deferred (some []))) :: s.maps } : St) = s1 at b1 hstep1
  have hobj1 : s1.objs = s.objs := by subst hs1; rfl
  have hrow1 : s1.rows = s.rows := by subst hs1; rfl
  have htok1 : s1.toks = s.toks := by subst hs1; rfl
  have hnone : ∀ k, w.heap.size ≤ k → look s.maps k = none := fun k hk => by
    cases hq : look s.maps k with
    | none => rfl
    | some q => have := hr.st.maps_lt (b := k) (by rw [hq]; rfl); omega
  have hmap1 : ∀ k x, look s.maps k = some x → look s1.maps k = some x := fun k x hk => by
    have h1 : w.heap.size ≠ k := fun e => by rw [hnone k (by omega)] at hk; cases hk
    have h2 : w.heap.size + 1 ≠ k := fun e => by rw [hnone k (by omega)] at hk; cases hk
    subst hs1
    simp [look, h1, h2, hk]
  have hl1 : look s1.maps (w.heap.size + 1) = some (.raw (.loop { state := .ready, pending := none, fn, tmps := a.tmps, params := #[p1, p2], assign, body, defers := w.heap.size })) := by subst hs1; simp [look]
  have hD1 : look s1.maps w.heap.size = some (.raw (.deferred (some []))) := by subst hs1; simp [look]
  clear hs1
  generalize hrec : ({ state := .ready, pending := none, fn, tmps := a.tmps, params := #[p1, p2], assign, body, defers := w.heap.size } : Loop) = rec at b1 hstep1 hl1
  generalize hlD : w.heap.size + 1 = l at hl1
  have hlne : w.heap.size ≠ l := by omega
  let J : Nat → St → Prop := fun i s' => look s'.maps l = some (.raw (.loop rec)) ∧ look s'.maps w.heap.size = some (.raw (.deferred (some []))) ∧ Inv i s'.objs s'.rows ∧ (∀ b, (look s.objs b).isSome → (look s'.objs b).isSome) ∧ (∀ k x, look s.toks k = some x → look s'.toks k = some x) ∧ (∀ k x, look s.maps k = some x → look s'.maps k = some x)
  let Jx : St → Prop := fun s' => look s'.maps l = some (.raw (.loop { rec with state := .done, pending := some .ret })) ∧ look s'.maps w.heap.size = some (.raw (.deferred (some []))) ∧ InvX s'.objs s'.rows ∧ (∀ k x, look s.toks k = some x → look s'.toks k = some x) ∧ (∀ k x, look s.maps k = some x → look s'.maps k = some x)
  have hln : ∀ k x, look s.maps k = some x → k ≠ l := fun k x hk e => by rw [hnone k (by omega)] at hk; cases hk
  have hY : YieldC P l (fun i => [x1 i, x2 i]) m J Jx s1.objs := by
    intro i s2 w2 g2 vals hi hJ hst hn hvals
    obtain ⟨j1, j2, j3, j4, j5, j6⟩ := hJ
    have hheap := loop_of hst j1
    have hsz : vals.size = 2 := by simpa using hn
    have hparams : rec.params = #[p1, p2] := by rw [← hrec]
    have hrun := run_yield (P := P) (args := vals) hheap (by rw [hparams]; simpa using hsz)
    refine ⟨_, _, _, _, hrun, ?_⟩
    have hv2 : vals = #[vals[0]'(by omega), vals[1]'(by omega)] := by
      apply Array.ext
      · simpa using hsz
      · intro j h1 h2
        match j, h2 with
        | 0, _ => rfl
        | 1, _ => rfl
    have hA : rec.assign = assign := by rw [← hrec]
    have hB : rec.body = body := by rw [← hrec]
    have hT : rec.tmps = a.tmps := by rw [← hrec]
    have hfold : (rec.params.zip vals).foldl (fun tmps (t, a) => tmps.setIfInBounds t a) rec.tmps = (a.tmps.setIfInBounds p1 (vals[0]'(by omega))).setIfInBounds p2 (vals[1]'(by omega)) := by
      rw [hparams, hT]
      conv => lhs; rw [hv2]
      simp only [List.zip_toArray, List.zip_cons_cons, List.zip_nil_right, List.foldl_toArray, List.foldl_cons, List.foldl_nil]
    rw [hfold, hA, hB]
    refine roundIn_of_wpIn (F := rf none) trivial ?_
    rw [rf_inRound]
    have hR0 : Rel w2 s2 g2 (roundE E p1 p2 (x1 i) (x2 i)) ⟨N.n, some l⟩ { tmps := (a.tmps.setIfInBounds p1 (vals[0]'(by omega))).setIfInBounds p2 (vals[1]'(by omega)), defers := [] } := by
      refine ⟨hst, by simp [hr.size], rfl, ?_⟩
      have hbase : ∀ t, R w2 s2 g2 (vOnly (E.f t)) (a.tmps.getD t undef) := fun t => by
        have := hr.f t
        generalize E.f t = c at this
        cases c with
        | v x => rw [this.v_eq]; exact .v _
        | _ => exact .junk _
      exact setE_rel (setE_rel hbase (by rw [hr.size]; exact hp1) (hvals 0 (by simp))) (by simp [hr.size]; exact hp2) (hvals 1 (by simp))
    refine wpIn_mono' (fun e a3 w3 hp => ?_) (hround i l s2 hi j3 w2 g2 _ hR0)
    cases e with
    | outgrown => exact hp.elim
    | normal =>
      obtain ⟨E3, s3, g3, r3, st3, rfl, hbody⟩ := hp
      have hheap3 := loop_of r3.st j1
      have hbeg := run_beginRound (P := P) hheap3 (by rw [← hrec])
      obtain ⟨p1', p2'⟩ := putOth r3.st j1 (.loop { rec with state := .busy }) (.raw (.loop { rec with state := .busy })) rfl rfl
      refine ⟨_, hbeg, ?_⟩
      have hlk4 : ∀ q, look (putAt s3.maps l (.raw (.loop { rec with state := .busy }))) q = if q = l then some (.raw (.loop { rec with state := .busy })) else look s3.maps q := fun q => by
        rw [look_putAt]; split
        · rw [j1]; rfl
        · rfl
      refine wpIn_mono' (fun e a5 w5 hp => ?_) (hbody { s3 with maps := putAt s3.maps l (.raw (.loop { rec with state := .busy })) } rfl rfl _ g3 a3 (r3.step p2' p1'))
      have hfin : ∀ (jump : Option Code) (s5 : St) (g5 : Gh), StRel w5 s5 g5 → s5.maps = putAt s3.maps l (.raw (.loop { rec with state := .busy })) → Step w2 s3 g2 w5 s5 g5 →
          ∃ w6, (Instr.endRound l jump).run P w5 = .ok (.bool jump.isNone) w6 ∧ StRel w6 { s5 with maps := putAt s5.maps l (.raw (.loop { rec with state := if jump.isNone then .ready else .done, pending := jump })) } g5 ∧
            Step w2 s3 g2 w6 { s5 with maps := putAt s5.maps l (.raw (.loop { rec with state := if jump.isNone then .ready else .done, pending := jump })) } g5 ∧
            look (putAt s5.maps l (.raw (.loop { rec with state := if jump.isNone then .ready else .done, pending := jump }))) l = some (.raw (.loop { rec with state := if jump.isNone then .ready else .done, pending := jump })) ∧
            look (putAt s5.maps l (.raw (.loop { rec with state := if jump.isNone then .ready else .done, pending := jump }))) w.heap.size = some (.raw (.deferred (some []))) := by
        intro jump s5 g5 r5 hm5 st5
        have hl5 : look s5.maps l = some (.raw (.loop { rec with state := .busy })) := by rw [hm5, hlk4, if_pos rfl]
        have hheap5 := loop_of r5 hl5
        obtain ⟨e1, e2⟩ := putOth r5 hl5 (.loop { rec with state := if jump.isNone then .ready else .done, pending := jump }) (.raw (.loop { rec with state := if jump.isNone then .ready else .done, pending := jump })) rfl rfl
        refine ⟨_, run_endRound jump hheap5, e1, st5.trans e2, by rw [look_putAt, if_pos rfl, hl5]; rfl, ?_⟩
        rw [look_putAt, if_neg hlne, hm5, hlk4, if_neg hlne]
        exact j2
      have hst4 : Step w2 s3 g2 (w3.putObj l (.loop { rec with state := .busy })) { s3 with maps := putAt s3.maps l (.raw (.loop { rec with state := .busy })) } g3 := st3.trans p2'
      cases e with
      | normal =>
        obtain ⟨E5, s5, g5, r5, st5, i1, i2, it, i3⟩ := hp
        obtain ⟨w6, f1, f2, f3, f4, f5⟩ := hfin none s5 g5 r5.st i2 (hst4.trans st5)
        refine ⟨_, w6, f1, _, g5, f2, f3, by rw [hobj1]; exact i3, .inl ⟨rfl, ?_, f5, i1, fun b hb => i3.2 b (j4 b hb), fun k x hk => by simp only [it]; exact j5 k x hk, fun k x hk => by rw [look_putAt, if_neg (hln k x hk), i2, hlk4, if_neg (hln k x hk)]; exact j6 k x hk⟩⟩
        rw [f4]
        simp only [Option.isNone_none, if_true]
        rw [← hrec]
      | ret =>
        obtain ⟨E5, s5, g5, r5, st5, i1, i2, it, i3⟩ := hp
        obtain ⟨w6, f1, f2, f3, f4, f5⟩ := hfin (some .ret) s5 g5 r5.st i2 (hst4.trans st5)
        exact ⟨_, w6, f1, _, g5, f2, f3, by rw [hobj1]; exact i3, .inr ⟨rfl, f4, f5, i1, fun k x hk => by simp only [it]; exact j5 k x hk, fun k x hk => by rw [look_putAt, if_neg (hln k x hk), i2, hlk4, if_neg (hln k x hk)]; exact j6 k x hk⟩⟩
      | exit id => obtain ⟨_, _, _, _, _, h⟩ := hp; exact h.elim
      | goto t => obtain ⟨_, _, _, _, _, h⟩ := hp; exact h.elim
      | panic ch => obtain ⟨_, _, _, _, _, h⟩ := hp; exact h.elim
      | outgrown => exact hp.elim
    | _ => obtain ⟨_, _, _, _, _, h⟩ := hp; exact h.elim
  have hJup : ∀ i s s', J i s → (∀ b cs, look s.objs b = some cs → look s'.objs b = some cs) → s'.rows = s.rows → s'.toks = s.toks → s'.maps = s.maps → J i s' := by
    rintro i s s' ⟨j1, j2, j3, j4, j5, j6⟩ ho hr' ht hm
    exact ⟨by rw [hm]; exact j1, by rw [hm]; exact j2, by rw [hr']; exact hup i _ _ _ j3 ho, fun b hb => isSome_of (ho b) (j4 b hb), by rw [ht]; exact j5, by rw [hm]; exact j6⟩
  have hC := hit s1 hobj1 l J Jx hJup (fun i s' hj b hb => hj.2.2.2.1 b (by rw [← hobj1]; exact hb)) hY ⟨hl1, hD1, by rw [hobj1, hrow1]; exact h0, fun b hb => by rw [hobj1]; exact hb, fun k x hk => by rw [htok1]; exact hk, hmap1⟩
  have hent : (Instr.enterLoop fn a.tmps #[p1, p2] assign body (rf none).round).run P w = .ok (l, [{ target := .collected w.heap.size, args := #[] }]) ((w.alloc (.deferred (some []))).alloc (.loop rec)) := by
    rw [← hlD, ← hrec]
    exact run_enterLoop_outer fn a.tmps #[p1, p2] assign body
  refine ⟨l, _, _, { target := .fn (.func k) caps, args := #[.func (.yield l) #[] #[]] }, (w.alloc (.deferred (some []))).alloc (.loop rec), k, #[.func (.yield l) #[] #[]] ++ caps, (w.alloc (.deferred (some []))).alloc (.loop rec), hent, ?_, fun _ _ => rf_fn _ _, ?_, fun h => absurd h (rf_depth _), ?_⟩
  · have hc : a.eval (.const (.func (.yield l) #[] #[])) = .func (.yield l) #[] #[] := rfl
    simp [resolve, Deferred.ofValue, hv, hc]
  · simp only [invoke, hC.1 _ _]
  · have hnn : (#[Value.func (.yield l) #[] #[]] ++ caps).size = (C.v (.func (.yield l) #[] #[]) :: caps.toList.map .v).length := by simp; omega
    have hcalls := hC.2 ((w.alloc (.deferred (some []))).alloc (.loop rec)) g (#[Value.func (.yield l) #[] #[]] ++ caps) b1 hnn (fun j hj => by
      match j, hj with
      | 0, _ => simpa using VR.v _
      | j + 1, hj =>
        simp only [List.getElem_cons_succ, List.getElem_map, Array.getElem_toList]
        have : (#[Value.func (.yield l) #[] #[]] ++ caps)[j + 1]'(by simp at hj ⊢; omega) = caps[j]'(by simpa using hj) := by
          rw [Array.getElem_append_right (by simp)]
          simp
        rw [this]
        exact .v _)
    refine (callsIn_rf (r := none) (n := 0 - 1) hcalls).mono fun e w3 he => ?_
    · cases e with
      | outgrown => exact he.elim
      | panicked ch => obtain ⟨s3, g3, _, _, h⟩ := he; exact h.elim
      | returned v =>
        obtain ⟨c3, s3, g3, q1, q2, _, q4⟩ := he
        rcases q4 with ⟨j1, j2, j3, j4, j5, j6⟩ | ⟨j1, j2, j3, j5, j6⟩
        · have hheap3 := loop_of q1 j1
          obtain ⟨e1, e2⟩ := putOth q1 j1 (.loop { rec with state := .exhausted }) (.raw (.loop { rec with state := .exhausted })) rfl rfl
          refine ⟨_, _, run_endLoop hheap3 (by rw [← hrec]; simp), ?_⟩
          have hpend : rec.pending = none := by rw [← hrec]
          simp only [hpend] at e1 e2 ⊢
          have hst := hstep1.trans (q2.trans e2)
          exact ⟨⟨E.f, { target := .collected w.heap.size, args := #[] } :: E.ds⟩, { s3 with maps := putAt s3.maps l (.raw (.loop { rec with state := .exhausted, pending := none })) }, g3, ⟨e1, hr.size, by simp [hr.ds], fun t => (hr.f t).step hst⟩, hst, hdone { s3 with maps := putAt s3.maps l (.raw (.loop { rec with state := .exhausted, pending := none })) } w.heap.size j3 (by rw [look_putAt, if_neg hlne]; exact j2) (hnone _ (Nat.le_refl _)) j5 (fun k x hk => by rw [look_putAt, if_neg (hln k x hk)]; exact j6 k x hk)⟩
        · have hheap3 := loop_of q1 j1
          obtain ⟨e1, e2⟩ := putOth q1 j1 (.loop { rec with state := .exhausted, pending := some .ret }) (.raw (.loop { rec with state := .exhausted, pending := some .ret })) rfl rfl
          refine ⟨_, _, run_endLoop hheap3 (by simp), ?_⟩
          have hst := hstep1.trans (q2.trans e2)
          exact wpIn_ret ⟨⟨E.f, { target := .collected w.heap.size, args := #[] } :: E.ds⟩, { s3 with maps := putAt s3.maps l (.raw (.loop { rec with state := .exhausted, pending := some .ret })) }, g3, ⟨e1, hr.size, by simp [hr.ds], fun t => (hr.f t).step hst⟩, hst, hret { s3 with maps := putAt s3.maps l (.raw (.loop { rec with state := .exhausted, pending := some .ret })) } w.heap.size j3 (by rw [look_putAt, if_neg hlne]; exact j2) (hnone _ (Nat.le_refl _)) j5 (fun k x hk => by rw [look_putAt, if_neg (hln k x hk)]; exact j6 k x hk)⟩
def markOf (D : Nat) : Deferred := { target := .collected D, args := #[] }
/-- What a body hands back that may have ranged over a function. -/
def retM (P : Program) (rs : List ResultVar) (K : KR) (Kp : KP) : Ends
  | .normal, E, s => (E.ds = [] ∧ ∃ c, resC P rs E.f s = some c ∧ ∃ s', Sub s s' ∧ K (strip c) s') ∨ ∃ D, E.ds = [markOf D] ∧ look s.maps D = some (.raw (.deferred (some []))) ∧ ∃ c, resC P rs E.f { s with maps := putAt s.maps D (.raw (.deferred none)) } = some c ∧ ∃ s', Sub { s with maps := putAt s.maps D (.raw (.deferred none)) } s' ∧ K (strip c) s'
  | .ret, E, s => (E.ds = [] ∧ ∃ c, resC P rs E.f s = some c ∧ ∃ s', Sub s s' ∧ K (strip c) s') ∨ ∃ D, E.ds = [markOf D] ∧ look s.maps D = some (.raw (.deferred (some []))) ∧ ∃ c, resC P rs E.f { s with maps := putAt s.maps D (.raw (.deferred none)) } = some c ∧ ∃ s', Sub { s with maps := putAt s.maps D (.raw (.deferred none)) } s' ∧ K (strip c) s'
  | .panic ch, E, s => E.ds = [] ∧ ∃ s', Sub s s' ∧ Kp ch s'
  | _, _, _ => False
theorem retM_ret (rs : List ResultVar) (K : KR) (Kp : KP) (E : Env) (s : St) : retM P rs K Kp .ret E s = ((E.ds = [] ∧ ∃ c, resC P rs E.f s = some c ∧ ∃ s', Sub s s' ∧ K (strip c) s') ∨ ∃ D, E.ds = [markOf D] ∧ look s.maps D = some (.raw (.deferred (some []))) ∧ ∃ c, resC P rs E.f { s with maps := putAt s.maps D (.raw (.deferred none)) } = some c ∧ ∃ s', Sub { s with maps := putAt s.maps D (.raw (.deferred none)) } s' ∧ K (strip c) s') := id rfl
theorem retM_normal (rs : List ResultVar) (K : KR) (Kp : KP) (E : Env) (s : St) : retM P rs K Kp .normal E s = ((E.ds = [] ∧ ∃ c, resC P rs E.f s = some c ∧ ∃ s', Sub s s' ∧ K (strip c) s') ∨ ∃ D, E.ds = [markOf D] ∧ look s.maps D = some (.raw (.deferred (some []))) ∧ ∃ c, resC P rs E.f { s with maps := putAt s.maps D (.raw (.deferred none)) } = some c ∧ ∃ s', Sub { s with maps := putAt s.maps D (.raw (.deferred none)) } s' ∧ K (strip c) s') := id rfl
theorem retM_panic (rs : List ResultVar) (K : KR) (Kp : KP) (ch : List PanicEntry) (E : Env) (s : St) : retM P rs K Kp (.panic ch) E s = (E.ds = [] ∧ ∃ s', Sub s s' ∧ Kp ch s') := id rfl
theorem leavesM {fn : Func} {K : KR} {Kp : KP} {w0 : World} {s0 : St} {g0 : Gh} (hr : Rel w s g E N a) (hstep : Step w0 s0 g0 w s g)
    (h : (E.ds = [] ∧ ∃ c, resC P fn.results.toList E.f s = some c ∧ ∃ s', Sub s s' ∧ K (strip c) s') ∨ ∃ D, E.ds = [markOf D] ∧ look s.maps D = some (.raw (.deferred (some []))) ∧ ∃ c, resC P fn.results.toList E.f { s with maps := putAt s.maps D (.raw (.deferred none)) } = some c ∧ ∃ s', Sub { s with maps := putAt s.maps D (.raw (.deferred none)) } s' ∧ K (strip c) s') :
    LeavesInM (rf none) 0 P fn a.tmps (CPost w0 s0 g0 K Kp) a.defers .returning w := by
  rcases h with ⟨h3, c, h4, s'', h5, h6⟩ | ⟨D, h3, hD, c, h4, s'', h5, h6⟩
  · rw [hr.ds, h3]
    obtain ⟨v, h7, h8⟩ := resC_run (P := P) hr h4
    exact ⟨v, h7, strip c, s'', g, h5.st hr.st, hstep.trans (h5.step _ _), (h8.step (h5.step _ _)).strip, h6⟩
  · rw [hr.ds, h3]
    have hheap := loop_of hr.st hD
    obtain ⟨e1, e2⟩ := putOth hr.st hD (.deferred none) (.raw (.deferred none)) rfl rfl
    refine ⟨by simp, .inl ⟨D, _, rfl, run_takeDeferred hheap, ?_⟩⟩
    obtain ⟨v, h7, h8⟩ := resC_run (P := P) (hr.step e2 e1) h4
    exact ⟨v, h7, strip c, s'', g, h5.st e1, (hstep.trans e2).trans (h5.step _ _), (h8.step (h5.step _ _)).strip, h6⟩
/-- A FUNCTION THAT MAY RANGE OVER A FUNCTION, by its body. -/
theorem CallC_ofM {k : FuncId} {fn : Func} {c : Code} {args : List C} {K : KR} {Kp : KP} (hf : P.funcs[k]? = some fn) (hb : fn.body = some c) (hname : (fn.name == "runtime.NumGoroutine") = false) {n : Nat} (hN : fn.ntmps = n) (hl : args.length ≤ n)
    (h : W P ⟨n, none⟩ c (env0 args) s (retM P fn.results.toList K Kp)) : CallC P k args s K Kp := by
  refine ⟨callable_of hf (by rw [hb]; rfl) hname, fun w g vals hst hn hr => callsIn_wide.1 (callsIn_of_wp_marks (F := rf none) (n := 0) hf hb trivial ?_)⟩
  rw [hN]
  refine wpIn_mono' (fun e a' w' hp => ?_) (h w g _ (Rel.env0 hst hn hr hl))
  cases e with
  | normal =>
    obtain ⟨E', s', g', h1, h2, h3⟩ := hp
    exact leavesM h1 h2 h3
  | ret =>
    obtain ⟨E', s', g', h1, h2, h3⟩ := hp
    exact leavesM h1 h2 h3
  | panic ch =>
    obtain ⟨E', s', g', h1, h2, h3, s'', h5, h6⟩ := hp
    show LeavesInM _ _ _ _ _ _ a'.defers _ _
    rw [h1.ds, h3]
    exact ⟨s'', g', h5.st h1.st, h2.trans (h5.step _ _), h6⟩
  | exit id => obtain ⟨_, _, _, _, _, h⟩ := hp; exact h
  | goto l => obtain ⟨_, _, _, _, _, h⟩ := hp; exact h
  | outgrown => exact hp
end
attribute [go_sem] retM_ret retM_normal retM_panic
end Go.VS
namespace Go.VS
open Go
def mlook : List (Int × Int) → Int → Option Int
  | [], _ => none
  | p :: r, a => if p.1 = a then some p.2 else mlook r a
def tmapi (P : Program) (t : TypeId) : Option (IntKind × Nat × Nat) := match P.underlying t with
  | some (.map k e) => match P.underlying k with
    | some (.int kk) => some (kk, k, e)
    | _ => none
  | _ => none
theorem tmapi_u {P : Program} {t k e : Nat} {kk : IntKind} (h : tmapi P t = some (kk, k, e)) : P.underlying t = some (.map k e) ∧ P.underlying k = some (.int kk) := by
  unfold tmapi at h
  split at h
  · rename_i k' e' h1
    split at h
    · rename_i kk' h2
      simp only [Option.some.injEq, Prod.mk.injEq] at h
      obtain ⟨rfl, rfl, rfl⟩ := h
      exact ⟨h1, h2⟩
    · cases h
  · cases h
section
variable {P : Program} {w w' : World} {s s' : St} {g g' : Gh} {E E' : Env} {N : NR} {a : Act} {Q : Ends}
theorem findNow_int {kk : IntKind} {es : List MapEntry} {m : List (Int × Int)} (h : es.map (fun e => (e.key, e.val)) = m.map fun p => (Value.int .i64 p.1, Value.int .i64 p.2)) (x : Int) (i : Nat) :
    (mlook m x = none → Instr.findNow (.int kk) (.int .i64 x) es i = some none) ∧ ∀ c, mlook m x = some c → ∃ j, Instr.findNow (.int kk) (.int .i64 x) es i = some (some (j, .int .i64 c)) := by
  induction es generalizing m i with
  | nil =>
    cases m with
    | nil => exact ⟨fun _ => rfl, fun c hc => by cases hc⟩
    | cons p m => simp at h
  | cons e es ih =>
    cases m with
    | nil => simp at h
    | cons p m =>
      simp only [List.map_cons, List.cons.injEq, Prod.mk.injEq] at h
      obtain ⟨⟨h1, h2⟩, h3⟩ := h
      obtain ⟨ih1, ih2⟩ := ih h3 (i + 1)
      simp only [mlook]
      by_cases hp : p.1 = x
      · simp only [hp, if_true]
        refine ⟨fun h => (by cases h), fun c hc => ⟨i, ?_⟩⟩
        cases hc
        simp [Instr.findNow, Instr.sameNow, h1, h2, hp]
      · simp only [hp, if_false]
        have hs : Instr.sameNow (.int kk) (.int .i64 x) e.key = some false := by simp [Instr.sameNow, h1]; exact fun e => hp e.symm
        refine ⟨fun h => ?_, fun c hc => ?_⟩
        · simp only [Instr.findNow, hs]; exact ih1 h
        · obtain ⟨j, hj⟩ := ih2 c hc
          exact ⟨j, by simp only [Instr.findNow, hs]; exact hj⟩
theorem WL_makeMap {d t : Nat} {ty : TypeId} {rest : List Ro} (hd : d < N)
    (h : ∀ b, look s.maps b = none → WL P N rest (E.set (some d) (.v (.map (some b)))) { s with maps := (b, .map []) :: s.maps } Q) :
    WL P N (⟨some d, .makeMap t none, ty, .no⟩ :: rest) E s Q := by
  refine WL_core (fun k hk => by cases hk; exact hd) fun w g a o hr ho1 ho2 => ?_
  obtain ⟨h1, h2⟩ := addOth hr.st (.map #[] 0) (.map []) rfl ⟨#[], 0, rfl, rfl⟩
  have hfr : look s.maps w.heap.size = none := by
    cases hq : look s.maps w.heap.size with
    | none => rfl
    | some q => exact absurd (hr.st.maps_lt (b := w.heap.size) (by rw [hq]; rfl)) (Nat.lt_irrefl _)
  exact ⟨.map (some w.heap.size), _, _, g, .v (.map (some w.heap.size)), .inl (by simp [execOp, ho1, Instr.makeMap]), .v _, h1, h2, h _ hfr⟩
theorem run_setM {b : Nat} {es : Array MapEntry} {clock : Nat} (o : Obj) (h : w.heap[b]? = some (.map es clock)) : (setObj b o).run P w = .ok () (w.putObj b o) := by simp [setObj, Sem.run, h, World.putObj]
theorem run_getM {b : Nat} {es : Array MapEntry} {clock : Nat} (h : w.heap[b]? = some (.map es clock)) : (getObj b).run P w = .ok (.map es clock) w := by simp [getObj, Sem.run, h]
def tzv (P : Program) (t : TypeId) : Option Value := (P.info? t).bind (·.zero)
theorem run_zero {t : TypeId} {v : Value} (h : tzv P t = some v) : (zeroValue t).run P w = .ok v w := by
  unfold tzv at h
  cases hi : P.info? t with
  | none => rw [hi] at h; cases h
  | some i => rw [hi] at h; simp only [Option.bind_some] at h; simp [zeroValue, typeInfo, hi, h]
theorem checkKey_int {e : Bool} {k : Nat} {kk : IntKind} {v : Value} (h : P.underlying k = some (.int kk)) : (Instr.checkKey e 10000 k v).run P w = .ok () w := by
  unfold Instr.checkKey
  simp [run_underlying h]
theorem map_inv (hst : StRel w s g) {b : Nat} {m : List (Int × Int)} (hl : look s.maps b = some (.map m)) : ∃ es clock, w.heap[b]? = some (.map es clock) ∧ MapRel es m := by
  obtain ⟨o, h1, h2, es, clock, rfl, h3⟩ := hst.maps b _ hl
  exact ⟨es, clock, h1, h3⟩
theorem WL_mapPush {t : Nat} {ty : TypeId} {rest : List Ro} {mo ko xo : Operand} {b : Nat} {m : List (Int × Int)} {x c : Int} {kk : IntKind} {k e : Nat} (hm : evo E.f mo = .v (.map (some b))) (hk : evo E.f ko = .v (.int .i64 x)) (hx : evo E.f xo = .v (.int .i64 c))
    (ht : tmapi P t = some (kk, k, e)) (hl : look s.maps b = some (.map m)) (hnew : mlook m x = none)
    (h : WL P N rest E { s with maps := putAt s.maps b (.map (m ++ [(x, c)])) } Q) : WL P N (⟨none, .mapUpdate t mo ko xo, ty, .no⟩ :: rest) E s Q := by
  refine WL_core (fun k hk => by cases hk) fun w g a o hr ho1 ho2 => ?_
  obtain ⟨ht1, ht2⟩ := tmapi_u ht
  have h1 := hr.evo mo
  have h2 := hr.evo ko
  have h3 := hr.evo xo
  rw [hm] at h1
  rw [hk] at h2
  rw [hx] at h3
  obtain ⟨es, clock, hb, hrel⟩ := map_inv hr.st hl
  have hfind := (findNow_int (kk := kk) hrel x 0).1 hnew
  obtain ⟨q1, q2⟩ := putOth hr.st hl (.map (es.push { key := .int .i64 x, val := .int .i64 c, born := clock }) (clock + 1)) (.map (m ++ [(x, c)])) rfl ⟨_, _, rfl, by
    unfold MapRel at hrel ⊢
    simp [hrel]⟩
  have hput : (setObj b (.map (es.push { key := .int .i64 x, val := .int .i64 c, born := clock }) (clock + 1))).run P w = .ok () (w.putObj b (.map (es.push { key := .int .i64 x, val := .int .i64 c, born := clock }) (clock + 1))) := run_setM _ hb
  refine ⟨undef, _, _, g, .junk, .inr ⟨?_, rfl⟩, .junk _, q1, q2, h⟩
  simp [execOp, ho1, h1.v_eq, h2.v_eq, h3.v_eq, Instr.mapUpdate, run_underlying ht1, run_underlying ht2, run_getM hb, checkKey_int ht2, Instr.findKey, hfind, hput]
theorem WL_lookup {d t : Nat} {ty : TypeId} {rest : List Ro} {mo ko : Operand} {b : Nat} {m : List (Int × Int)} {x : Int} {kk : IntKind} {k e : Nat} (hm : evo E.f mo = .v (.map (some b))) (hk : evo E.f ko = .v (.int .i64 x))
    (ht : tmapi P t = some (kk, k, e)) (hz : tzv P e = some (.int .i64 0)) (hl : look s.maps b = some (.map m)) (hd : d < N)
    (h : WL P N rest (E.set (some d) (.v (.int .i64 ((mlook m x).getD 0)))) s Q) : WL P N (⟨some d, .lookup t mo ko false, ty, .no⟩ :: rest) E s Q := by
  refine WL_core (fun k hk => by cases hk; exact hd) fun w g a o hr ho1 ho2 => ?_
  obtain ⟨ht1, ht2⟩ := tmapi_u ht
  have h1 := hr.evo mo
  have h2 := hr.evo ko
  rw [hm] at h1
  rw [hk] at h2
  obtain ⟨es, clock, hb, hrel⟩ := map_inv hr.st hl
  have hfind := findNow_int (kk := kk) hrel x 0
  refine ⟨.int .i64 ((mlook m x).getD 0), w, s, g, .v (.int .i64 ((mlook m x).getD 0)), .inl ?_, .v _, hr.st, Step.refl _ _ _, h⟩
  cases hq : mlook m x with
  | none =>
    have hf := hfind.1 hq
    have hzero : (zeroValue e).run P w = .ok (.int .i64 0) w := run_zero hz
    simp [execOp, ho1, h1.v_eq, h2.v_eq, Instr.lookup, run_underlying ht1, run_underlying ht2, run_getM hb, checkKey_int ht2, Instr.findKey, hf, hzero]
  | some c =>
    obtain ⟨j, hf⟩ := hfind.2 c hq
    simp [execOp, ho1, h1.v_eq, h2.v_eq, Instr.lookup, run_underlying ht1, run_underlying ht2, run_getM hb, checkKey_int ht2, Instr.findKey, hf]
theorem drop1_map (b : Option Nat) : drop1 (.v (.map b)) = .v (.map b) := id rfl
attribute [go_sem, simp] drop1_map
end
end Go.VS
namespace Go.VS
open Go
section
variable {P : Program} {w w' : World} {s s' : St} {g g' : Gh} {E E' : Env} {N : NR} {a : Act} {Q : Ends}
theorem RowIn.back {R0 : Rows} {c : C} {z : Nat} {es : List (List C)} {v : Value} (hx : RowIn R0 s.rows c z es) (hv : R w { s with rows := R0 } g c v) : R w s g c v := by
  rcases hx.row with ⟨rfl, _⟩ | ⟨rfl, _⟩ | ⟨b, rfl, _⟩
  · rw [hv.v_eq]; exact .v _
  · cases hv with
    | li _ _ A n cap ad z u hn hm hcap hz hA hs hc hr ho ht => exact .li none [] A n cap ad z u hn hm hcap hz hA hs (by simp) (by simp) (by simp) (fun r hr => by cases hr)
  · obtain ⟨rfl, h1, h2⟩ := hv.rs_inv
    exact .rs _ _ h1 h2
/-- A row in a variable is not written any more. -/
theorem W_freezec {c : Code} {b : Nat} {cs : List C} (j z : Nat) {cj : C} (es : List (List C)) (R0 : Rows) (hl : look s.objs b = some cs) (hj : cs[j]? = some cj) (hx : RowIn R0 s.rows cj z es) (hone : es.all (fun e => e.all one) = true)
    (h : W P N c E { s with objs := putAt s.objs b (cs.set j (.li none es)), rows := R0 } Q) : W P N c E s Q :=
  W_ghost2 fun w g a hr => by
    have hsub := rows_sub (s := s) hx.old
    obtain ⟨hjl, hjv⟩ := List.getElem?_eq_some_iff.1 hj
    have h1 := hsub.st hr.st
    have h2 := hsub.step w g
    obtain ⟨h4, h5⟩ := cells_step (cs' := cs.set j (.li none es)) h1 hl (by simp) (fun i hi v hv => by
      by_cases e : j = i
      · subst e
        simp only [List.getElem_set_self]
        rw [hjv] at hv
        exact hx.froze hone hr.st (hx.back hv)
      · rw [List.getElem_set_ne e]
        exact hv)
    exact ⟨E, _, _, (hr.step h2 h1).step h5 h4, h2.trans h5, h⟩
/-- A row, told with less. -/
theorem row_short (hst : StRel w s g) {b z : Nat} {es es' : List (List C)} (hl : look s.rows b = some (z, es)) (hlen : es'.length ≤ es.length) (hz : ∀ x ∈ es', x.length = z) (hget : ∀ (i : Nat) (hi : i < es'.length), es'[i] = es[i]'(by omega)) :
    StRel w { s with rows := putAt s.rows b (z, es') } g ∧ Step w s g w { s with rows := putAt s.rows b (z, es') } g := by
  have hiS : ∀ k, (look (putAt s.rows b (z, es')) k).isSome = (look s.rows k).isSome := fun k => isSome_putAt _ _ _ _
  have hstep : Step w s g w { s with rows := putAt s.rows b (z, es') } g := by
    refine ⟨rfl, rfl, rfl, Nat.le_refl _, fun _ _ _ => rfl, fun a u hu ho => ⟨hu, fun h => ho ?_⟩, fun k hk h => ?_, fun _ _ => rfl, fun _ _ => rfl, Nat.le_refl _, fun _ _ _ h => h⟩
    · rcases h with h | h | h
      · exact .inl h
      · rw [hiS] at h; exact .inr (.inl h)
      · exact .inr (.inr h)
    · rcases h with h | h | h
      · exact .inl h
      · rw [hiS] at h; exact .inr (.inl h)
      · exact .inr (.inr h)
  refine ⟨hst.next hstep (fun k cs hk => .inl ⟨hk, rfl⟩) (fun k z' es2 hk => ?_) (fun r z0 L hr => ⟨(hst.toks r z0 L hr).1, .inl ⟨hr, rfl, fun _ _ _ _ => rfl⟩⟩) (fun k m hk => .inl ⟨hk, rfl⟩)
    (fun k h1 h2 => hst.d1 k h1 (by rw [← hiS]; exact h2)) (fun k r zL o c h1 h2 h3 => hst.d2 k r zL o c h1 h2 (h3.imp id fun h => by rw [← hiS]; exact h)) hst.d3, hstep⟩
  have hk' : look (putAt s.rows b (z, es')) k = some (z', es2) := hk
  rw [look_putAt] at hk'
  split at hk'
  · rename_i hkb
    subst hkb
    rw [hl] at hk'
    simp only [Option.map_some, Option.some.injEq, Prod.mk.injEq] at hk'
    obtain ⟨rfl, rfl⟩ := hk'
    obtain ⟨arr, e, h3, hrz, hne, hasz, hcm, hes, hel⟩ := hst.rows k _ es hl
    refine .inr ⟨arr, e, h3, hrz, by omega, hasz, hcm, hz, fun i j hi hj => ?_⟩
    have e1 := hget i hi
    have hj' : j < (es[i]'(by omega)).length := by rw [← e1]; exact hj
    obtain ⟨u, q1, q2⟩ := hel i j (by omega) hj'
    refine ⟨u, q1, ?_⟩
    have e2 : (es'[i])[j] = (es[i]'(by omega))[j] := by simp [e1]
    rw [e2]
    exact q2.step hstep
  · exact .inl ⟨hk', rfl⟩
theorem W_short {c : Code} {b z : Nat} {es : List (List C)} (k : Nat) (hl : look s.rows b = some (z, es)) (hz : ∀ x ∈ es, x.length = z) (h : W P N c E { s with rows := putAt s.rows b (z, es.take k) } Q) : W P N c E s Q :=
  W_ghost2 fun w g a hr => by
    obtain ⟨h1, h2⟩ := row_short (es' := es.take k) hr.st hl (by simp; omega) (fun x hx => hz x (List.mem_of_mem_take hx)) (fun i hi => by simp)
    exact ⟨E, _, g, hr.step h2 h1, h2, h⟩
/-- The end of a row of ints, cleared: the row is the part ahead of it. -/
theorem WL_sliceClear {d t e : Nat} {ty ty2 : TypeId} {rest : List Ro} {x lo : Operand} {b n i : Nat} {k : IntKind} {es : List (List C)} (hx : evo E.f x = .rs b n) (hlo : evo E.f lo = .v (.int k i)) (ht : tel P t = some e) (hi : (P.info? e).isSome) (hz1 : tsz P e = 1)
    (hzv : tzv P e = some (.int .i64 0)) (hl : look s.rows b = some (1, es)) (hn : es.length = n) (hin : i ≤ n) (hes : ∀ q ∈ es, q.length = 1) (hd : d < N)
    (h : WL P N rest (E.set (some d) .junk) { s with rows := putAt s.rows b (1, es.take i) } Q) :
    WL P N (⟨some d, .slice t x (some lo) none none, ty, .no⟩ :: ⟨none, .call { callee := .builtin .clear, args := #[.tmp d], argTypes := #[t] }, ty2, .no⟩ :: rest) E s Q := by
  refine WL_one fun ops w g a o l' hr h1 h2 h3 h4 => ?_
  have hrx := hr.evo x
  rw [hx] at hrx
  have hrl := hr.evo lo
  rw [hlo] at hrl
  obtain ⟨hv, hb, hnc⟩ := hrx.rs_inv
  have hb1 : ∀ c : BoundsCode, (Instr.sliceBound (.int k i) n c).run P w = .ok i w := fun c => sliceBound_run (i := (i : Int)) (y := n) (by omega) (by omega)
  have hb2 : ∀ c : BoundsCode, (Instr.sliceBound (.int k i) (g.rc b) c).run P w = .ok i w := fun c => sliceBound_run (i := (i : Int)) (y := g.rc b) (by omega) (by omega)
  have hszr : (sizeOf e).run P w = .ok 1 w := by have := tsz_run (P := P) (w := w) hi; rw [hz1] at this; exact this
  have hrun : (execOp a.eval o).run P w = .ok (.value (.slice (some ⟨b, if g.rc b = i then 0 else i, none⟩) (n - i) (g.rc b - i))) w := by
    simp [execOp, h1, hv, hrl.v_eq, Instr.sliceAt, run_underlying (tel_u ht), Instr.slice, Instr.sliceBounds, hb1, hb2, isSlice_of_hsz hi, hszr, add_none]
    split <;> simp_all [add_none]
  have hst := hr.st
  obtain ⟨arr, et, harr, hrz, hne, hasz, hcm, hesz, hel⟩ := hst.rows b 1 es hl
  have hdlt : d < a.tmps.size := by rw [hr.size]; exact hd
  have hdv : (a.put (some d) (.slice (some ⟨b, if g.rc b = i then 0 else i, none⟩) (n - i) (g.rc b - i))).eval (.tmp d) = .slice (some ⟨b, if g.rc b = i then 0 else i, none⟩) (n - i) (g.rc b - i) := by
    show (a.put (some d) _).tmps.getD d undef = _
    rw [put_get, if_pos ⟨rfl, hdlt⟩]
  -- what is left in memory
  obtain ⟨w', hclr, hst', hstep'⟩ : ∃ w', (Builtin.clear_ #[t] ty2 #[.slice (some ⟨b, if g.rc b = i then 0 else i, none⟩) (n - i) (g.rc b - i)]).run P w = .ok (.tuple #[]) w' ∧ StRel w' { s with rows := putAt s.rows b (1, es.take i) } g ∧ Step w s g w' { s with rows := putAt s.rows b (1, es.take i) } g := by
    obtain ⟨q1, q2⟩ := row_short (es' := es.take i) hst hl (by simp; omega) (fun x hx => hes x (List.mem_of_mem_take hx)) (fun j hj => by simp)
    rcases Nat.lt_or_ge i n with hlt | hge
    · have hgi : ¬ g.rc b = i := by omega
      rw [if_neg hgi]
      have hzl : (Builtin.zeroCells (Value.cells (.int .i64 0)) (n - i)).toList = List.replicate (n - i) (.int .i64 0) := by
        simp [Builtin.zeroCells, Value.cells]
        apply List.ext_getElem
        · simp
        · intro j h1 h2
          simp [Nat.mod_one]
      have hsto := run_storeCells_at P b i et (List.replicate (n - i) (.int .i64 0)) 0 arr w harr (by simp; omega) (fun v hv => by rw [List.eq_of_mem_replicate hv]; rfl)
      have hclr : (Builtin.clear_ #[t] ty2 #[.slice (some ⟨b, i, none⟩) (n - i) (g.rc b - i)]).run P w = .ok (.tuple #[]) (w.setRow b (arr.toList.take (i + 0) ++ List.replicate (n - i) (Value.int .i64 0) ++ arr.toList.drop (i + 0 + (List.replicate (n - i) (Value.int .i64 0)).length)).toArray) := by
        obtain ⟨m, hm⟩ : ∃ m, n - i = m + 1 := ⟨n - i - 1, by omega⟩
        rw [hm] at hzl hsto ⊢
        simp [Builtin.clear_, run_underlying (tel_u ht), run_zero hzv, hzl, hsto]
      refine ⟨_, hclr, ?_⟩
      have hl1 : look (putAt s.rows b (1, es.take i)) b = some (1, es.take i) := by rw [look_putAt, if_pos rfl, hl]; rfl
      have hrc := rowChange (w' := w.setRow b (arr.toList.take (i + 0) ++ List.replicate (n - i) (Value.int .i64 0) ++ arr.toList.drop (i + 0 + (List.replicate (n - i) (Value.int .i64 0)).length)).toArray) q1 (es' := es.take i) hl1 rfl (fun x hx => hes x (List.mem_of_mem_take hx)) harr (by simp; omega) rfl rfl rfl (by simp) (setRow_heap w b arr _ et (0, 0) harr) (fun k _ hk => setRow_other w b k _ hk) (fun i' j hi' hj => by
        have hi2 : i' < i := by simp at hi'; omega
        have hi3 : i' < es.length := by simp at hi'; omega
        have e1 : (es.take i)[i'] = es[i'] := by simp
        have hj2 : j < (es[i']).length := by rw [← e1]; exact hj
        have hj1 : j = 0 := by have := hes _ (List.getElem_mem hi3); omega
        subst hj1
        obtain ⟨u, u1, u2⟩ := hel i' 0 hi3 hj2
        refine ⟨u, ?_, ?_⟩
        · have : i' * 1 + 0 < (arr.toList.take (i + 0)).length := by simp; omega
          rw [List.getElem?_toArray, List.append_assoc, List.getElem?_append_left this, List.getElem?_take_of_lt (by omega)]
          simpa using u1
        · have e2 : ((es.take i)[i'])[0]'hj = (es[i'])[0] := by simp [e1]
          rw [e2]
          exact u2.step q2)
      have hpp : ∀ (l : Rows) (x : Nat × List (List C)), putAt (putAt l b x) b x = putAt l b x := fun l x => by
        induction l with
        | nil => rfl
        | cons p l ih =>
          obtain ⟨q, y⟩ := p
          by_cases hq : q = b
          · subst hq; simp [putAt]
          · simp [putAt, hq, ih]
      simp only [hpp] at hrc
      exact ⟨hrc.1, q2.trans hrc.2⟩
    · have hie : i = n := by omega
      refine ⟨w, ?_, q1, q2⟩
      rw [show n - i = 0 by omega]
      simp [Builtin.clear_, run_underlying (tel_u ht)]
  unfold Oper.wpIn
  refine ⟨fun _ _ => rf_fn _ _, ?_⟩
  rw [Oper.semAt_eq _ _ _ (by rw [h1]; simp), hrun, Oper.uponIn_value, h3]
  cases l' with
  | nil => simp at h4
  | cons o2 l2 =>
    simp only [List.map_cons, List.cons.injEq] at h4
    obtain ⟨ho, hrest⟩ := h4
    simp only [conv, Ro.mk.injEq] at ho
    obtain ⟨k1, k2, k3, k4⟩ := ho
    have hg : o2.guard = none := by
      cases hgd : o2.guard with
      | none => rfl
      | some p =>
        obtain ⟨j, b⟩ := p
        simp only [hgd] at k4
        split at k4 <;> cases k4
    refine wpListIn_plain hg (fun K hK => ?_)
    have hrun2 : (execOp (a.put (some d) (.slice (some ⟨b, if g.rc b = i then 0 else i, none⟩) (n - i) (g.rc b - i))).eval o2).run P w = .ok (.value (.tuple #[])) w' := by
      simp [execOp, k2, resolve, invoke, builtin, hdv, k3, hclr]
    unfold Oper.wpIn
    refine ⟨fun _ _ => rf_fn _ _, ?_⟩
    rw [Oper.semAt_eq _ _ _ (by rw [k2]; simp), hrun2, Oper.uponIn_value, k1]
    refine hK _ _ ?_
    have hr' : Rel w' { s with rows := putAt s.rows b (1, es.take i) } g (E.set (some d) .junk) N (a.put (some d) (.slice (some ⟨b, if g.rc b = i then 0 else i, none⟩) (n - i) (g.rc b - i))) :=
      (hr.step hstep' hst').put (fun k hk => by cases hk; exact hd) (.junk _)
    exact wpList_mono (fun e a w hp => Post.mono hstep' (fun _ _ _ h => h) hp) _ _ _ (h ops l2 hrest w' g _ hr')
end
end Go.VS
namespace Go.VS
open Go
/-- What says less of a value. -/
inductive Le : C → C → Prop
  | refl (c : C) : Le c c
  | nil : Le (.v (.slice none 0 0)) (.li none [])
  | li (tok : Option Nat) (es es' : List (List C)) (hl : es.length = es'.length) (hl2 : ∀ i (hi : i < es.length) (hi' : i < es'.length), es[i].length = es'[i].length)
      (h : ∀ i (hi : i < es.length) (hi' : i < es'.length) j (hj : j < es[i].length) (hj' : j < es'[i].length), Le es[i][j] es'[i][j]) : Le (.li tok es) (.li none es')
  | agg (cs cs' : List C) (hl : cs.length = cs'.length) (h : ∀ i (hi : i < cs.length) (hi' : i < cs'.length), Le cs[i] cs'[i]) : Le (.agg cs) (.agg cs')
def F2 {α : Type} (r : α → α → Prop) (l l' : List α) : Prop := l.length = l'.length ∧ ∀ i (hi : i < l.length) (hi' : i < l'.length), r l[i] l'[i]
theorem F2.nil {α : Type} {r : α → α → Prop} : F2 r [] [] := ⟨rfl, fun i hi => absurd hi (by simp)⟩
theorem F2.cons {α : Type} {r : α → α → Prop} {x y : α} {l l' : List α} (h : r x y) (hl : F2 r l l') : F2 r (x :: l) (y :: l') :=
  ⟨by simp [hl.1], fun i hi hi' => by
    cases i with
    | zero => exact h
    | succ i => exact hl.2 i (by simpa using hi) (by simpa using hi')⟩
theorem F2.refl {α : Type} {r : α → α → Prop} (h : ∀ x, r x x) (l : List α) : F2 r l l := ⟨rfl, fun i _ _ => h _⟩
theorem Le.li_of {tok : Option Nat} {es es' : List (List C)} (h : F2 (F2 Le) es es') : Le (.li tok es) (.li none es') :=
  .li tok es es' h.1 (fun i hi hi' => (h.2 i hi hi').1) (fun i hi hi' j hj hj' => (h.2 i hi hi').2 j hj hj')
theorem Le.agg_of {cs cs' : List C} (h : F2 Le cs cs') : Le (.agg cs) (.agg cs') := .agg cs cs' h.1 h.2
section
variable {P : Program} {w : World} {s : St} {g : Gh}
theorem Le.R {c c' : C} (h : Le c c') : ∀ {v : Value}, VS.R w s g c v → VS.R w s g c' v := by
  induction h with
  | refl c => exact fun h => h
  | nil => intro v h; rw [h.v_eq]; exact nil_li
  | li tok es es' hl hl2 h ih =>
    intro v hv
    cases hv with
    | li _ _ A n cap ad z u hn hm hcap hz hA hs hc hr ho ht =>
      refine .li none es' A n cap ad z u (by omega) hm hcap (fun e he => ?_) hA hs (fun i j hi hj => ?_) (fun i j hi hj => ?_) (fun i j hi hj => ?_) (fun r hr => by cases hr)
      · obtain ⟨i, hi, rfl⟩ := List.getElem_of_mem he
        rw [← hl2 i (by omega) hi]
        exact hz _ (List.getElem_mem _)
      · exact hc i j (by omega) (by rw [hl2 i (by omega) hi]; exact hj)
      · exact ih i (by omega) hi j (by rw [hl2 i (by omega) hi]; exact hj) hj (hr i j (by omega) (by rw [hl2 i (by omega) hi]; exact hj))
      · exact ho i j (by omega) (by rw [hl2 i (by omega) hi]; exact hj)
  | agg cs cs' hl h ih =>
    intro v hv
    cases hv with
    | agg _ vs hn hr =>
      exact .agg cs' vs (by omega) (fun j hj => ih j (by omega) hj (hr j (by omega)))
theorem CallC.le {k : FuncId} {args args' : List C} {K : KR} {Kp : KP} (h : CallC P k args' s K Kp) (hl : F2 Le args args') : CallC P k args s K Kp :=
  h.less hl.1 fun w g v j hj hv => (hl.2 j hj (by have := hl.1; omega)).R hv
end
end Go.VS
namespace Go.VS
open Go
section
variable {P : Program} {w : World} {s : St} {g : Gh} {E : Env} {N : NR} {Q : Ends} {a : Act}
theorem eqIn_slice {t e : TypeId} {A : Option Addr} {n c : Nat} (d : Nat) (h : P.underlying t = some (.slice e)) : (Op.equalIn (d + 1) t (.slice A n c) (.slice none 0 0)).run P w = .ok A.isNone w := by
  cases A <;> simp [Op.equalIn, run_underlying h]
theorem eq_slice {t e : TypeId} {A : Option Addr} {n c : Nat} (h : P.underlying t = some (.slice e)) : (Op.equal t (.slice A n c) (.slice none 0 0)).run P w = .ok A.isNone w := by
  unfold Op.equal Op.maxDepth
  exact eqIn_slice 9999 h
theorem WL_isnil {d t e : Nat} {u ty : TypeId} {rest : List Ro} {x : Operand} {tok : Option Nat} {es : List (List C)} (hx : evo E.f x = .li tok es) (ht : tel P t = some e) (hd : d < N)
    (h : ∀ b : Bool, (es ≠ [] → b = false) → WL P N rest (E.set (some d) (.v (.bool b))) s Q) :
    WL P N (⟨some d, .binOp .eql t x (.const (.slice none 0 0)) u, ty, .no⟩ :: rest) E s Q := by
  refine WL_core (fun k hk => by cases hk; exact hd) fun w g a o hr ho1 ho2 => ?_
  have hrx := hr.evo x
  rw [hx] at hrx
  obtain ⟨A, cap, b, off, z, u1, hv, hm, hcap, hz, hA, _⟩ := hrx.li_inv
  refine ⟨.bool A.isNone, w, s, g, .v (.bool A.isNone), .inl ?_, .v _, hr.st, Step.refl _ _ _, h _ fun hne => ?_⟩
  · have hc : a.eval (.const (.slice none 0 0)) = .slice none 0 0 := rfl
    simp only [execOp, ho1, hv, hc, eqGuard, binOp, Sem.run_bind, eq_slice (tel_u ht)]
    simp [eq_slice (tel_u ht)]
  · have : 0 < es.length := by
      cases es with
      | nil => exact absurd rfl hne
      | cons _ _ => simp
    rw [hA this]
    rfl
end
end Go.VS
namespace Go.VS
open Go
section
variable {P : Program} {w w1 w' : World} {s s1 s' : St} {g g1 g' : Gh} {E E1 : Env} {N : NR} {a : Act} {Q Q' : Ends}
theorem WL_buildSliceRow {d t n e : Nat} {ty : TypeId} {rest : List Ro} {ps : Array (Nat × Operand)} (ht : tel P t = some e) (hz : (tzero P e).isSome) (hps : ps.toList.map (·.1) = List.range' 0 n) (hn : n = ps.toList.length)
    (hlen : (partsC E.f ps.toList).all (fun x => x.length == tsz P e) = true) (hone : (partsC E.f ps.toList).all (fun x => x.all one) = true) (hsz : n * tsz P e ≤ 16777216) (hnm : n ≤ 16777216) (hd : d < N)
    (h : ∀ b, look s.rows b = none → look s.objs b = none → WL P N rest (E.set (some d) (.rs b n)) { s with rows := (b, (tsz P e, partsC E.f ps.toList)) :: s.rows } Q) :
    WL P N (⟨some d, .buildSlice t n ps, ty, .no⟩ :: rest) E s Q := by
  refine WL_core (fun k hk => by cases hk; exact hd) fun w g a o hr h1 h2 => ?_
  obtain ⟨i, z, hi, hz'⟩ : ∃ i z, P.info? e = some i ∧ i.zero = some z := by
    unfold tzero at hz
    cases hi : P.info? e with
    | none => simp [hi] at hz
    | some i =>
      cases hz' : i.zero with
      | none => simp [hi, hz'] at hz
      | some z => exact ⟨i, z, rfl, hz'⟩
  have hsize : i.size = tsz P e := by simp [tsz, hi]
  have hR := fun (k : Nat) (hk : k < ps.toList.length) => cellsOf_vals (hr.evo (ps.toList[k]).2) (by
    have := List.all_eq_true.1 hone (cellsOf (evo E.f (ps.toList[k]).2)) (by simp only [partsC, List.mem_map]; exact ⟨_, List.getElem_mem hk, rfl⟩)
    exact this)
  have hL : ∀ k (hk : k < ps.toList.length), (cellsOf (evo E.f (ps.toList[k]).2)).length = tsz P e := fun k hk => by
    have := List.all_eq_true.1 hlen (cellsOf (evo E.f (ps.toList[k]).2)) (by simp only [partsC, List.mem_map]; exact ⟨_, List.getElem_mem hk, rfl⟩)
    simpa using this
  have hvs : ∀ v ∈ ps.toList.map (fun p => a.eval p.2), v.cells.size = tsz P e := fun v hv => by
    obtain ⟨p, hp, rfl⟩ := List.mem_map.1 hv
    obtain ⟨k, hk, rfl⟩ := List.getElem_of_mem hp
    rw [(hR k hk).1, hL k hk]
  generalize hZ : (if n * tsz P e = 0 then #[] else z.cells) = Z
  obtain ⟨cells, hf1, hf2, _, hf3⟩ := fill_seq (tsz P e) (ps.toList.map fun p => a.eval p.2) 0 ((Array.range (n * tsz P e)).map fun k => Z[k % Z.size]!) hvs (by simp [hn])
  have hzip := zip_of_map ps.toList a.eval 0 (by rw [hps, hn])
  rw [← hzip] at hf1
  have hlen2 : (partsC E.f ps.toList).length = n := by simp [partsC, hn]
  obtain ⟨g', h3, h4, h5⟩ := addRow hr.st cells e (tsz P e) n (partsC E.f ps.toList) (by omega) (by unfold maxLen; omega) (by rw [hf2]; simp) (fun x hx => by have := List.all_eq_true.1 hlen x hx; simpa using this)
    (fun k j hk hj => by
      have hk' : k < ps.toList.length := by omega
      have e1 : (partsC E.f ps.toList)[k] = cellsOf (evo E.f (ps.toList[k]).2) := by simp [partsC]
      have hj' : j < (cellsOf (evo E.f (ps.toList[k]).2)).length := by rw [← e1]; exact hj
      obtain ⟨u, h6, h7, h8⟩ := (hR k hk').2 j hj'
      have h9 := hf3 k j (by simpa using hk') (by rw [← hL k hk']; exact hj')
      simp only [Nat.zero_add, List.getElem_map] at h9
      refine ⟨u, by rw [h9, h6], ?_⟩
      have e4 : ((partsC E.f ps.toList)[k])[j]'hj = (cellsOf (evo E.f (ps.toList[k]).2))[j] := by simp [e1]
      rw [e4]
      exact h7) s.rows (fun _ _ h => h)
  have hfr := hr.st.fresh
  have hrs : R (w.alloc (.cells cells e)) { s with rows := (w.heap.size, (tsz P e, partsC E.f ps.toList)) :: s.rows } g' (.rs w.heap.size n) (.slice (some ⟨w.heap.size, 0, none⟩) n n) := by
    have := VR.rs (w := w.alloc (.cells cells e)) (O := own { s with rows := (w.heap.size, (tsz P e, partsC E.f ps.toList)) :: s.rows } g') (T := TK { s with rows := (w.heap.size, (tsz P e, partsC E.f ps.toList)) :: s.rows } g') (g := g') w.heap.size n (by simp) (by rw [h5]; exact Nat.le_refl _)
    rw [h5] at this
    exact this
  refine ⟨_, _, _, g', _, .inl ?_, hrs, h3, h4, h _ hfr.2 hfr.1⟩
  have hsz' : ¬ (16777216 < n * tsz P e) := by omega
  have hfz : (Instr.fill (fun i => some (i * tsz P e, tsz P e)) ((Array.range (n * tsz P e)).map fun k => Z[k % Z.size]!) (ps.map fun p => (p.1, a.eval p.2)).toList) = some cells := by simpa using hf1
  simp only [execOp, h1, Instr.buildSlice, Sem.run_bind, run_underlying (tel_u ht), Result.andThen_ok, isSlice_of_hsz (P := P) (t := e) (by simp [hi])]
  rw [if_neg (by omega)]
  by_cases h0 : n * tsz P e = 0
  · rw [if_pos h0] at hZ
    subst hZ
    rw [if_pos h0]
    simp only [Sem.run_bind, Sem.run_pure, Result.andThen_ok, hfz]
    simp [newRow, hlen2]
  · rw [if_neg h0] at hZ
    subst hZ
    rw [if_neg h0]
    simp only [Sem.run_bind, Sem.run_pure, Result.andThen_ok, zeroValue, typeInfo, run_program, hi, hz', hfz]
    simp [newRow, hlen2]
end
end Go.VS
namespace Go.VS
open Go
section
variable {P : Program} {w w1 w' : World} {s s1 s' : St} {g g1 g' : Gh} {E E1 : Env} {N : NR} {a : Act} {Q Q' : Ends}
theorem stp_cap {d : Option Nat} {ty : TypeId} {rest : List Ro} {args : Array Operand} {tys : Array TypeId} : stp P N d (.call { callee := .builtin .cap, args := args, argTypes := tys }) ty rest E s Q = WL P N (⟨d, .call { callee := .builtin .cap, args := args, argTypes := tys }, ty, .no⟩ :: rest) E s Q := id rfl
attribute [go_sem] stp_cap
theorem WL_capNil {d t e : Nat} {ty : TypeId} {rest : List Ro} {x : Operand} (hx : evo E.f x = .v (.slice none 0 0)) (ht : tel P t = some e) (hd : d < N)
    (h : WL P N rest (E.set (some d) (.v (.int .i64 0))) s Q) :
    WL P N (⟨some d, .call { callee := .builtin .cap, args := #[x], argTypes := #[t] }, ty, .no⟩ :: rest) E s Q := by
  refine WL_core (fun k hk => by cases hk; exact hd) fun w g a o hr ho1 ho2 => ?_
  have hrx := hr.evo x
  rw [hx] at hrx
  refine ⟨.int .i64 0, w, s, g, .v (.int .i64 0), .inl ?_, .v _, hr.st, Step.refl _ _ _, h⟩
  simp [execOp, ho1, resolve, invoke, builtin, hrx.v_eq, Builtin.cap_, run_underlying (tel_u ht), goInt]
theorem WL_sliceNil {d t e : Nat} {ty : TypeId} {rest : List Ro} {x y : Operand} {k : IntKind} (hx : evo E.f x = .v (.slice none 0 0)) (hy : evo E.f y = .v (.int k 0)) (ht : tel P t = some e) (hi : (P.info? e).isSome) (hd : d < N)
    (h : WL P N rest (E.set (some d) (.v (.slice none 0 0))) s Q) :
    WL P N (⟨some d, .slice t x none (some y) none, ty, .no⟩ :: rest) E s Q := by
  refine WL_core (fun k hk => by cases hk; exact hd) fun w g a o hr ho1 ho2 => ?_
  have hrx := hr.evo x
  rw [hx] at hrx
  have hry := hr.evo y
  rw [hy] at hry
  refine ⟨.slice none 0 0, w, s, g, .v (.slice none 0 0), .inl ?_, .v _, hr.st, Step.refl _ _ _, h⟩
  have hb : ∀ c : BoundsCode, (Instr.sliceBound (.int k 0) 0 c).run P w = .ok 0 w := fun c => sliceBound_run (i := 0) (y := 0) (by omega) (by omega)
  simp [execOp, ho1, hrx.v_eq, hry.v_eq, Instr.sliceAt, run_underlying (tel_u ht), Instr.slice, Instr.sliceBounds, hb, isSlice_of_hsz hi]
theorem WL_growNil {d t tn e : Nat} {ty : TypeId} {rest : List Ro} {x y : Operand} {k kn : IntKind} {n : Nat} (hx : evo E.f x = .v (.slice none 0 0)) (hy : evo E.f y = .v (.int k n)) (ht : tel P t = some e) (htn : tint P tn = some kn)
    (hz : (tzero P e).isSome) (hzs : ((tzero P e).map List.length) = some (tsz P e)) (hz0 : 0 < tsz P e) (hb0 : 0 < tby P e) (hn : 0 < n) (hby : n * tby P e ≤ 140737488355328) (hd : d < N)
    (h : ∀ b, look s.rows b = none → look s.objs b = none → WL P N rest (E.set (some d) (.rs b n)) { s with rows := (b, (tsz P e, [])) :: s.rows } Q) :
    WL P N (⟨some d, .call { callee := .builtin .append, args := #[x, y], argTypes := #[t, tn] }, ty, .no⟩ :: rest) E s Q := by
  refine WL_core (fun k hk => by cases hk; exact hd) fun w g a o hr ho1 ho2 => ?_
  obtain ⟨i, zv, hi, hzv, hisz, hiby⟩ := info_parts' hz
  have hvs : zv.cells.size = tsz P e := by simpa [tzero, hi, hzv] using hzs
  have hrx := hr.evo x
  rw [hx] at hrx
  have hry := hr.evo y
  rw [hy] at hry
  have htnu : P.underlying tn = some (.int kn) := by
    unfold tint at htn
    split at htn
    · rename_i q; cases htn; exact q
    · cases htn
  have hsum := maxLen_of (n := 0 + n) hb0 (by simpa using hby)
  have hm : n ≤ maxLen := by unfold maxLen; omega
  have hrun := Lib.run_append_nil_zeros (P := P) w t tn o.type e i zv k kn (tel_u ht) htnu hi hzv n hn (by omega) (by omega) (by rw [hiby]; omega)
  have hge := grownCap_ge w n 0 e
  have hcm : grownCap w n 0 e ≤ maxLen := grownCap_le_maxLen w n 0 e hm
  obtain ⟨g', h1, h2, h3⟩ := addRow (w := w.drew) hr.st.drew (Builtin.zeroCells zv.cells n ++ Builtin.zeroCells zv.cells (grownCap w n 0 e - n)) e (tsz P e) (grownCap w n 0 e) [] (by simp) hcm
    (by simp only [Array.size_append, size_zeroCells, hvs, ← Nat.add_mul]; exact Nat.mul_le_mul_right _ (by omega)) (by simp) (by simp) s.rows (fun _ _ h => h)
  simp only [World.size_drew] at h1 h2 h3
  have hfr := hr.st.fresh
  refine ⟨.slice (some ⟨w.heap.size, 0, none⟩) n (grownCap w n 0 e), _, _, g', .rs w.heap.size n, .inl ?_, ?_, h1, Step.drew.trans h2, h _ hfr.2 hfr.1⟩
  · simp [execOp, ho1, resolve, invoke, builtin, hrx.v_eq, hry.v_eq, hrun]
  · have := VR.rs (w := w.drew.alloc (.cells (Builtin.zeroCells zv.cells n ++ Builtin.zeroCells zv.cells (grownCap w n 0 e - n)) e)) (O := own { s with rows := (w.heap.size, (tsz P e, [])) :: s.rows } g') (T := TK { s with rows := (w.heap.size, (tsz P e, [])) :: s.rows } g') (g := g') w.heap.size n (by simp) (by rw [h3]; exact hge)
    rw [h3] at this
    exact this
/-- Nothing appended to what is read. -/
theorem WL_append0 {d t e : Nat} {ty : TypeId} {rest : List Ro} {x y : Operand} {es : List (List C)} {tok : Option Nat} (hx : evo E.f x = .li tok es) (ht : tel P t = some e) (hi : (P.info? e).isSome) (hy : elsC (evo E.f y) = some []) (hd : d < N)
    (h : WL P N rest (E.set (some d) (.li tok es)) s Q) :
    WL P N (⟨some d, .call { callee := .builtin .append, args := #[x, y], argTypes := #[t, t] }, ty, .no⟩ :: rest) E s Q := by
  refine WL_core (fun k hk => by cases hk; exact hd) fun w g a o hr ho1 ho2 => ?_
  have hrx := hr.evo x
  rw [hx] at hrx
  obtain ⟨A2, c2, u2, hv2, hc2, hr2⟩ := els_cells (z := 0) (hr.evo y) hy (by simp)
  obtain ⟨A, cap, b, off, z, u1, hv, hm, hcap, hz, hA, _⟩ := hrx.li_inv
  have hrun := run_append_zero (P := P) (w := w) t e o.type (tel_u ht) hi A A2 es.length cap c2 hcap
  rw [hv] at hrx
  exact ⟨.slice A es.length cap, w, s, g, .li tok es, .inl (by simp [execOp, ho1, resolve, invoke, builtin, hv, hv2, hrun]), hrx, hr.st, Step.refl _ _ _, h⟩
end
end Go.VS
namespace Go.VS
open Go
def st0 : St := ⟨[], [], [], []⟩
def gh0 : Gh := ⟨fun _ => none, fun _ => 0, fun _ => 0, 0⟩
theorem not_own0 (a : Addr) : ¬ own st0 gh0 a := by
  rintro (h | h | ⟨r, z, L, b, o, c, h, _⟩)
  · cases h
  · cases h
  · cases h
theorem not_ownB0 (k : Nat) : ¬ ownB st0 gh0 k := by
  rintro (h | h | ⟨r, z, o, c, h, _⟩ | h)
  · cases h
  · cases h
  · cases h
  · cases h
theorem st0_rel (w : World) : StRel w st0 gh0 :=
  ⟨fun b cs h => (by cases h), fun b z es h => (by cases h), fun r z L h => (by cases h), fun b m h => (by cases h), fun b h => (by cases h), fun b r zL o c h => (by cases h), fun b r zL o c r' zL' o' c' h => (by cases h)⟩
section
variable {H : Type} {enc : TypeId × Value → H} {P : Program} {w : World} {base : Nat} {sp : Nat → Bool} {hd : Bool}
/-- What is read at a type, told by 'f'. -/
def Rd (enc : TypeId × Value → H) (P : Program) (w : World) (base : Nat) (sp : Nat → Bool) (hd : Bool) (t : TypeId) {α : Type} (f : α → List C) (p : α → Prop) : Prop :=
  ∀ (fuel : Nat) (cs : List Value) (x : DataW H × List MemPlace), DataW.trod enc P w base sp hd fuel t cs = some x → (∀ n ∈ x.1.weights P t, n ≤ reachBytes) →
    ∃ q : α, (f q).length = cs.length ∧ (∀ j (hj : j < (f q).length) (hj' : j < cs.length), R w st0 gh0 (f q)[j] cs[j] ∧ cs[j].oneCell' = true) ∧ p q
theorem Rd.map {t : TypeId} {α β : Type} {f : α → List C} {p : α → Prop} (h : Rd enc P w base sp hd t f p) (g : α → β) (f' : β → List C) (p' : β → Prop) (hf : ∀ q, p q → f' (g q) = f q) (hp : ∀ q, p q → p' (g q)) : Rd enc P w base sp hd t f' p' := fun fuel cs x hx hwt => by
  obtain ⟨q, h1, h2, h3⟩ := h fuel cs x hx hwt
  refine ⟨g q, ?_, ?_, hp q h3⟩
  · rw [hf q h3]; exact h1
  · rw [hf q h3]; exact h2
theorem Rd_int {t : TypeId} {k : IntKind} (ht : P.underlying t = some (.int k)) : Rd enc P w base sp hd t (fun n : Int => [.v (.int k n)]) (fun n => (Lit.int k n).wf = true) := fun fuel cs x hx hwt => by
  obtain ⟨n, rfl, _, hw⟩ := DataW.trod_int ht hx
  refine ⟨n, rfl, fun j hj hj' => ?_, hw⟩
  have : j = 0 := by simpa using hj
  subst this
  exact ⟨.v _, rfl⟩
theorem Rd_bool {t : TypeId} (ht : P.underlying t = some .bool) : Rd enc P w base sp hd t (fun b : Bool => [.v (.bool b)]) (fun _ => True) := fun fuel cs x hx hwt => by
  obtain ⟨n, rfl, _⟩ := DataW.trod_bool ht hx
  refine ⟨n, rfl, fun j hj hj' => ?_, trivial⟩
  have : j = 0 := by simpa using hj
  subst this
  exact ⟨.v _, rfl⟩
theorem Rd_string {t : TypeId} (ht : P.underlying t = some .string) : Rd enc P w base sp hd t (fun s : ByteArray => [.v (.string s)]) (fun s => s.size ≤ maxLen) := fun fuel cs x hx hwt => by
  obtain ⟨n, rfl, _, hw⟩ := DataW.trod_string ht hx
  refine ⟨n, rfl, fun j hj hj' => ?_, hw⟩
  have : j = 0 := by simpa using hj
  subst this
  exact ⟨.v _, rfl⟩
theorem weightsAll_mem {e : TypeId} {d : DataW H} {n : Nat} : ∀ {l : List (DataW H)}, d ∈ l → n ∈ d.weights P e → n ∈ DataW.weightsAll P e l
  | x :: l, hd, hn => by
    unfold DataW.weightsAll
    rcases List.mem_cons.1 hd with rfl | hd
    · exact List.mem_append_left _ hn
    · exact List.mem_append_right _ (weightsAll_mem hd hn)
theorem list_choice {α : Type} {Q : Nat → α → Prop} : ∀ n, (∀ i, i < n → ∃ q, Q i q) → ∃ l : List α, l.length = n ∧ ∀ i (hi : i < l.length), Q i l[i] := by
  intro n
  induction n with
  | zero => exact fun _ => ⟨[], rfl, fun i hi => absurd hi (by simp)⟩
  | succ n ih =>
    intro h
    obtain ⟨l, h1, h2⟩ := ih fun i hi => h i (by omega)
    obtain ⟨q, hq⟩ := h n (by omega)
    refine ⟨l ++ [q], by simp [h1], fun i hi => ?_⟩
    by_cases hin : i < l.length
    · rw [List.getElem_append_left hin]; exact h2 i hin
    · have hi' : i = l.length := by simp at hi; omega
      subst hi'
      rw [List.getElem_append_right (Nat.le_refl _)]
      simp only [Nat.sub_self, List.getElem_cons_zero]
      rw [h1]; exact hq
theorem Rd_slice {t e : TypeId} {α : Type} {f : α → List C} {p : α → Prop} (ht : P.underlying t = some (.slice e)) {z : Nat} (hz : P.cellsOf e = z) (hz0 : 0 < z) (hby : 0 < P.bytesOf e) (he : Rd enc P w base sp hd e f p) :
    Rd enc P w base sp hd t (fun l : List α => [.li none (l.map f)]) (fun l => l.length ≤ reachBytes ∧ ∀ q ∈ l, p q) := fun fuel cs x hx hwt => by
  rcases DataW.trod_slice ht hx with ⟨rfl, _⟩ | ⟨a, len, cap, elems, rest, n, _, rfl, hxe, _, hl, hm, hlen, hel, _⟩
  · refine ⟨[], rfl, fun j hj hj' => ?_, by simp⟩
    have : j = 0 := by simpa using hj
    subst this
    exact ⟨nil_li, rfl⟩
  · subst hz
    have hwx : x.1.weights P t = ((elems.map (·.1)).length + (rest.map (·.1)).length) * P.bytesOf e :: (DataW.weightsAll P e (elems.map (·.1)) ++ DataW.weightsAll P e (rest.map (·.1))) := by
      rw [hxe]
      simp only [DataW.weights, ht]
    rw [hwx] at hwt
    have hlb : len ≤ reachBytes := by
      have h1 := hwt _ (List.mem_cons_self ..)
      have h2 : len * 1 ≤ ((elems.map (·.1)).length + (rest.map (·.1)).length) * P.bytesOf e := Nat.mul_le_mul (by simp; omega) hby
      omega
    have hch : ∀ i, i < len → ∃ q : α, ∃ cs' : List Value, w.cells? base (a.add (i * P.cellsOf e)) (P.cellsOf e) = some cs' ∧ (f q).length = cs'.length ∧ (∀ j (hj : j < (f q).length) (hj' : j < cs'.length), R w st0 gh0 (f q)[j] cs'[j] ∧ cs'[j].oneCell' = true) ∧ p q := by
      intro i hi
      have h1 := hel i hi
      have hi' : i < elems.length := by omega
      rw [List.getElem?_eq_getElem hi', Option.bind_eq_some_iff] at h1
      obtain ⟨cs', h2, h3⟩ := h1
      obtain ⟨q, h4, h5, h6⟩ := he _ _ _ h3 (fun n hn => hwt n (List.mem_cons_of_mem _ (List.mem_append_left _ (weightsAll_mem (List.mem_map.2 ⟨_, List.getElem_mem hi', rfl⟩) hn))))
      exact ⟨q, cs', h2, h4, h5, h6⟩
    obtain ⟨l, hll, hq⟩ := list_choice len hch
    refine ⟨l, rfl, fun j hj hj' => ?_, by omega, fun q hq' => ?_⟩
    · have : j = 0 := by simpa using hj
      subst this
      refine ⟨?_, rfl⟩
      show R w st0 gh0 (.li none (l.map f)) (.slice (some a) len cap)
      have hspot : 0 < len → a.spot = none := fun h0 => by
        obtain ⟨cs', h1, _⟩ := hq 0 (by omega)
        obtain ⟨_, h2, h3⟩ := World.cells?_some h1
        have h4 := h3 0 hz0
        rw [List.getElem?_eq_getElem (by omega)] at h4
        have h5 := World.cell?_spot h4
        simpa [Addr.add] using h5
      by_cases h0 : 0 < len
      · obtain ⟨b, off, spot⟩ := a
        have := hspot h0
        simp only at this
        subst this
        have hcell : ∀ i (hi : i < l.length) j (hj : j < (f l[i]).length), ∃ u, w.cell? ⟨b, off + (i * P.cellsOf e + j), none⟩ = some u ∧ R w st0 gh0 (f l[i])[j] u ∧ u.oneCell' = true := fun i hi j hj => by
          obtain ⟨cs', h1, h2, h3, _⟩ := hq i hi
          obtain ⟨_, h4, h5⟩ := World.cells?_some h1
          have h6 := h5 j (by omega)
          rw [List.getElem?_eq_getElem (by omega), Go.VS.add_none, Go.VS.add_none, Nat.add_assoc] at h6
          exact ⟨_, h6, h3 j hj (by omega)⟩
        have hget : ∀ i (hi : i < (l.map f).length), (l.map f)[i] = f (l[i]'(by simpa using hi)) := fun i hi => by simp
        refine .li none (l.map f) (some ⟨b, off, none⟩) len cap ⟨b, off, none⟩ (P.cellsOf e) (fun i j => (w.cell? ⟨b, off + (i * P.cellsOf e + j), none⟩).getD undef) (by simp [hll]) hm hl (fun y hy => ?_) (fun _ => rfl) rfl (fun i j hi hj => ?_) (fun i j hi hj => ?_) (fun i j hi hj => ?_) (fun r hr => by cases hr)
        · obtain ⟨q, hq1, rfl⟩ := List.mem_map.1 hy
          obtain ⟨i, hi, rfl⟩ := List.getElem_of_mem hq1
          obtain ⟨cs', h1, h2, _⟩ := hq i hi
          obtain ⟨_, h4, _⟩ := World.cells?_some h1
          omega
        · obtain ⟨u, h1, _⟩ := hcell i (by simpa using hi) j (by simpa using hj)
          simp only [h1, Option.getD_some]
          exact ⟨trivial, not_own0 _⟩
        · obtain ⟨u, h1, h2, _⟩ := hcell i (by simpa using hi) j (by simpa using hj)
          simp only [h1, Option.getD_some]
          simpa using h2
        · obtain ⟨u, h1, _, h3⟩ := hcell i (by simpa using hi) j (by simpa using hj)
          simp only [h1, Option.getD_some]
          exact h3
      · have hl0 : l = [] := List.eq_nil_of_length_eq_zero (by omega)
        subst hl0
        exact .li none [] (some a) len cap ⟨0, 0, none⟩ 0 (fun _ _ => undef) (by simp; omega) hm hl (by simp) (fun h => absurd h h0) rfl (by simp) (by simp) (by simp) (fun r hr => by cases hr)
    · obtain ⟨i, hi, rfl⟩ := List.getElem_of_mem hq'
      obtain ⟨_, _, _, _, h⟩ := hq i hi
      exact h
theorem Rd_struct2 {t : TypeId} {f0 f1 : Field} {α β : Type} {g0 : α → List C} {g1 : β → List C} {p0 : α → Prop} {p1 : β → Prop} (ht : P.underlying t = some (.struct #[f0, f1])) {z0 z1 : Nat} (hz0 : P.cellsOf f0.type = z0) (hz1 : P.cellsOf f1.type = z1) (ho0 : f0.offset = 0) (ho1 : f1.offset = z0) (hz : P.cellsOf t = z0 + z1)
    (h0 : Rd enc P w base sp hd f0.type g0 p0) (h1 : Rd enc P w base sp hd f1.type g1 p1) : Rd enc P w base sp hd t (fun q : α × β => g0 q.1 ++ g1 q.2) (fun q => p0 q.1 ∧ p1 q.2) := fun fuel cs x hx hwt => by
  obtain ⟨y0, y1, n, hxe, hl, e0, e1⟩ := ChangeShapes.trod_struct2 ht hx
  have hwx : x.1.weights P t = y0.1.weights P f0.type ++ (y1.1.weights P f1.type ++ []) := by
    rw [hxe]
    simp [DataW.weights, DataW.weightsEach, ht]
  rw [hwx] at hwt
  obtain ⟨q0, a1, a2, a3⟩ := h0 _ _ _ e0 (fun n hn => hwt n (List.mem_append_left _ hn))
  obtain ⟨q1, b1, b2, b3⟩ := h1 _ _ _ e1 (fun n hn => hwt n (List.mem_append_right _ (List.mem_append_left _ hn)))
  rw [ho0, hz0] at a1 a2
  rw [ho1, hz1] at b1 b2
  have l0 : (List.take z0 (List.drop 0 cs)).length = z0 := by simp; omega
  have l1 : (List.take z1 (List.drop z0 cs)).length = z1 := by simp; omega
  refine ⟨(q0, q1), by simp; omega, fun j hj hj' => ?_, a3, b3⟩
  by_cases hjz : j < z0
  · have hj0 : j < (g0 q0).length := by omega
    have hg : (g0 q0 ++ g1 q1)[j]'hj = (g0 q0)[j] := List.getElem_append_left hj0
    have hc : (List.take z0 (List.drop 0 cs))[j]'(by omega) = cs[j] := by simp
    show R w st0 gh0 ((g0 q0 ++ g1 q1)[j]'hj) _ ∧ _
    rw [hg, ← hc]
    exact a2 j hj0 (by omega)
  · have hj1 : j - z0 < (g1 q1).length := by
      have : j < (g0 q0 ++ g1 q1).length := hj
      simp at this
      omega
    have hg : (g0 q0 ++ g1 q1)[j]'hj = (g1 q1)[j - z0] := by
      rw [List.getElem_append_right (by omega)]
      congr 1
      omega
    have hc : (List.take z1 (List.drop z0 cs))[j - z0]'(by omega) = cs[j] := by
      rw [List.getElem_take, List.getElem_drop]
      congr 1
      omega
    show R w st0 gh0 ((g0 q0 ++ g1 q1)[j]'hj) _ ∧ _
    rw [hg, ← hc]
    exact b2 (j - z0) hj1 (by omega)
end
end Go.VS
namespace Go.VS
open Go Go.ChangeShapes Go.WideShapes
section
variable {H : Type} {enc : TypeId × Value → H} {P : Program} {w w' : World} {s' : St} {g' : Gh}
theorem Step.heap0 (h : Step w st0 gh0 w' s' g') {k : Nat} (hk : k < w.heap.size) : w'.heap[k]? = w.heap[k]? := h.block k hk (not_ownB0 k)
theorem Step.same0 (h : Step w st0 gh0 w' s' g') {p : MemPlace} (hp : p.block < w.heap.size) : w.sameAt w' p := by
  have hh := h.heap0 hp
  cases p with
  | cell b o =>
    show w'.cell? ⟨b, o, none⟩ = w.cell? ⟨b, o, none⟩
    unfold World.cell?
    rw [show w'.heap[b]? = w.heap[b]? from hh]
  | map b => exact hh
theorem trodAll_carry {base : Nat} {sp : Nat → Bool} {hd : Bool} : ∀ {ts : List TypeId} {vs : List Value} {ds : List (DataW H)} {ps : List MemPlace}, DataW.TrodAll enc P w base sp hd ts vs ds ps → (∀ p ∈ ps, w.sameAt w' p) → DataW.TrodAll enc P w' base sp hd ts vs ds ps
  | [], [], [], _, h, _ => h
  | t :: ts, v :: vs, d :: ds, ps, ⟨p, q, h1, h2, h3⟩, hs => by
    subst h3
    obtain ⟨n, hn⟩ := h1
    exact ⟨p, q, ⟨n, DataW.trod_carry n _ _ _ hn fun x hx => hs x (List.mem_append_left _ hx)⟩, trodAll_carry h2 fun x hx => hs x (List.mem_append_right _ hx), rfl⟩
theorem keptBut0 (h : Step w st0 gh0 w' s' g') (may : MemPlace → Prop) : w.keptBut w' may := by
  refine ⟨h.os, h.output, fun i hi => ?_⟩
  rw [h.heap0 hi]
  exact (World.keptBut_refl w may).2.2 i hi
/-- A law: it hands back true, and what came in reads as it did. -/
theorem post_law {f : Func} {s : ChangeSpec} {apart fresh handsOn again : Bool} {args : Array Value} {v : Value} {ds : List (DataW H)} {before : List MemPlace} (K : Kids P (· < P.types.size)) (hfull : ∀ t e, t < P.types.size → P.underlying t = some (.slice e) → 0 < P.cellsOf e)
    (hvars : s.vars = []) (hW : DataW.Whole enc P f.params.toList s.vars apart w args.toList ds [] before) (hps : ∀ t ∈ f.params.toList, t < P.types.size) (hstep : Step w st0 gh0 w' s' g')
    (hres : ∀ (b : Nat) (sp : Nat → Bool) (hd : Bool), DataW.TrodAll enc P w' b sp hd f.resultTypes.toList (v.resultList f.resultTypes.size) (s.fn H (ds ++ [])).results [])
    (hargs : (s.fn H (ds ++ [])).args = ds) (hvs : (s.fn H (ds ++ [])).vars = [])
    (hok : ∀ (j : Nat) (t : TypeId) (r : Value), f.resultTypes[j]? = some t → (v.resultList f.resultTypes.size)[j]? = some r → Value.okWide P w' .any 0 t r) :
    s.post enc P f apart fresh handsOn again w args v w' := by
  have hlt := hW.lt
  obtain ⟨p, q, hA, hV, hpq, hz, hn⟩ := id hW
  rw [hvars] at hV
  obtain ⟨_, hq⟩ := trodVars_none hV
  subst hq
  rw [List.append_nil] at hpq
  subst hpq
  have hA' : ∀ sp : Nat → Bool, (∀ x ∈ before, sp x.block = true) → DataW.TrodAll enc P w' 0 sp true f.params.toList args.toList (s.fn H (ds ++ [])).args before := fun sp hsp => by
    rw [hargs]
    exact DataW.TrodAll.respare K hfull hps (trodAll_carry hA fun x hx => hstep.same0 (hlt x hx)) hsp
  have hVv : ∀ sp : Nat → Bool, DataW.TrodVars enc P w' sp s.vars (s.fn H (ds ++ [])).vars [] := fun sp => by rw [hvars, hvs]; rfl
  refine ⟨ds, [], before, [], before, [], hW, hres _ _ _, hA' _ (fun x hx => by simpa using hlt x hx), hVv _, keptBut0 hstep _, fun _ => ⟨hok, _, _, ([] ++ before) ++ [], ⟨[] ++ before, [], trodAll_append (hA' _ (fun _ _ => rfl)) (hres _ _ _), hVv _, rfl, ?_, ?_⟩, ?_⟩⟩
  · intro b off hp
    have hp' : MemPlace.cell b off ∈ before := by simpa using hp
    have h1 := hz b off hp'
    unfold World.frozen? at h1 ⊢
    rw [show w'.heap[b]? = w.heap[b]? from hstep.heap0 (hlt _ hp')]
    exact h1
  · intro ha
    simpa using hn ha
  · intro x hx _
    simpa using hx
end
end Go.VS
