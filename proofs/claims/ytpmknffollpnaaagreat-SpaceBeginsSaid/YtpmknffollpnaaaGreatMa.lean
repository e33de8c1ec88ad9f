/- The value layer, first half: what a slot holds, how it is related to memory, rules for operations, regions, blocks, loops and calls. No condition. -/
import Derived.WalkKit
import Derived.Laws.Sem
set_option linter.unusedVariables false
set_option linter.unusedSimpArgs false
namespace Go.VS
open Go

/-- What a slot, or a cell, is known to hold. 'v': just this value. 'li': a slice that is read, its elements told by their cells; with a token: it may be appended to. 'ep': a pointer to an element that is read. 'rs', 'rp': a slice over a row that may be written, and a pointer into it. -/
inductive C where
  | junk
  | v (x : Value)
  | li (tok : Option Nat) (es : List (List C))
  | ep (cs : List C) (off : Nat)
  | rs (b n : Nat)
  | rp (b i j : Nat)
  | agg (cs : List C)
  | tup (cs : List C)
  deriving Inhabited

/-- An association list, keyed by numbers. -/
def look {α : Type} : List (Nat × α) → Nat → Option α
  | [], _ => none
  | (k, a) :: r, b => if k = b then some a else look r b
def putAt {α : Type} : List (Nat × α) → Nat → α → List (Nat × α)
  | [], _, _ => []
  | (k, a) :: r, b, x => if k = b then (k, x) :: r else (k, a) :: putAt r b x
def del {α : Type} : List (Nat × α) → Nat → List (Nat × α)
  | [], _ => []
  | (k, a) :: r, b => if k = b then del r b else (k, a) :: del r b

theorem look_putAt {α : Type} (l : List (Nat × α)) (b : Nat) (x : α) (k : Nat) :
    look (putAt l b x) k = if k = b then (look l b).map (fun _ => x) else look l k := by
  induction l with
  | nil => simp [look, putAt]
  | cons p r ih =>
    obtain ⟨q, a⟩ := p
    simp only [putAt]
    by_cases h : q = b
    · subst h
      simp only [if_true, look]
      by_cases hk : q = k
      · subst hk; simp
      · have : ¬ k = q := fun e => hk e.symm
        simp [hk, this]
    · simp only [h, if_false, look]
      by_cases hk : q = k
      · subst hk; simp [h]
      · simp only [hk, if_false, ih]
theorem look_del {α : Type} (l : List (Nat × α)) (b k : Nat) : look (del l b) k = if k = b then none else look l k := by
  induction l with
  | nil => simp [look, del]
  | cons p r ih =>
    obtain ⟨q, a⟩ := p
    simp only [del]
    by_cases h : q = b
    · subst h
      simp only [if_true, ih, look]
      by_cases hk : k = q
      · simp [hk]
      · have : ¬ q = k := fun e => hk e.symm
        simp [hk, this]
    · simp only [h, if_false, look, ih]
      by_cases hk : q = k
      · subst hk; simp [h]
      · simp [hk]

/-- What is no cells: a map of ints, or whatever just as it lies. -/
inductive Oth where
  | map (m : List (Int × Int))
  | raw (o : Obj)
def ncell : Obj → Bool
  | .cells _ _ _ => false
  | _ => true
/-- The memory of the call's own: variables and structs by their cells; rows that may be written, by their elements; tokens: how long a slice is that may be appended to. -/
structure St where
  objs : List (Nat × List C)
  rows : List (Nat × (Nat × List (List C)))
  toks : List (Nat × (Nat × Nat))
  maps : List (Nat × Oth)

/-- Where the tokens' rows lie; how many places a row of ours has; how many cells its elements have. -/
structure Gh where
  tb : Nat → Option (Nat × Nat × Nat)
  rc : Nat → Nat
  rz : Nat → Nat
  nt : Nat

def own (s : St) (g : Gh) (a : Addr) : Prop :=
  (look s.objs a.block).isSome ∨ (look s.rows a.block).isSome ∨
    ∃ r z L b o c, look s.toks r = some (z, L) ∧ g.tb r = some (b, o, c) ∧ a.block = b ∧ o + L * z ≤ a.off
/-- Is something of a block ours? -/
def ownB (s : St) (g : Gh) (k : Nat) : Prop :=
  (look s.objs k).isSome ∨ (look s.rows k).isSome ∨ (∃ r zL o c, look s.toks r = some zL ∧ g.tb r = some (k, o, c)) ∨ (look s.maps k).isSome
theorem own.block {s : St} {g : Gh} {a : Addr} (h : own s g a) : ownB s g a.block := by
  rcases h with h | h | ⟨r, z, L, b, o, c, h1, h2, rfl, _⟩
  · exact .inl h
  · exact .inr (.inl h)
  · exact .inr (.inr (.inl ⟨r, _, o, c, h1, h2⟩))

/-- What a token says of a slice that bears it. -/
def TK (s : St) (g : Gh) (r : Nat) (es : List (List C)) (v : Value) : Prop :=
  r < g.nt ∧ ∀ z L, look s.toks r = some (z, L) → es.length ≤ L ∧ (es.length = L → (∀ e ∈ es, e.length = z) ∧
    match g.tb r with
    | none => v = .slice none 0 0
    | some (b, o, c) => v = .slice (some ⟨b, o, none⟩) es.length c)

/-- A value, or a cell, is as 'C' tells it. 'O': what may still be written. -/
inductive VR (w : World) (O : Addr → Prop) (T : Nat → List (List C) → Value → Prop) (g : Gh) : C → Value → Prop
  | junk (x : Value) : VR w O T g .junk x
  | v (x : Value) : VR w O T g (.v x) x
  | li (tok : Option Nat) (es : List (List C)) (A : Option Addr) (n cap : Nat) (ad : Addr) (z : Nat) (u : Nat → Nat → Value)
      (hn : es.length = n) (hm : cap ≤ maxLen) (hcap : n ≤ cap) (hz : ∀ e ∈ es, e.length = z) (hA : 0 < n → A = some ad) (hs : ad.spot = none)
      (hc : ∀ (i j : Nat) (hi : i < es.length) (hj : j < (es[i]).length), w.cell? ⟨ad.block, ad.off + (i * z + j), none⟩ = some (u i j) ∧ ¬ O ⟨ad.block, ad.off + (i * z + j), none⟩)
      (hr : ∀ (i j : Nat) (hi : i < es.length) (hj : j < (es[i]).length), VR w O T g ((es[i])[j]) (u i j))
      (ho : ∀ (i j : Nat) (hi : i < es.length) (hj : j < (es[i]).length), (u i j).oneCell' = true)
      (ht : ∀ r, tok = some r → T r es (.slice A n cap)) : VR w O T g (.li tok es) (.slice A n cap)
  | ep (cs : List C) (off : Nat) (ad : Addr) (u : Nat → Value) (hs : ad.spot = none)
      (hc : ∀ (j : Nat) (hj : j < cs.length), w.cell? ⟨ad.block, ad.off + j, none⟩ = some (u j) ∧ ¬ O ⟨ad.block, ad.off + j, none⟩)
      (hr : ∀ (j : Nat) (hj : j < cs.length), VR w O T g (cs[j]) (u j)) : VR w O T g (.ep cs off) (.pointer (some ⟨ad.block, ad.off + off, none⟩))
  | rs (b n : Nat) (hb : b < w.heap.size) (hn : n ≤ g.rc b) : VR w O T g (.rs b n) (.slice (some ⟨b, 0, none⟩) n (g.rc b))
  | rp (b i j : Nat) (hb : b < w.heap.size) : VR w O T g (.rp b i j) (.pointer (some ⟨b, i * g.rz b + j, none⟩))
  | agg (cs : List C) (vs : Array Value) (hn : vs.size = cs.length) (hr : ∀ (j : Nat) (hj : j < cs.length), VR w O T g (cs[j]) (vs[j]'(by omega))) : VR w O T g (.agg cs) (.agg vs)
  | tup (cs : List C) (vs : Array Value) (hn : vs.size = cs.length) (hr : ∀ (j : Nat) (hj : j < cs.length), VR w O T g (cs[j]) (vs[j]'(by omega))) : VR w O T g (.tup cs) (.tuple vs)

abbrev R (w : World) (s : St) (g : Gh) : C → Value → Prop := VR w (own s g) (TK s g) g

def MapRel (es : Array MapEntry) (m : List (Int × Int)) : Prop := es.toList.map (fun e => (e.key, e.val)) = m.map fun p => (Value.int .i64 p.1, Value.int .i64 p.2)
def OthRel : Obj → Oth → Prop
  | o, .map m => ∃ es clock, o = .map es clock ∧ MapRel es m
  | o, .raw o' => o = o'
structure StRel (w : World) (s : St) (g : Gh) : Prop where
  objs : ∀ b cs, look s.objs b = some cs → ∃ arr e, w.heap[b]? = some (.cells arr e (0, 0)) ∧ cs.length ≤ arr.size ∧
    ∀ (j : Nat) (hj : j < cs.length), ∃ u, arr[j]? = some u ∧ R w s g (cs[j]) u
  rows : ∀ b z es, look s.rows b = some (z, es) → ∃ arr e, w.heap[b]? = some (.cells arr e (0, 0)) ∧ g.rz b = z ∧ es.length ≤ g.rc b ∧ g.rc b * z ≤ arr.size ∧ g.rc b ≤ maxLen ∧
    (∀ x ∈ es, x.length = z) ∧ ∀ (i j : Nat) (hi : i < es.length) (hj : j < (es[i]).length), ∃ u, arr[i * z + j]? = some u ∧ R w s g ((es[i])[j]) u
  toks : ∀ r z L, look s.toks r = some (z, L) → r < g.nt ∧
    match g.tb r with
    | none => L = 0
    | some (b, o, c) => o = 0 ∧ (∃ arr e, w.heap[b]? = some (.cells arr e (0, 0)) ∧ o + c * z ≤ arr.size) ∧ L ≤ c ∧ c ≤ maxLen
  maps : ∀ b m, look s.maps b = some m → ∃ o, w.heap[b]? = some o ∧ ncell o = true ∧ OthRel o m
  d1 : ∀ b, (look s.objs b).isSome → (look s.rows b).isSome → False
  d2 : ∀ b r zL o c, look s.toks r = some zL → g.tb r = some (b, o, c) → (look s.objs b).isSome ∨ (look s.rows b).isSome → False
  d3 : ∀ b r zL o c r' zL' o' c', look s.toks r = some zL → g.tb r = some (b, o, c) → look s.toks r' = some zL' → g.tb r' = some (b, o', c') → r = r'

structure Step (w : World) (s : St) (g : Gh) (w' : World) (s' : St) (g' : Gh) : Prop where
  os : w'.os = w.os
  tape : w'.tape = w.tape
  output : w'.output = w.output
  size : w.heap.size ≤ w'.heap.size
  block : ∀ k, k < w.heap.size → ¬ ownB s g k → w'.heap[k]? = w.heap[k]?
  cell : ∀ a u, w.cell? a = some u → ¬ own s g a → w'.cell? a = some u ∧ ¬ own s' g' a
  mine : ∀ k, k < w.heap.size → ownB s' g' k → ownB s g k
  rc : ∀ k, k < w.heap.size → g'.rc k = g.rc k
  rz : ∀ k, k < w.heap.size → g'.rz k = g.rz k
  nt : g.nt ≤ g'.nt
  tk : ∀ r es v, TK s g r es v → TK s' g' r es v

theorem Step.refl (w : World) (s : St) (g : Gh) : Step w s g w s g :=
  ⟨rfl, rfl, rfl, Nat.le_refl _, fun _ _ _ => rfl, fun _ _ h h' => ⟨h, h'⟩, fun _ _ h => h, fun _ _ => rfl, fun _ _ => rfl, Nat.le_refl _, fun _ _ _ h => h⟩
theorem Step.trans {w w1 w2 : World} {s s1 s2 : St} {g g1 g2 : Gh} (h : Step w s g w1 s1 g1) (k : Step w1 s1 g1 w2 s2 g2) : Step w s g w2 s2 g2 :=
  ⟨k.os.trans h.os, k.tape.trans h.tape, k.output.trans h.output, Nat.le_trans h.size k.size,
   fun i hi ho => (k.block i (Nat.lt_of_lt_of_le hi h.size) fun hb => ho (h.mine i hi hb)).trans (h.block i hi ho),
   fun a u hu ho => let ⟨h1, h2⟩ := h.cell a u hu ho; k.cell a u h1 h2,
   fun i hi hb => h.mine i hi (k.mine i (Nat.lt_of_lt_of_le hi h.size) hb),
   fun i hi => (k.rc i (Nat.lt_of_lt_of_le hi h.size)).trans (h.rc i hi),
   fun i hi => (k.rz i (Nat.lt_of_lt_of_le hi h.size)).trans (h.rz i hi),
   Nat.le_trans h.nt k.nt, fun r es v h' => k.tk r es v (h.tk r es v h')⟩

/-- What a value is known to be, it is behind a step. -/
theorem VR.step {w w' : World} {s s' : St} {g g' : Gh} (h : Step w s g w' s' g') {c : C} {x : Value} (r : R w s g c x) : R w' s' g' c x := by
  induction r with
  | junk x => exact .junk x
  | v x => exact .v x
  | li tok es A n cap ad z u hn hm hcap hz hA hs hc hr ho ht ih =>
    exact .li tok es A n cap ad z u hn hm hcap hz hA hs (fun i j hi hj => h.cell _ _ (hc i j hi hj).1 (hc i j hi hj).2) ih ho (fun r hr => h.tk _ _ _ (ht r hr))
  | ep cs off ad u hs hc hr ih => exact .ep cs off ad u hs (fun j hj => h.cell _ _ (hc j hj).1 (hc j hj).2) ih
  | rs b n hb hn =>
    have e := h.rc b hb
    rw [← e]
    exact .rs b n (Nat.lt_of_lt_of_le hb h.size) (by omega)
  | rp b i j hb =>
    have e := h.rz b hb
    rw [← e]
    exact .rp b i j (Nat.lt_of_lt_of_le hb h.size)
  | agg cs vs hn hr ih => exact .agg cs vs hn ih
  | tup cs vs hn hr ih => exact .tup cs vs hn ih

end Go.VS
namespace Go.VS
open Go

def tsz (P : Program) (t : TypeId) : Nat := match P.info? t with | some i => i.size | none => 0
def tagg (P : Program) (t : TypeId) : Option Bool := match P.underlying t with
  | some (.struct _) => some true
  | some (.array _ _) => some true
  | some _ => some false
  | none => none
def tfo (P : Program) (t : TypeId) (k : Nat) : Option Nat := match P.underlying t with
  | some (.struct fs) => match fs[k]? with
    | some fd => if tsz P fd.type = 0 then none else some fd.offset
    | none => none
  | _ => none
def tel (P : Program) (t : TypeId) : Option Nat := match P.underlying t with
  | some (.slice e) => some e
  | _ => none
def tarr (P : Program) (t : TypeId) : Option (Nat × Nat) := match P.underlying t with
  | some (.array n e) => some (n, e)
  | _ => none
def tstr (P : Program) (t : TypeId) : Bool := match P.underlying t with
  | some .string => true
  | _ => false

def one : C → Bool
  | .junk => false
  | .v (.agg _) => false
  | .v (.tuple _) => false
  | .agg _ => false
  | .tup _ => false
  | _ => true
def cellsOf : C → List C
  | .agg cs => cs
  | c => [c]
def tzero (P : Program) (t : TypeId) : Option (List C) := match P.info? t with
  | some i => match i.zero with
    | some z => some (z.cells.toList.map .v)
    | none => none
  | none => none
/-- Cells written over others, from a place on. -/
def spl : List C → Nat → List C → List C
  | cs, _, [] => cs
  | cs, off, x :: xs => spl (cs.set off x) (off + 1) xs

/-- Many times the same. -/
def reps (n : Nat) (c : C) : List C := List.replicate n c
/-- A value that is wholly known. -/
def valsOf : List C → Option (List Value)
  | [] => some []
  | .v x :: r => match valsOf r with
    | some l => some (x :: l)
    | none => none
  | _ => none
def valOf : C → Option Value
  | .v x => some x
  | .agg cs => match valsOf cs with
    | some l => some (.agg l.toArray)
    | none => none
  | _ => none
/-- Where a part of a struct or an array lies, and how many cells it has. -/
def tpl (P : Program) (t : TypeId) (k : Nat) : Option (Nat × Nat) := match P.underlying t with
  | some (.struct fs) => match fs[k]? with
    | some fd => if (P.info? fd.type).isSome then some (fd.offset, tsz P fd.type) else none
    | none => none
  | some (.array _ e) => if (P.info? e).isSome then some (k * tsz P e, tsz P e) else none
  | _ => none
def tfa (P : Program) (t : TypeId) (k : Nat) : Option Bool := match P.underlying t with
  | some (.struct fs) => match fs[k]? with
    | some fd => tagg P fd.type
    | none => none
  | _ => none
def tplOk (P : Program) (t : TypeId) : Bool := match P.underlying t with
  | some (.struct fs) => fs.toList.all fun fd => (P.info? fd.type).isSome
  | some (.array _ e) => (P.info? e).isSome
  | _ => false
/-- Is a type one of interfaces? -/
def tifc (P : Program) (t : TypeId) : Option Bool := match P.underlying t with
  | some (.interface _) => some true
  | some _ => some false
  | none => none
def tbool (P : Program) (t : TypeId) : Bool := match P.underlying t with
  | some .bool => true
  | _ => false
def tint (P : Program) (t : TypeId) : Option IntKind := match P.underlying t with
  | some (.int k) => some k
  | _ => none

def cst : Value → C
  | .agg cs => .agg (cs.toList.map .v)
  | x => .v x
def evo (f : Nat → C) : Operand → C
  | .tmp t => f t
  | .const v => cst v
  | .global g => .v (.pointer (some ⟨g, 0, none⟩))
  | .func k => .v (.func (.func k) #[] #[])

/-- How many slots a function has; and whether its code runs in a round of a range over a function. -/
structure NR where
  n : Nat
  r : Option Nat
instance : CoeOut NR Nat := ⟨NR.n⟩
structure Env where
  f : Nat → C
  ds : List Deferred
def Env.set (E : Env) (d : Option Nat) (c : C) : Env := match d with
  | none => E
  | some d => ⟨fun t => if t = d then c else E.f t, E.ds⟩

structure Rel (w : World) (s : St) (g : Gh) (E : Env) (N : NR) (a : Act) : Prop where
  st : StRel w s g
  size : a.tmps.size = N
  ds : a.defers = E.ds
  f : ∀ t, R w s g (E.f t) (a.tmps.getD t undef)

section
variable {P : Program} {w : World} {s : St} {g : Gh} {E : Env} {N : NR} {a : Act}

theorem cst_rel (v : Value) : R w s g (cst v) v := by
  cases v with
  | agg cs => exact .agg _ _ (by simp [cst]) (fun j hj => by simpa using .v _)
  | _ => exact .v _
theorem Rel.evo (h : Rel w s g E N a) (x : Operand) : R w s g (evo E.f x) (a.eval x) := by
  cases x with
  | tmp t => exact h.f t
  | const v => exact cst_rel v
  | global k => exact .v _
  | func k => exact .v _

theorem VR.v_eq {O : Addr → Prop} {T : Nat → List (List C) → Value → Prop} {x v : Value} (h : VR w O T g (.v x) v) : v = x := by cases h; rfl

/-- Cells out of known cells. -/
def loadC (cs : List C) (off : Nat) (ag : Bool) (z : Nat) : Option C :=
  if ag then (if off + z ≤ cs.length then some (.agg ((cs.drop off).take z)) else none) else cs[off]?

theorem add_none (b o n : Nat) : (⟨b, o, none⟩ : Addr).add n = ⟨b, o + n, none⟩ := by
  unfold Addr.add; split <;> simp_all

theorem tagg_run {t : TypeId} {ag : Bool} (h : tagg P t = some ag) : (isAgg t).run P w = .ok ag w := by
  unfold tagg at h
  unfold isAgg underlying
  cases hu : P.underlying t with
  | none => simp [hu] at h
  | some d => rw [hu] at h; cases d <;> simp at h <;> subst h <;> simp [hu]
theorem tsz_run {t : TypeId} (h : (P.info? t).isSome) : (sizeOf t).run P w = .ok (tsz P t) w := by
  obtain ⟨i, hi⟩ := Option.isSome_iff_exists.1 h
  simp [sizeOf, typeInfo, tsz, hi]
theorem info_of_underlying {t : TypeId} {d : TypeDesc} (h : P.underlying t = some d) : (P.info? t).isSome := by
  unfold Program.underlying at h
  cases hi : P.info? t with
  | none => simp [hi] at h
  | some i => rfl
theorem info_of_tagg {t : TypeId} {ag : Bool} (h : tagg P t = some ag) : (P.info? t).isSome := by
  unfold tagg at h
  cases hu : P.underlying t with
  | none => simp [hu] at h
  | some d => exact info_of_underlying hu
/-- A load, the cells at hand. -/
theorem loadVar_run {t : TypeId} {ag : Bool} (h : tagg P t = some ag) (b o : Nat) (cs : List C) (off : Nat) (c : C) (u : Nat → Value) (hc : ∀ j (hj : j < cs.length), w.cell? ⟨b, o + j, none⟩ = some (u j) ∧ R w s g cs[j] (u j))
    (hl : loadC cs off ag (tsz P t) = some c) : ∃ v, (loadVar t ⟨b, o + off, none⟩).run P w = .ok v w ∧ R w s g c v := by
  unfold loadC at hl
  cases ag with
  | false =>
    simp at hl
    obtain ⟨hlt, rfl⟩ := List.getElem?_eq_some_iff.1 hl
    refine ⟨u off, ?_, (hc off hlt).2⟩
    simp [loadVar, tagg_run h, load, Sem.run, (hc off hlt).1]
  | true =>
    simp at hl
    obtain ⟨hle, rfl⟩ := hl
    refine ⟨.agg ((List.range (tsz P t)).map fun j => u (off + j)).toArray, ?_, ?_⟩
    · have hrun := run_loadCells (P := P) w ⟨b, o + off, none⟩ (tsz P t) (fun j => u (off + j)) (fun j hj => by rw [add_none, Nat.add_assoc]; exact (hc (off + j) (by omega)).1)
      simp [loadVar, tagg_run h, tsz_run (info_of_tagg h), hrun]
    · refine .agg _ _ (by simp; omega) (fun j hj => ?_)
      simp at hj
      simp
      exact (hc (off + j) (by omega)).2
end


def intOp (op : BinOp) (k : IntKind) (x y : Int) : Option C := match op with
  | .add => some (.v (.int k (k.wrap (x + y))))
  | .sub => some (.v (.int k (k.wrap (x - y))))
  | .mul => some (.v (.int k (k.wrap (x * y))))
  | .quo => if y = 0 then none else some (.v (.int k (k.wrap (x.tdiv y))))
  | .rem => if y = 0 then none else some (.v (.int k (x.tmod y)))
  | .eql => some (.v (.bool (x == y)))
  | .neq => some (.v (.bool (x != y)))
  | .lss => some (.v (.bool (x < y)))
  | .leq => some (.v (.bool (x ≤ y)))
  | .gtr => some (.v (.bool (x > y)))
  | .geq => some (.v (.bool (x ≥ y)))
  | _ => none
def strOp (op : BinOp) (x y : ByteArray) : Option C := match op with
  | .eql => some (.v (.bool (x.toList == y.toList)))
  | .neq => some (.v (.bool !(x.toList == y.toList)))
  | _ => none
def binC (op : BinOp) (x y : C) : Option C := match x, y with
  | .v (.int k a), .v (.int k' b) => if k = k' then intOp op k a b else none
  | .v (.string a), .v (.string b) => strOp op a b
  | .v (.bool a), .v (.bool b) => none
  | _, _ => none
/-- Comparisons that hang on the type. -/
def binT (P : Program) (op : BinOp) (t : TypeId) (yc : Bool) (x y : C) : Option C := match x, y with
  | .v (.bool a), .v (.bool b) => if tbool P t then (match op with
    | .eql => some (.v (.bool (a == b)))
    | .neq => some (.v (.bool (a != b)))
    | _ => none) else none
  | .v (.iface _ _), .v .nilIface => if tifc P t = some true then (match op with
    | .eql => some (.v (.bool false))
    | .neq => some (.v (.bool true))
    | _ => none) else none
  | .v .nilIface, .v .nilIface => if tifc P t = some true ∧ yc = true then (match op with
    | .eql => some (.v (.bool true))
    | .neq => some (.v (.bool false))
    | _ => none) else none
  | x, y => binC op x y
def isConst : Operand → Bool
  | .const _ => true
  | _ => false
/-- A struct or an array out of its parts. -/
def partsB (P : Program) (t : TypeId) (f : Nat → C) : List (Nat × Operand) → List C → Option (List C)
  | [], cs => some cs
  | (k, x) :: r, cs => match tpl P t k with
    | some (o, z) => if (cellsOf (evo f x)).all one ∧ (cellsOf (evo f x)).length = z ∧ o + z ≤ cs.length then partsB P t f r (spl cs o (cellsOf (evo f x))) else none
    | none => none
def minC (x y : C) : Option C := match x, y with
  | .v (.int k a), .v (.int k' b) => some (.v (.int k (if b < a then b else a)))
  | _, _ => none
def maxC (x y : C) : Option C := match x, y with
  | .v (.int k a), .v (.int k' b) => some (.v (.int k (if b > a then b else a)))
  | _, _ => none
def unC (op : UnOp) (x : C) : Option C := match op, x with
  | .not, .v (.bool b) => some (.v (.bool !b))
  | .neg, .v (.int k n) => some (.v (.int k (k.wrap (0 - n))))
  | _, _ => none
def lenC (x : C) : Option C := match x with
  | .li _ es => some (.v (.int .i64 (es.length : Int)))
  | .rs _ n => some (.v (.int .i64 (n : Int)))
  | .v (.slice _ n _) => some (.v (.int .i64 (n : Int)))
  | _ => none
def atC (s : St) (z : Nat) (x : C) (n : Int) : Option C := match x with
  | .li _ es => if 0 ≤ n then match es[n.toNat]? with | some e => if e.length = z then some (.ep e 0) else none | none => none else none
  | .rs b m => if 0 ≤ n ∧ n < m then match look s.rows b with | some (z', _) => if z' = z then some (.rp b n.toNat 0) else none | none => none else none
  | _ => none
def loC : Option C → Option Int
  | none => some 0
  | some (.v (.int _ n)) => if 0 ≤ n then some n else none
  | _ => none
def hiC (d : Nat) : Option C → Option Int
  | none => some d
  | some (.v (.int _ n)) => if n ≤ d then some n else none
  | _ => none
/-- The operations that only read. -/
def evRd (P : Program) (op : Op) (f : Nat → C) (s : St) : Option C := match op with
  | .move x | .assign x => some (evo f x)
  | .pick c x y => match evo f c with
    | .v (.bool t) => some (if t then evo f x else evo f y)
    | _ => none
  | .load t x => match tagg P t with
    | none => none
    | some ag => match evo f x with
      | .v (.pointer (some ⟨b, off, none⟩)) => match look s.objs b with
        | some cs => loadC cs off ag (tsz P t)
        | none => none
      | .ep cs off => loadC cs off ag (tsz P t)
      | .rp b i j => match look s.rows b with
        | some (_, es) => match es[i]? with
          | some cs => loadC cs j ag (tsz P t)
          | none => none
        | none => none
      | _ => none
  | .fieldAddr t x k => match tfo P t k with
    | none => none
    | some o => match evo f x with
      | .v (.pointer (some ⟨b, off, none⟩)) => some (.v (.pointer (some ⟨b, off + o, none⟩)))
      | .ep cs off => some (.ep cs (off + o))
      | .rp b i j => some (.rp b i (j + o))
      | _ => none
  | .nilCheck x => match evo f x with
    | .v (.pointer (some a)) => some (.v (.pointer (some a)))
    | .ep cs off => some (.ep cs off)
    | .rp b i j => some (.rp b i j)
    | _ => none
  | .indexAddr t x i => match evo f i with
    | .v (.int _ n) => match tel P t with
      | some e => if (P.info? e).isSome then atC s (tsz P e) (evo f x) n else none
      | none => match tarr P t, evo f x with
        | some (len, e), .v (.pointer (some ⟨b, off, none⟩)) => if 0 ≤ n ∧ n < len ∧ (P.info? e).isSome then some (.v (.pointer (some ⟨b, off + n.toNat * tsz P e, none⟩))) else none
        | _, _ => none
    | _ => none
  | .slice t x lo hi none => match evo f x with
    | .li tok es => match tel P t, loC (lo.map (evo f)), hiC es.length (hi.map (evo f)) with
      | some e, some l, some h => if l ≤ h ∧ (P.info? e).isSome ∧ (es.all fun x => x.length == tsz P e) then some (.li none ((es.take h.toNat).drop l.toNat)) else none
      | _, _, _ => none
    | .rs b n => match tel P t, loC (lo.map (evo f)), hiC n (hi.map (evo f)) with
      | some e, some l, some h => if l = 0 ∧ 0 ≤ h ∧ (P.info? e).isSome then some (.rs b h.toNat) else none
      | _, _, _ => none
    | _ => none
  | .binOp op t x y _ => binT P op t (isConst y) (evo f x) (evo f y)
  | .build t parts => match tzero P t with
    | some zs => if tplOk P t then match partsB P t f parts.toList zs with
        | some cs => some (.agg cs)
        | none => none
      else none
    | none => none
  | .makeFunc (.func k) first captured => match valsOf (first.toList.map (evo f)), valsOf (captured.toList.map (evo f)) with
    | some l, some l' => some (.v (.func (.func k) l.toArray l'.toArray))
    | _, _ => none
  | .makeInterface t x => if tifc P t = some false then match valOf (evo f x) with
      | some u => some (.v (.iface t u))
      | none => none
    else none
  | .typeAssert x _ t true => match evo f x with
    | .v (.iface t' u) => if t' = t ∧ tifc P t = some false then some (.tup [cst u, .v (.bool true)]) else none
    | _ => none
  | .field t x k => match tpl P t k, evo f x with
    | some (o, z), .agg cs => match tfa P t k with
      | some ag => loadC cs o ag z
      | none => none
    | _, _ => none
  | .convert t' t x => match tint P t', tint P t, evo f x with
    | some _, some k, .v (.int _ n) => some (.v (.int k (k.wrap n)))
    | _, _, _ => none
  | .call { callee := .builtin .min, args, argTypes := _ } => match args.toList with
    | [x, y] => minC (evo f x) (evo f y)
    | _ => none
  | .call { callee := .builtin .max, args, argTypes := _ } => match args.toList with
    | [x, y] => maxC (evo f x) (evo f y)
    | _ => none
  | .unOp op _ x => unC op (evo f x)
  | .extract x i => match evo f x with
    | .tup cs => cs[i]?
    | _ => none
  | .call { callee := .builtin .len, args, argTypes } => match args.toList, argTypes.toList with
    | [x], [t] => match tel P t with
      | some _ => lenC (evo f x)
      | none => match tstr P t, evo f x with
        | true, .v (.string b) => some (.v (.int .i64 (b.size : Int)))
        | _, _ => none
    | _, _ => none
  | _ => none

section
variable {P : Program} {w : World} {s : St} {g : Gh} {E : Env} {N : NR} {a : Act}
theorem intOp_run {op : BinOp} {k : IntKind} {x y : Int} {c : C} (h : intOp op k x y = some c) (hs : ∀ (h1 : op ≠ .shl) (h2 : op ≠ .shr), True) (t : TypeId) (ox oy : Operand) :
    ∃ v, (do eqGuard op t ox oy (.int k x) (.int k y); binOp op t (.int k x) (.int k y) : Sem Value).run P w = .ok v w ∧ R w s g c v := by
  cases op <;> simp [intOp] at h
  all_goals first
    | (subst h; exact ⟨_, by simp [eqGuard, binOp, Op.intArith, Op.intDiv, Op.intCmp], .v _⟩)
    | (obtain ⟨h0, h⟩ := h; subst h; exact ⟨_, by simp [eqGuard, binOp, Op.intArith, Op.intDiv, Op.intCmp, Op.intBits, h0], .v _⟩)
theorem strOp_run {op : BinOp} {x y : ByteArray} {c : C} (h : strOp op x y = some c) (t : TypeId) (ox oy : Operand) :
    ∃ v, (do eqGuard op t ox oy (.string x) (.string y); binOp op t (.string x) (.string y) : Sem Value).run P w = .ok v w ∧ R w s g c v := by
  cases op <;> simp [strOp] at h
  all_goals (subst h; exact ⟨_, by simp [eqGuard, binOp, Op.stringOp], .v _⟩)
theorem binC_run {op : BinOp} {x y c : C} {u v : Value} (h : binC op x y = some c) (hx : R w s g x u) (hy : R w s g y v) (t : TypeId) (ox oy : Operand) :
    ∃ r, (do eqGuard op t ox oy u v; binOp op t u v : Sem Value).run P w = .ok r w ∧ R w s g c r := by
  unfold binC at h
  split at h
  · rename_i k a k' b
    split at h
    · rename_i hk
      subst hk
      cases hx; cases hy
      exact intOp_run h (fun _ _ => trivial) t ox oy
    · cases h
  · cases hx; cases hy
    exact strOp_run h t ox oy
  · cases h
  · cases h
theorem unC_run {op : UnOp} {x c : C} {u : Value} (h : unC op x = some c) (hx : R w s g x u) :
    ∃ r, (Op.unary op u).run P w = .ok r w ∧ R w s g c r := by
  unfold unC at h
  split at h
  · cases hx; cases h; exact ⟨_, by simp [Op.unary], .v _⟩
  · cases hx; cases h; exact ⟨_, by simp [Op.unary, Op.intArith], .v _⟩
  · cases h

end
end Go.VS
namespace Go.VS
open Go
section
variable {P : Program} {w : World} {s : St} {g : Gh} {E : Env} {N : NR} {a : Act}

theorem tel_u {t e : TypeId} (ht : tel P t = some e) : P.underlying t = some (.slice e) := by
  unfold tel at ht
  split at ht
  · rename_i e' h'; cases ht; exact h'
  · cases ht
theorem tarr_u {t n e : TypeId} (ht : tarr P t = some (n, e)) : P.underlying t = some (.array n e) := by
  unfold tarr at ht
  split at ht
  · rename_i n' e' h'; cases ht; exact h'
  · cases ht
theorem tstr_u {t : TypeId} (ht : tstr P t = true) : P.underlying t = some .string := by
  unfold tstr at ht
  split at ht
  · rename_i h'; exact h'
  · cases ht

theorem VR.li_inv {tok : Option Nat} {es : List (List C)} {v : Value} (h : R w s g (.li tok es) v) : ∃ (A : Option Addr) (cap b o z : Nat) (u : Nat → Nat → Value),
    v = .slice A es.length cap ∧ cap ≤ maxLen ∧ es.length ≤ cap ∧ (∀ e ∈ es, e.length = z) ∧ (0 < es.length → A = some ⟨b, o, none⟩) ∧
    (∀ (i j : Nat) (hi : i < es.length) (hj : j < (es[i]).length), w.cell? ⟨b, o + (i * z + j), none⟩ = some (u i j) ∧ ¬ own s g ⟨b, o + (i * z + j), none⟩) ∧
    (∀ (i j : Nat) (hi : i < es.length) (hj : j < (es[i]).length), R w s g ((es[i])[j]) (u i j)) ∧ (∀ (i j : Nat) (hi : i < es.length) (hj : j < (es[i]).length), (u i j).oneCell' = true) ∧ (∀ r, tok = some r → TK s g r es v) := by
  cases h with
  | li _ _ A n cap ad z u hn hm hcap hz hA hs hc hr ho ht =>
    subst hn
    obtain ⟨b, o, sp⟩ := ad
    simp only at hs
    subst hs
    exact ⟨A, cap, b, o, z, u, rfl, hm, hcap, hz, hA, hc, hr, ho, ht⟩

theorem VR.ep_inv {cs : List C} {off : Nat} {v : Value} (h : R w s g (.ep cs off) v) : ∃ (ad : Addr) (u : Nat → Value), v = .pointer (some ⟨ad.block, ad.off + off, none⟩) ∧ ad.spot = none ∧
    (∀ (j : Nat) (hj : j < cs.length), w.cell? ⟨ad.block, ad.off + j, none⟩ = some (u j) ∧ ¬ own s g ⟨ad.block, ad.off + j, none⟩) ∧ (∀ (j : Nat) (hj : j < cs.length), R w s g (cs[j]) (u j)) := by
  cases h with
  | ep _ _ ad u hs hc hr => exact ⟨ad, u, rfl, hs, hc, hr⟩
theorem VR.rp_inv {b i j : Nat} {v : Value} (h : R w s g (.rp b i j) v) : v = .pointer (some ⟨b, i * g.rz b + j, none⟩) ∧ b < w.heap.size := by
  cases h with
  | rp _ _ _ hb => exact ⟨rfl, hb⟩
theorem VR.rs_inv {b n : Nat} {v : Value} (h : R w s g (.rs b n) v) : v = .slice (some ⟨b, 0, none⟩) n (g.rc b) ∧ b < w.heap.size ∧ n ≤ g.rc b := by
  cases h with
  | rs _ _ hb hn => exact ⟨rfl, hb, hn⟩
theorem VR.tup_inv {cs : List C} {v : Value} (h : R w s g (.tup cs) v) : ∃ (vs : Array Value) (hn : vs.size = cs.length), v = .tuple vs ∧ ∀ (j : Nat) (hj : j < cs.length), R w s g (cs[j]) (vs[j]'(by omega)) := by
  cases h with
  | tup _ vs hn hr => exact ⟨vs, hn, rfl, hr⟩
theorem VR.agg_inv {cs : List C} {v : Value} (h : R w s g (.agg cs) v) : ∃ (vs : Array Value) (hn : vs.size = cs.length), v = .agg vs ∧ ∀ (j : Nat) (hj : j < cs.length), R w s g (cs[j]) (vs[j]'(by omega)) := by
  cases h with
  | agg _ vs hn hr => exact ⟨vs, hn, rfl, hr⟩

theorem lenC_run {x c : C} {u : Value} {t e : TypeId} (ht : tel P t = some e) (h : lenC x = some c) (hx : R w s g x u) (ty : TypeId) :
    ∃ r, (Builtin.len_ #[t] ty #[u]).run P w = .ok r w ∧ R w s g c r := by
  have hu := run_underlying (tel_u ht)
  unfold lenC at h
  split at h
  · rename_i tok es; cases h; obtain ⟨A, cap, b, o, z, u, rfl, _⟩ := hx.li_inv; exact ⟨_, by simp [Builtin.len_, hu, goInt], .v _⟩
  · cases h; cases hx; exact ⟨_, by simp [Builtin.len_, hu, goInt], .v _⟩
  · cases h; cases hx; exact ⟨_, by simp [Builtin.len_, hu, goInt], .v _⟩
  · cases h

theorem atC_run {x c : C} {u : Value} {t e : TypeId} {k : IntKind} {n : Int} (hS : StRel w s g) (ht : tel P t = some e) (hi : (P.info? e).isSome) (h : atC s (tsz P e) x n = some c) (hx : R w s g x u) :
    ∃ r, (Instr.indexAt t u (.int k n)).run P w = .ok r w ∧ R w s g c r := by
  have hu := run_underlying (tel_u ht)
  have hsz := fun w : World => tsz_run (w := w) hi
  unfold atC at h
  split at h
  · rename_i tok es
    split at h
    · rename_i h0
      split at h
      · rename_i e' he
        split at h
        · rename_i hz'
          cases h
          obtain ⟨A, cap, ab, ao, z, uu, rfl, hm, hcap, hz, hA, hc, hr, ho, ht'⟩ := hx.li_inv
          obtain ⟨hlt, hee⟩ := List.getElem?_eq_some_iff.1 he
          obtain rfl := hA (by omega)
          have hzz : z = tsz P e := by rw [← hz', hz e' (List.mem_of_getElem? he)]
          subst hzz
          have hlt' : n < (es.length : Int) := by omega
          refine ⟨_, by simp [Instr.indexAt, asIntOf, hu, h0, hlt', hsz]; rfl, ?_⟩
          rw [add_none]
          refine .ep e' 0 ⟨ab, ao + n.toNat * tsz P e, none⟩ (fun j => uu n.toNat j) rfl (fun j hj => ?_) (fun j hj => ?_)
          · have := hc n.toNat j hlt (by rw [hee]; exact hj)
            simpa [Nat.add_assoc] using this
          · have := hr n.toNat j hlt (by rw [hee]; exact hj)
            simpa [hee] using this
        · cases h
      · cases h
    · cases h
  · rename_i b m
    split at h
    · rename_i hb
      split at h
      · rename_i z' es' hl
        split at h
        · rename_i hz
          cases h
          cases hx
          obtain ⟨arr, e', h1, h2, _⟩ := hS.rows _ _ _ hl
          subst hz
          have hlt' : n < (m : Int) := by omega
          rename_i hn hbs
          refine ⟨_, by simp [Instr.indexAt, asIntOf, hu, hb.1, hlt', hsz]; rfl, ?_⟩
          rw [add_none]
          have := VR.rp (w := w) (O := own s g) (T := TK s g) (g := g) b n.toNat 0 (by assumption)
          rw [h2] at this
          simpa using this
        · cases h
      · cases h
    · cases h
  · cases h

theorem sliceBound_run {k : IntKind} {i : Int} {y : Nat} {code : BoundsCode} (h0 : 0 ≤ i) (h1 : i ≤ y) :
    (Instr.sliceBound (.int k i) y code).run P w = .ok i.toNat w := by
  simp [Instr.sliceBound, asIntOf, h0, h1]
theorem loC_run {o : Option C} {v : Option Value} {l : Int} (h : loC o = some l) (hv : ∀ c, o = some c → ∃ x, v = some x ∧ R w s g c x) (hn : o = none → v = none) (y : Nat) (hy : l ≤ y) (code : BoundsCode) :
    (match v with | some v => Instr.sliceBound v y code | none => (pure 0 : Sem Nat)).run P w = .ok l.toNat w ∧ 0 ≤ l := by
  unfold loC at h
  split at h
  · cases h; rw [hn rfl]; exact ⟨rfl, Int.le_refl _⟩
  · split at h
    · rename_i h0
      cases h
      obtain ⟨x, rfl, hx⟩ := hv _ rfl
      cases hx
      exact ⟨sliceBound_run h0 hy, h0⟩
    · cases h
  · cases h
theorem bounds_run {lo hi : Option C} {vl vh : Option Value} {l h : Int} {n cap : Nat} (hl : loC lo = some l) (hh : hiC n hi = some h) (hle : l ≤ h) (hcap : n ≤ cap)
    (hv : ∀ c, lo = some c → ∃ x, vl = some x ∧ R w s g c x) (hn : lo = none → vl = none)
    (hv' : ∀ c, hi = some c → ∃ x, vh = some x ∧ R w s g c x) (hn' : hi = none → vh = none) :
    (Instr.sliceBounds true n cap vl vh none).run P w = .ok (l.toNat, h.toNat, cap) w ∧ 0 ≤ l ∧ h ≤ n := by
  have hl0 : 0 ≤ l := by
    unfold loC at hl
    split at hl
    · cases hl; omega
    · split at hl
      · cases hl; omega
      · cases hl
    · cases hl
  unfold hiC at hh
  split at hh
  · cases hh
    rw [hn' rfl]
    have := (loC_run (P := P) hl hv hn n hle .sliceB).1
    refine ⟨?_, hl0, Int.le_refl _⟩
    cases vl with
    | none => simp at this; simp [Instr.sliceBounds, this]
    | some v => simp at this; simp [Instr.sliceBounds, this]
  · split at hh
    · rename_i hb
      cases hh
      obtain ⟨x, rfl, hx⟩ := hv' _ rfl
      cases hx
      have h1 := (loC_run (P := P) hl hv hn h.toNat (by omega) .sliceB).1
      have h2 := fun c : BoundsCode => sliceBound_run (P := P) (w := w) (k := ‹IntKind›) (i := h) (y := cap) (code := c) (by omega) (by omega)
      refine ⟨?_, hl0, hb⟩
      cases vl with
      | none => simp at h1; simp [Instr.sliceBounds, h1, h2]
      | some v => simp at h1; simp [Instr.sliceBounds, h1, h2]
    · cases hh
  · cases hh
theorem opt_rel (hR : Rel w s g E N a) (o : Option Operand) : (∀ c, o.map (evo E.f) = some c → ∃ x, o.map a.eval = some x ∧ R w s g c x) ∧ (o.map (evo E.f) = none → o.map a.eval = none) := by
  cases o with
  | none => simp
  | some x =>
    simp only [Option.map_some]
    exact ⟨fun c hc => by injection hc with hc; subst hc; exact ⟨_, rfl, hR.evo x⟩, fun h => by cases h⟩

theorem li_sub {w : World} {s : St} {g : Gh} {A : Option Addr} {n cap z : Nat} {ad : Addr} {es : List (List C)} {u : Nat → Nat → Value} (hn : es.length = n) (hm : cap ≤ maxLen) (hcap : n ≤ cap) (hz : ∀ e ∈ es, e.length = z) (hA : 0 < n → A = some ad) (hs : ad.spot = none)
    (hc : ∀ (i j : Nat) (hi : i < es.length) (hj : j < (es[i]).length), w.cell? ⟨ad.block, ad.off + (i * z + j), none⟩ = some (u i j) ∧ ¬ own s g ⟨ad.block, ad.off + (i * z + j), none⟩)
    (hr : ∀ (i j : Nat) (hi : i < es.length) (hj : j < (es[i]).length), R w s g ((es[i])[j]) (u i j))
    (ho : ∀ (i j : Nat) (hi : i < es.length) (hj : j < (es[i]).length), (u i j).oneCell' = true)
    (l h : Nat) (hlh : l ≤ h) (hh : h ≤ n) (z' : Nat) (hzz : es ≠ [] → z' = z) :
    R w s g (.li none ((es.take h).drop l)) (.slice (if cap = l then A else A.map (·.add (l * z'))) (h - l) (cap - l)) := by
  have hlen : ((es.take h).drop l).length = h - l := by simp; omega
  refine .li none _ _ _ _ ⟨ad.block, ad.off + l * z, none⟩ z (fun i j => u (l + i) j) hlen (by omega) (by omega) (fun e he => hz e (List.mem_of_mem_take (List.mem_of_mem_drop he))) (fun hp => ?_) rfl (fun i j hi hj => ?_) (fun i j hi hj => ?_) (fun i j hi hj => ?_) (fun r hr => by cases hr)
  · have h1 : es ≠ [] := by intro e; subst e; simp at hn; omega
    rw [if_neg (by omega), hA (by omega), hzz h1]
    obtain ⟨ab, ao, as⟩ := ad
    simp only at hs
    subst hs
    simp [add_none]
  · have e1 : ((es.take h).drop l)[i] = es[l + i]'(by omega) := by simp
    have := hc (l + i) j (by omega) (by rw [← e1]; exact hj)
    have e2 : ad.off + l * z + (i * z + j) = ad.off + ((l + i) * z + j) := by rw [Nat.add_mul]; omega
    simp only [e2]
    exact this
  · have e1 : ((es.take h).drop l)[i] = es[l + i]'(by omega) := by simp
    have := hr (l + i) j (by omega) (by rw [← e1]; exact hj)
    simpa [e1] using this
  · have e1 : ((es.take h).drop l)[i] = es[l + i]'(by omega) := by simp
    exact ho (l + i) j (by omega) (by rw [← e1]; exact hj)

theorem isSlice_of_hsz {P : Program} {t : TypeId} (h : (P.info? t).isSome) (w : World) : (sizeOf t).run P w = .ok (tsz P t) w := tsz_run h

/-- THE MACHINE DOES WHAT evRd SAYS. -/
theorem one_val {c : C} {v : Value} (h : one c = true) (hr : R w s g c v) : v.oneCell' = true := by
  cases hr with
  | v => cases v <;> simp_all [one, Value.oneCell']
  | _ => simp_all [one, Value.oneCell']

theorem spl_length (xs : List C) : ∀ (cs : List C) (off : Nat), (spl cs off xs).length = cs.length := by
  induction xs with
  | nil => intro cs off; rfl
  | cons x xs ih => intro cs off; simp [spl, ih]
theorem spl_get (xs : List C) : ∀ (cs : List C) (off j : Nat), off + xs.length ≤ cs.length →
    (spl cs off xs)[j]? = if off ≤ j ∧ j < off + xs.length then xs[j - off]? else cs[j]? := by
  induction xs with
  | nil => intro cs off j _; simp [spl]; omega
  | cons x xs ih =>
    intro cs off j h
    simp only [List.length_cons] at h
    simp only [spl, List.length_cons]
    rw [ih _ _ _ (by simp; omega)]
    by_cases h1 : j = off
    · subst h1; rw [if_neg (by omega), if_pos (by omega), List.getElem?_set_self (by omega)]; simp
    · by_cases h2 : off + 1 ≤ j ∧ j < off + 1 + xs.length
      · rw [if_pos h2, if_pos (by omega)]
        have : j - off = (j - (off + 1)) + 1 := by omega
        rw [this, List.getElem?_cons_succ]
      · rw [if_neg h2, if_neg (by omega), List.getElem?_set_ne (fun e => h1 e.symm)]

theorem cellsOf_vals {x : C} {v : Value} (hx : R w s g x v) (hone : (cellsOf x).all one = true) :
    v.cells.size = (cellsOf x).length ∧ (∀ (j : Nat) (hj : j < (cellsOf x).length), ∃ u, v.cells[j]? = some u ∧ R w s g ((cellsOf x)[j]) u ∧ u.oneCell' = true) := by
  cases x with
  | agg cs =>
    obtain ⟨vs, hn, rfl, hr⟩ := hx.agg_inv
    simp only [cellsOf] at *
    exact ⟨hn, fun j hj => ⟨vs[j]'(by omega), by simp [Value.cells, hn, hj], hr j hj, one_val (List.all_eq_true.1 hone _ (List.getElem_mem hj)) (hr j hj)⟩⟩
  | _ =>
    simp only [cellsOf, List.all_cons, List.all_nil, Bool.and_true] at hone
    have h1 := one_val hone hx
    have hc : v.cells = #[v] := by cases v <;> simp_all [Value.cells, Value.oneCell']
    refine ⟨by simp [hc, cellsOf], fun j hj => ?_⟩
    obtain rfl : j = 0 := by simp [cellsOf] at hj; exact hj
    exact ⟨v, by simp [hc], by simpa [cellsOf] using hx, h1⟩

theorem vals_of {x : C} {v : Value} (hx : R w s g x v) (hone : (cellsOf x).all one = true) :
    (∀ u ∈ v.cells.toList, u.oneCell' = true) ∧ v.cells.toList.length = (cellsOf x).length ∧ ∀ (j : Nat) (hj : j < (cellsOf x).length), ∃ u, v.cells.toList[j]? = some u ∧ R w s g ((cellsOf x)[j]) u := by
  obtain ⟨h1, h2⟩ := cellsOf_vals hx hone
  refine ⟨fun u hu => ?_, by simpa using h1, fun j hj => ?_⟩
  · obtain ⟨j, hj, rfl⟩ := List.getElem_of_mem hu
    obtain ⟨u', h3, _, h4⟩ := h2 j (by simpa [h1] using hj)
    simp at hj
    rw [Array.getElem?_eq_getElem hj] at h3
    simp at h3
    simpa [h3] using h4
  · obtain ⟨u, h3, h4, _⟩ := h2 j hj
    exact ⟨u, by simpa using h3, h4⟩

theorem zipfold_get (vs : List Value) : ∀ (k off : Nat) (cs : Array Value) (j : Nat), off + k + vs.length ≤ cs.size →
    ((vs.zipIdx k).foldl (fun cs p => cs.setIfInBounds (off + p.2) p.1) cs).size = cs.size ∧
    ((vs.zipIdx k).foldl (fun cs p => cs.setIfInBounds (off + p.2) p.1) cs)[j]? = if off + k ≤ j ∧ j < off + k + vs.length then vs[j - (off + k)]? else cs[j]? := by
  induction vs with
  | nil => intro k off cs j _; simp; omega
  | cons v vs ih =>
    intro k off cs j h
    simp only [List.length_cons] at h
    simp only [List.zipIdx_cons, List.foldl_cons]
    obtain ⟨h1, h2⟩ := ih (k + 1) off (cs.setIfInBounds (off + k) v) j (by simp; omega)
    refine ⟨by rw [h1]; simp, ?_⟩
    rw [h2]
    by_cases hj : j = off + k
    · subst hj
      rw [if_neg (by omega), if_pos (by simp), Array.getElem?_setIfInBounds_self_of_lt (by omega)]
      simp
    · rw [Array.getElem?_setIfInBounds_ne (fun e => hj e.symm)]
      by_cases hin : off + k ≤ j ∧ j < off + k + (vs.length + 1)
      · rw [if_pos (by omega), if_pos (by simpa using hin)]
        have : j - (off + k) = (j - (off + (k + 1))) + 1 := by omega
        rw [this, List.getElem?_cons_succ]
      · rw [if_neg (by omega), if_neg (by simpa using hin)]

theorem tbool_u {t : TypeId} (ht : tbool P t = true) : P.underlying t = some .bool := by
  unfold tbool at ht
  split at ht
  · rename_i h'; exact h'
  · cases ht
theorem tint_u {t : TypeId} {k : IntKind} (ht : tint P t = some k) : P.underlying t = some (.int k) := by
  unfold tint at ht
  split at ht
  · rename_i h'; cases ht; exact h'
  · cases ht
theorem valsOf_rel : ∀ (cs : List C) (l : List Value), valsOf cs = some l → ∀ (vs : List Value), vs.length = cs.length → (∀ (j : Nat) (hj : j < cs.length) (hj' : j < vs.length), R w s g (cs[j]) (vs[j])) → vs = l := by
  intro cs
  induction cs with
  | nil => intro l h vs hn _; simp [valsOf] at h; subst h; exact List.eq_nil_of_length_eq_zero (by simpa using hn)
  | cons c cs ih =>
    intro l h vs hn hr
    cases c with
    | v x =>
      simp only [valsOf] at h
      split at h
      · rename_i l' hl'
        cases h
        cases vs with
        | nil => simp at hn
        | cons v vs =>
          have h0 := (hr 0 (by simp) (by simp)).v_eq
          simp only [List.getElem_cons_zero] at h0
          rw [h0, ih l' hl' vs (by simpa using hn) (fun j hj hj' => hr (j + 1) (Nat.succ_lt_succ hj) (Nat.succ_lt_succ hj'))]
      · cases h
    | _ => simp [valsOf] at h
theorem valOf_rel {c : C} {x v : Value} (h : valOf c = some x) (hr : R w s g c v) : v = x := by
  cases c with
  | v y => simp only [valOf, Option.some.injEq] at h; subst h; exact hr.v_eq
  | agg cs =>
    simp only [valOf] at h
    split at h
    · rename_i l hl
      cases h
      obtain ⟨vs, hn, rfl, hr'⟩ := hr.agg_inv
      have := valsOf_rel cs l hl vs.toList (by simpa using hn) (fun j hj hj' => by simpa using hr' j hj)
      rw [← this]
    · cases h
  | _ => simp [valOf] at h
theorem vals_rel (hR : Rel w s g E N a) {xs : Array Operand} {l : List Value} (h : valsOf (xs.toList.map (evo E.f)) = some l) : xs.map a.eval = l.toArray := by
  have := valsOf_rel (w := w) (s := s) (g := g) _ l h (xs.toList.map a.eval) (by simp) (fun j hj hj' => by simpa using hR.evo _)
  rw [← this, ← Array.toList_map]
theorem tifc_run {t : TypeId} {b : Bool} (h : tifc P t = some b) : ∃ d, P.underlying t = some d ∧ (b = true → ∃ ms, d = .interface ms) ∧ (b = false → ∀ ms, d ≠ .interface ms) := by
  unfold tifc at h
  cases hu : P.underlying t with
  | none => simp [hu] at h
  | some d => rw [hu] at h; cases d <;> simp at h <;> subst h <;> exact ⟨_, rfl, by simp, by simp⟩
theorem minC_run {x y c : C} {u v : Value} (h : minC x y = some c) (hx : R w s g x u) (hy : R w s g y v) (t : Array TypeId) (ty : TypeId) :
    ∃ r, (Builtin.min_ t ty #[u, v]).run P w = .ok r w ∧ R w s g c r := by
  unfold minC at h
  split at h
  · cases hx; cases hy; cases h; exact ⟨_, by simp [Builtin.min_, Builtin.min2], .v _⟩
  · cases h
theorem maxC_run {x y c : C} {u v : Value} (h : maxC x y = some c) (hx : R w s g x u) (hy : R w s g y v) (t : Array TypeId) (ty : TypeId) :
    ∃ r, (Builtin.max_ t ty #[u, v]).run P w = .ok r w ∧ R w s g c r := by
  unfold maxC at h
  split at h
  · cases hx; cases hy; cases h; exact ⟨_, by simp [Builtin.max_, Builtin.max2], .v _⟩
  · cases h
theorem eq_bool {t : TypeId} (a b : Bool) (h : P.underlying t = some .bool) : (Op.equal t (.bool a) (.bool b)).run P w = .ok (a == b) w := by
  unfold Op.equal Op.maxDepth
  exact run_equalIn_bool w 9999 t a b h
theorem eqIn_iface {t t' : TypeId} {v : Value} {ms} (d : Nat) (h : P.underlying t = some (.interface ms)) : (Op.equalIn (d + 1) t (.iface t' v) .nilIface).run P w = .ok false w := by
  simp [Op.equalIn, run_underlying h]
theorem eqIn_nil {t : TypeId} {ms} (d : Nat) (h : P.underlying t = some (.interface ms)) : (Op.equalIn (d + 1) t .nilIface .nilIface).run P w = .ok true w := by
  simp [Op.equalIn, run_underlying h]
theorem eq_iface {t t' : TypeId} {v : Value} {ms} (h : P.underlying t = some (.interface ms)) : (Op.equal t (.iface t' v) .nilIface).run P w = .ok false w := by
  unfold Op.equal Op.maxDepth
  exact eqIn_iface 9999 h
theorem eq_nil {t : TypeId} {ms} (h : P.underlying t = some (.interface ms)) : (Op.equal t .nilIface .nilIface).run P w = .ok true w := by
  unfold Op.equal Op.maxDepth
  exact eqIn_nil 9999 h
theorem binT_run {op : BinOp} {x y c : C} {u v : Value} {t : TypeId} {ox oy : Operand} (h : binT P op t (isConst oy) x y = some c) (hx : R w s g x u) (hy : R w s g y v) :
    ∃ r, (do eqGuard op t ox oy u v; binOp op t u v : Sem Value).run P w = .ok r w ∧ R w s g c r := by
  unfold binT at h
  split at h
  · cases hx; cases hy
    split at h
    · rename_i hb
      split at h
      · cases h; exact ⟨_, by simp [eqGuard, binOp, eq_bool _ _ (tbool_u hb)], .v _⟩
      · cases h; exact ⟨_, by simp only [eqGuard, binOp, Sem.run_bind, eq_bool _ _ (tbool_u hb)]; simp [bne], .v _⟩
      · cases h
    · cases h
  · cases hx; cases hy
    split at h
    · rename_i hb
      obtain ⟨d, hd, hi, _⟩ := tifc_run hb
      obtain ⟨ms, rfl⟩ := hi rfl
      split at h
      · cases h; exact ⟨_, by simp [eqGuard, binOp, eq_iface hd], .v _⟩
      · cases h; exact ⟨_, by simp [eqGuard, binOp, eq_iface hd], .v _⟩
      · cases h
    · cases h
  · cases hx; cases hy
    split at h
    · rename_i hb
      obtain ⟨d, hd, hi, _⟩ := tifc_run hb.1
      obtain ⟨ms, rfl⟩ := hi rfl
      cases oy with
      | const q =>
        split at h
        · cases h; exact ⟨_, by simp [eqGuard, binOp, eq_nil hd], .v _⟩
        · cases h; exact ⟨_, by simp [eqGuard, binOp, eq_nil hd], .v _⟩
        · cases h
      | _ => simp [isConst] at hb
    · cases h
  · exact binC_run h hx hy t ox oy

/-- Known cells. -/
def CellsRel (w : World) (s : St) (g : Gh) (cs : List C) (vs : Array Value) : Prop := vs.size = cs.length ∧ ∀ (j : Nat) (hj : j < cs.length), ∃ u, vs[j]? = some u ∧ R w s g (cs[j]) u
theorem CellsRel.spl {cs : List C} {vs : Array Value} (h : CellsRel w s g cs vs) {x : C} {v : Value} (hx : R w s g x v) (hone : (cellsOf x).all one = true) {o : Nat} (hl : o + (cellsOf x).length ≤ cs.length) :
    CellsRel w s g (spl cs o (cellsOf x)) (v.cells.zipIdx.foldl (fun cs (c, j) => cs.setIfInBounds (o + j) c) vs) := by
  obtain ⟨h1, h2⟩ := h
  obtain ⟨q1, q2, q3⟩ := vals_of hx hone
  have heq : v.cells.zipIdx.foldl (fun cs (c, j) => cs.setIfInBounds (o + j) c) vs = (v.cells.toList.zipIdx 0).foldl (fun cs p => cs.setIfInBounds (o + p.2) p.1) vs := by
    rw [← Array.foldl_toList]
    simp
  have hfold := fun j => zipfold_get v.cells.toList 0 o vs j (by rw [q2]; omega)
  rw [heq]
  refine ⟨by rw [(hfold 0).1, spl_length]; exact h1, fun j hj => ?_⟩
  rw [(hfold j).2]
  have hj' : (VS.spl cs o (cellsOf x))[j]? = some ((VS.spl cs o (cellsOf x))[j]) := List.getElem?_eq_getElem hj
  rw [spl_get _ _ _ _ hl] at hj'
  split
  · rename_i hin
    rw [if_pos (by omega)] at hj'
    obtain ⟨hj2, hj3⟩ := List.getElem?_eq_some_iff.1 hj'
    obtain ⟨u, h6, h7⟩ := q3 (j - o) hj2
    exact ⟨u, by simpa using h6, by rw [← hj3]; exact h7⟩
  · rename_i hin
    rw [if_neg (by omega)] at hj'
    obtain ⟨hj2, hj3⟩ := List.getElem?_eq_some_iff.1 hj'
    obtain ⟨u, h6, h7⟩ := h2 j hj2
    exact ⟨u, h6, by rw [← hj3]; exact h7⟩
theorem partsB_run (hR : Rel w s g E N a) {t : TypeId} {place : Nat → Option (Nat × Nat)} (hp : ∀ k o z, tpl P t k = some (o, z) → place k = some (o, z)) : ∀ (ps : List (Nat × Operand)) (cs cs' : List C) (vs : Array Value),
    partsB P t E.f ps cs = some cs' → CellsRel w s g cs vs → ∃ vs', Instr.fill place vs (ps.map fun p => (p.1, a.eval p.2)) = some vs' ∧ CellsRel w s g cs' vs' := by
  intro ps
  induction ps with
  | nil => intro cs cs' vs h hr; simp only [partsB, Option.some.injEq] at h; subst h; exact ⟨vs, rfl, hr⟩
  | cons p ps ih =>
    intro cs cs' vs h hr
    obtain ⟨k, x⟩ := p
    simp only [partsB] at h
    split at h
    · rename_i o z htp
      split at h
      · rename_i hc
        obtain ⟨c1, c2, c3⟩ := hc
        obtain ⟨q1, q2, q3⟩ := vals_of (hR.evo x) c1
        obtain ⟨vs', h1, h2⟩ := ih _ _ _ h (hr.spl (hR.evo x) c1 (by omega))
        refine ⟨vs', ?_, h2⟩
        simp only [List.map_cons, Instr.fill, hp k o z htp]
        have q2' : (a.eval x).cells.size = z := by rw [← c2, ← q2]; simp
        have := hr.1
        rw [if_neg (by simp [q2']; omega)]
        exact h1
      · cases h
    · cases h
theorem tzero_run {t : TypeId} {zs : List C} (h : tzero P t = some zs) : ∃ z : Value, (zeroValue t).run P w = .ok z w ∧ CellsRel w s g zs z.cells := by
  unfold tzero at h
  split at h
  · rename_i i hi
    split at h
    · rename_i z hz
      cases h
      refine ⟨z, by simp [zeroValue, typeInfo, hi, hz], by simp, fun j hj => ?_⟩
      simp at hj
      exact ⟨z.cells[j], by simp [hj], by simpa using VR.v _⟩
    · cases h
  · cases h
theorem mapM_places (l : List Field) (h : ∀ f ∈ l, (P.info? f.type).isSome) : (l.mapM (m := Sem) fun f => do pure (f.offset, ← sizeOf f.type)).run P w = .ok (l.map fun f => (f.offset, tsz P f.type)) w := by
  induction l with
  | nil => simp
  | cons f l ih =>
    have h1 := tsz_run (w := w) (h f (by simp))
    have h2 := ih (fun x hx => h x (by simp [hx]))
    simp only [bind_pure_comp] at h2
    simp [List.mapM_cons, h1, h2]
theorem evRd_run {op : Op} {ty : TypeId} {c : C} (hR : Rel w s g E N a) (h : evRd P op E.f s = some c) (o : Oper) (ho : o.op = op) :
    ∃ v, (execOp a.eval o).run P w = .ok (.value v) w ∧ R w s g c v := by
  subst ho
  have hS := hR.st
  obtain ⟨dst, op, ty', pos, aft, gd⟩ := o
  simp only at h ⊢
  cases op with
  | move x => simp [evRd] at h; subst h; exact ⟨_, by simp [execOp], hR.evo x⟩
  | assign x => simp [evRd] at h; subst h; exact ⟨_, by simp [execOp], hR.evo x⟩
  | pick c x y =>
    simp only [evRd] at h
    split at h
    · rename_i t hc
      have h1 := hR.evo c
      rw [hc] at h1
      have h2 := h1.v_eq
      cases h
      cases t
      · exact ⟨_, by simp [execOp, h2, asBool]; rfl, by simpa using hR.evo y⟩
      · exact ⟨_, by simp [execOp, h2, asBool]; rfl, by simpa using hR.evo x⟩
    · cases h
  | load t x =>
    simp only [evRd] at h
    split at h
    · cases h
    · rename_i ag hag
      have hx := hR.evo x
      split at h
      · rename_i b off he
        rw [he] at hx
        have h2 := hx.v_eq
        split at h
        · rename_i cs hl
          obtain ⟨arr, e, h3, h4, h5⟩ := hS.objs _ _ hl
          have h5' : ∀ (j : Nat) (hj : j < cs.length), w.cell? ⟨b, 0 + j, none⟩ = some (arr.getD j undef) ∧ R w s g cs[j] (arr.getD j undef) := fun j hj => by
            obtain ⟨u, h6, h7⟩ := h5 j hj
            simp [World.cell?, h3, h6, h7]
          obtain ⟨v, h6, h7⟩ := loadVar_run (P := P) hag b 0 cs off c _ h5' h
          exact ⟨v, by simp only [Nat.zero_add] at h6; simp [execOp, Instr.loadAt, Instr.sureAddr, h2, h6], h7⟩
        · cases h
      · rename_i cs off he
        rw [he] at hx
        obtain ⟨ad, u, h2, hs, hc, hr⟩ := hx.ep_inv
        obtain ⟨v, h6, h7⟩ := loadVar_run (P := P) hag ad.block ad.off cs off c u (fun j hj => ⟨(hc j hj).1, hr j hj⟩) h
        exact ⟨v, by simp [execOp, Instr.loadAt, Instr.sureAddr, h2, h6], h7⟩
      · rename_i b i j he
        rw [he] at hx
        split at h
        · rename_i z es hl
          split at h
          · rename_i cs hcs
            obtain ⟨arr, e, h3, h4, h5, h6, h7, h8, h9⟩ := hS.rows _ _ _ hl
            obtain ⟨hi, hcs'⟩ := List.getElem?_eq_some_iff.1 hcs
            have h5' : ∀ (k : Nat) (hk : k < cs.length), w.cell? ⟨b, i * z + k, none⟩ = some (arr.getD (i * z + k) undef) ∧ R w s g cs[k] (arr.getD (i * z + k) undef) := fun k hk => by
              obtain ⟨u, h10, h11⟩ := h9 i k hi (by rw [hcs']; exact hk)
              simp [World.cell?, h3, h10]
              simpa [hcs'] using h11
            obtain ⟨v, h10, h11⟩ := loadVar_run (P := P) hag b (i * z) cs j c _ h5' h
            obtain ⟨h2, hb⟩ := hx.rp_inv
            exact ⟨v, by simp [execOp, Instr.loadAt, Instr.sureAddr, h2, h4, h10], h11⟩
          · cases h
        · cases h
      · cases h
  | fieldAddr t x k =>
    simp only [evRd] at h
    split at h
    · cases h
    · rename_i o hfo
      obtain ⟨fs, fd, h1, h2, h3, h4⟩ : ∃ fs fd, P.underlying t = some (.struct fs) ∧ fs[k]? = some fd ∧ tsz P fd.type ≠ 0 ∧ fd.offset = o := by
        unfold tfo at hfo
        split at hfo
        · rename_i fs hu
          split at hfo
          · rename_i fd hfd
            split at hfo
            · cases hfo
            · rename_i hz; cases hfo; exact ⟨fs, fd, hu, hfd, hz, rfl⟩
          · cases hfo
        · cases hfo
      have hi : (P.info? fd.type).isSome := by
        cases hi : P.info? fd.type with
        | none => simp [tsz, hi] at h3
        | some i => rfl
      have hrun : ∀ b off : Nat, (Instr.fieldAt t (.pointer (some ⟨b, off, none⟩)) k).run P w = .ok (.pointer (some ⟨b, off + o, none⟩)) w := fun b off => by
        simp [Instr.fieldAt, run_underlying h1, h2, Instr.sureAddr, fieldPlace, isSlice_of_hsz hi, h3, h4, add_none]
      have hx := hR.evo x
      split at h
      · rename_i b off he
        rw [he] at hx
        have h2 := hx.v_eq
        cases h
        exact ⟨_, by simp [execOp, h2, hrun], .v _⟩
      · rename_i cs off he
        rw [he] at hx
        cases h
        obtain ⟨ad, u, h2, hs, hc, hr⟩ := hx.ep_inv
        refine ⟨.pointer (some ⟨ad.block, ad.off + (off + o), none⟩), by simp [execOp, h2, hrun, Nat.add_assoc], .ep cs (off + o) ad u hs hc hr⟩
      · rename_i b i j he
        rw [he] at hx
        cases h
        obtain ⟨h2, hb⟩ := hx.rp_inv
        refine ⟨.pointer (some ⟨b, i * g.rz b + (j + o), none⟩), by simp [execOp, h2, hrun, Nat.add_assoc], .rp b i (j + o) hb⟩
      · cases h
  | nilCheck x =>
    simp only [evRd] at h
    have hx := hR.evo x
    split at h
    · rename_i ad he
      rw [he] at hx
      have h2 := hx.v_eq
      cases h
      exact ⟨_, by simp [execOp, h2], .v _⟩
    · rename_i cs off he
      rw [he] at hx
      cases h
      obtain ⟨ad, u, h2, hs, hc, hr⟩ := hx.ep_inv
      exact ⟨_, by simp [execOp, h2], .ep cs off ad u hs hc hr⟩
    · rename_i b i j he
      rw [he] at hx
      cases h
      obtain ⟨h2, hb⟩ := hx.rp_inv
      exact ⟨_, by simp [execOp, h2], .rp b i j hb⟩
    · cases h
  | indexAddr t x i =>
    simp only [evRd] at h
    have hx := hR.evo x
    split at h
    · rename_i k n hi
      have hi' := hR.evo i
      rw [hi] at hi'
      have hi2 := hi'.v_eq
      split at h
      · rename_i e hte
        split at h
        · rename_i hinf
          obtain ⟨r, h1, h2⟩ := atC_run (k := k) hS hte hinf h hx
          exact ⟨r, by simp [execOp, hi2, h1], h2⟩
        · cases h
      · split at h
        · rename_i len e b off hta he
          rw [he] at hx
          have h2 := hx.v_eq
          split at h
          · rename_i hb
            cases h
            refine ⟨_, by simp [execOp, hi2, h2, Instr.indexAt, asIntOf, run_underlying (tarr_u hta), Instr.sureAddr, hb.1, hb.2.1, isSlice_of_hsz hb.2.2]; rfl, ?_⟩
            rw [add_none]
            exact .v _
          · cases h
        · cases h
    · cases h
  | slice t x lo hi mx =>
    cases mx with
    | some m => simp [evRd] at h
    | none =>
    simp only [evRd] at h
    have hx := hR.evo x
    obtain ⟨l1, l2⟩ := opt_rel hR lo
    obtain ⟨l3, l4⟩ := opt_rel hR hi
    split at h
    · rename_i tok es he
      rw [he] at hx
      split at h
      · rename_i e l hh hte hlo hhi
        split at h
        · rename_i hb
          obtain ⟨hlh, hinf, hall⟩ := hb
          cases h
          obtain ⟨A, cap, b, o, z, u, hv, hm, hcap, hz, hA, hc, hr, ho, ht⟩ := hx.li_inv
          obtain ⟨h1, h2, h3⟩ := bounds_run (P := P) (cap := cap) hlo hhi hlh hcap l1 l2 l3 l4
          have hzz : es ≠ [] → tsz P e = z := fun hne => by
            cases es with
            | nil => exact absurd rfl hne
            | cons y ys =>
              have h4 := hz y (by simp)
              simp at hall
              rw [← h4, hall.1]
          refine ⟨_, ?_, li_sub rfl hm hcap hz hA rfl hc hr ho l.toNat hh.toNat (by omega) (by omega) (tsz P e) hzz⟩
          simp [execOp, Instr.sliceAt, hv, run_underlying (tel_u hte), Instr.slice, h1, isSlice_of_hsz hinf]
        · cases h
      · cases h
    · rename_i b n he
      rw [he] at hx
      split at h
      · rename_i e l hh hte hlo hhi
        split at h
        · rename_i hb
          obtain ⟨hl0, hh0, hinf⟩ := hb
          cases h
          obtain ⟨hv, hb, hn⟩ := hx.rs_inv
          subst hl0
          obtain ⟨h1, h2, h3⟩ := bounds_run (P := P) (cap := g.rc b) hlo hhi hh0 hn l1 l2 l3 l4
          have := VR.rs (w := w) (O := own s g) (T := TK s g) (g := g) b hh.toNat hb (by omega)
          refine ⟨_, ?_, this⟩
          simp [execOp, Instr.sliceAt, hv, run_underlying (tel_u hte), Instr.slice, h1, isSlice_of_hsz hinf, add_none]
        · cases h
      · cases h
    · cases h
  | binOp bop t x y yt =>
    simp only [evRd] at h
    obtain ⟨r, h1, h2⟩ := binT_run (P := P) (ox := x) (oy := y) h (hR.evo x) (hR.evo y)
    refine ⟨r, ?_, h2⟩
    simp only [execOp]
    rw [Sem.run_bind, h1]
    rfl
  | unOp u t x =>
    simp only [evRd] at h
    obtain ⟨r, h1, h2⟩ := unC_run (P := P) h (hR.evo x)
    exact ⟨r, by simp [execOp, h1], h2⟩
  | extract x i =>
    simp only [evRd] at h
    have hx := hR.evo x
    split at h
    · rename_i cs he
      rw [he] at hx
      obtain ⟨hi, rfl⟩ := List.getElem?_eq_some_iff.1 h
      obtain ⟨vs, hn, hv, hr⟩ := hx.tup_inv
      exact ⟨_, by simp [execOp, hv, Instr.extract, hn, hi], hr i hi⟩
    · cases h
  | call cl =>
    obtain ⟨callee, args, argTypes⟩ := cl
    cases callee with
    | builtin b =>
      cases b <;> simp only [evRd] at h
      case len =>
        split at h
        · rename_i x t hargs htypes
          obtain rfl : args = #[x] := by rw [← Array.toArray_toList (xs := args), hargs]
          obtain rfl : argTypes = #[t] := by rw [← Array.toArray_toList (xs := argTypes), htypes]
          split at h
          · rename_i e hte
            obtain ⟨r, h1, h2⟩ := lenC_run (P := P) hte h (hR.evo x) ty'
            exact ⟨r, by simp [execOp, resolve, invoke, builtin, h1], h2⟩
          · split at h
            · rename_i b hts he
              have hx := hR.evo x
              rw [he] at hx
              have h2 := hx.v_eq
              cases h
              exact ⟨_, by simp [execOp, resolve, invoke, builtin, Builtin.len_, run_underlying (tstr_u hts), h2, goInt], .v _⟩
            · cases h
        · cases h
      case min =>
        split at h
        · rename_i x y hargs
          obtain rfl : args = #[x, y] := by rw [← Array.toArray_toList (xs := args), hargs]
          obtain ⟨r, h1, h2⟩ := minC_run (P := P) h (hR.evo x) (hR.evo y) argTypes ty'
          exact ⟨r, by simp [execOp, resolve, invoke, builtin, h1], h2⟩
        · cases h
      case max =>
        split at h
        · rename_i x y hargs
          obtain rfl : args = #[x, y] := by rw [← Array.toArray_toList (xs := args), hargs]
          obtain ⟨r, h1, h2⟩ := maxC_run (P := P) h (hR.evo x) (hR.evo y) argTypes ty'
          exact ⟨r, by simp [execOp, resolve, invoke, builtin, h1], h2⟩
        · cases h
      all_goals cases h
    | value f => simp [evRd] at h
    | invoke r m => simp [evRd] at h
  | build t parts =>
    simp only [evRd] at h
    split at h
    · rename_i zs hz
      split at h
      · rename_i hok
        split at h
        · rename_i cs hp
          cases h
          obtain ⟨z, h1, h2⟩ := tzero_run (P := P) (w := w) (s := s) (g := g) hz
          unfold tplOk at hok
          split at hok
          · rename_i fs hu
            obtain ⟨vs', h3, h4⟩ := partsB_run (place := fun k => (fs.map fun f => (f.offset, tsz P f.type))[k]?) hR (fun k o z hk => by
              unfold tpl at hk
              rw [hu] at hk
              simp only at hk
              split at hk
              · rename_i fd hfd
                split at hk
                · cases hk; simp [hfd]
                · cases hk
              · cases hk) parts.toList zs cs z.cells hp h2
            have h5 := mapM_places (w := w) fs.toList (fun f hf => List.all_eq_true.1 hok f hf)
            refine ⟨.agg vs', ?_, .agg _ _ h4.1 (fun j hj => ?_)⟩
            · have h6 : (fs.mapM (m := Sem) fun f => do pure (f.offset, ← sizeOf f.type)).run P w = .ok (fs.map fun f => (f.offset, tsz P f.type)) w := by
                have : fs = fs.toList.toArray := by simp
                rw [this, List.mapM_toArray, Sem.run_map, h5]
                simp [← Array.toList_map]
              have h3' : Instr.fill (fun x => (fs.map fun f => (f.offset, tsz P f.type))[x]?) z.cells (parts.map fun p => (p.1, a.eval p.2)).toList = some vs' := by rw [Array.toList_map]; exact h3
              simp only [execOp, Instr.build, Sem.run_bind, h1, Result.andThen_ok, run_underlying hu, h6, h3', Sem.run_pure]
            · obtain ⟨u, h7, h8⟩ := h4.2 j hj
              rw [Array.getElem?_eq_getElem (by rw [h4.1]; exact hj)] at h7
              cases h7
              exact h8
          · rename_i n e hu
            obtain ⟨vs', h3, h4⟩ := partsB_run (place := fun k => some (k * tsz P e, tsz P e)) hR (fun k o z hk => by
              unfold tpl at hk
              rw [hu] at hk
              simp only [hok, if_true] at hk
              exact hk) parts.toList zs cs z.cells hp h2
            refine ⟨.agg vs', ?_, .agg _ _ h4.1 (fun j hj => ?_)⟩
            · have h3' : Instr.fill (fun k => some (k * tsz P e, tsz P e)) z.cells (parts.map fun p => (p.1, a.eval p.2)).toList = some vs' := by rw [Array.toList_map]; exact h3
              simp only [execOp, Instr.build, Sem.run_bind, h1, Result.andThen_ok, run_underlying hu, tsz_run hok, h3', Sem.run_pure]
            · obtain ⟨u, h7, h8⟩ := h4.2 j hj
              rw [Array.getElem?_eq_getElem (by rw [h4.1]; exact hj)] at h7
              cases h7
              exact h8
          · cases hok
        · cases h
      · cases h
    · cases h
  | makeFunc fn first captured =>
    cases fn with
    | func k =>
      simp only [evRd] at h
      split at h
      · rename_i l l' h1 h2
        cases h
        have e1 := vals_rel hR h1
        have e2 := vals_rel hR h2
        exact ⟨_, by simp only [execOp, Instr.makeFunc, e1, e2, Sem.run_bind, Sem.run_pure, Result.andThen_ok], .v _⟩
      · cases h
    | _ => simp [evRd] at h
  | makeInterface t x =>
    simp only [evRd] at h
    split at h
    · rename_i hb
      split at h
      · rename_i u hu
        cases h
        obtain ⟨d, hd, _, hi⟩ := tifc_run hb
        have := valOf_rel hu (hR.evo x)
        refine ⟨_, ?_, .v _⟩
        simp only [execOp, Instr.makeInterface, Sem.run_bind, run_underlying hd, Result.andThen_ok, this]
        split
        · exact absurd rfl (hi rfl _)
        · rfl
      · cases h
    · cases h
  | typeAssert x xt t ok =>
    cases ok with
    | false => simp [evRd] at h
    | true =>
      simp only [evRd] at h
      have hx := hR.evo x
      split at h
      · rename_i t' u he
        split at h
        · rename_i hc
          obtain ⟨rfl, hb⟩ := hc
          cases h
          rw [he] at hx
          have hv := hx.v_eq
          obtain ⟨d, hd, _, hi⟩ := tifc_run hb
          refine ⟨.tuple #[u, .bool true], ?_, .tup _ _ (by simp) (fun j hj => ?_)⟩
          · simp only [execOp, Instr.typeAssert, hv, Sem.run_bind, run_underlying hd, Result.andThen_ok]
            split <;> simp_all
          · match j, hj with
            | 0, _ => exact cst_rel u
            | 1, _ => exact .v _
        · cases h
      · cases h
  | field t x k =>
    simp only [evRd] at h
    have hx := hR.evo x
    split at h
    · rename_i o z cs htp he
      split at h
      · rename_i ag hag
        rw [he] at hx
        obtain ⟨vs, hn, hv, hr⟩ := hx.agg_inv
        unfold tpl at htp
        unfold tfa at hag
        split at htp
        · rename_i fs hu
          rw [hu] at hag
          simp only at hag
          split at htp
          · rename_i fd hfd
            rw [hfd] at hag
            simp only at hag
            split at htp
            · rename_i hinf
              cases htp
              simp only [execOp, hv, Instr.field, Sem.run_bind, run_underlying hu, Result.andThen_ok, hfd, asAgg, Sem.run_pure, part, tagg_run hag]
              unfold loadC at h
              cases ag with
              | true =>
                simp only [if_true] at h
                split at h
                · rename_i hle
                  cases h
                  refine ⟨.agg (vs.extract fd.offset (fd.offset + tsz P fd.type)), by simp [tsz_run hinf], .agg _ _ (by simp; omega) (fun j hj => ?_)⟩
                  simp at hj
                  simpa using hr (fd.offset + j) (by omega)
                · cases h
              | false =>
                simp only [Bool.false_eq_true, if_false] at h
                obtain ⟨hlt, rfl⟩ := List.getElem?_eq_some_iff.1 h
                refine ⟨vs[fd.offset]'(by omega), ?_, hr _ hlt⟩
                have : vs[fd.offset]? = some (vs[fd.offset]'(by omega)) := Array.getElem?_eq_getElem (by omega)
                simp [this]
            · cases htp
          · cases htp
        · rename_i n e hu
          rw [hu] at hag
          cases hag
        · cases htp
      · cases h
    · cases h
  | convert t1 t2 x =>
    simp only [evRd] at h
    have hx := hR.evo x
    split at h
    · rename_i k0 k k' n hk0 hk he
      cases h
      rw [he] at hx
      have hv := hx.v_eq
      exact ⟨.int k (k.wrap n), by simp only [execOp, convert, hv, Sem.run_bind, run_underlying (tint_u hk0), run_underlying (tint_u hk), Result.andThen_ok, Conv.intToInt, Sem.run_pure], .v _⟩
    · cases h
  | _ => simp [evRd] at h
end
end Go.VS
namespace Go.VS
open Go

/-- The fence that lets all by; in a round, if there is one. -/
def rf (r : Option Nat) : Fence := { Fence.wide with round := r }
theorem rf_fn (r : Option Nat) (k : Nat) : (rf r).fn k := trivial
theorem rf_depth (r : Option Nat) : ¬ ((rf r).depth.isSome = true) := by simp [rf, Fence.wide]
theorem rf_room (r : Option Nat) (n : Nat) : (rf r).room n := fun _ h => by simp [rf, Fence.wide] at h
theorem callsIn_rf {r : Option Nat} {n : Nat} {P : Program} {f : FuncId} {args : Array Value} {w : World} {R : Ending → World → Prop} (h : Calls P f args w R) : CallsIn (rf r) n P f args w R := callsIn_wide.2 h
abbrev Ends := Exit → Env → St → Prop

theorem wpIn_mono' {F : Fence} {n : Nat} {P : Program} {c : Code} {Q Q' : Exit → Act → World → Prop} {a : Act} {w : World} (hq : ∀ e a w, Q e a w → Q' e a w) (h : c.wpIn F n P Q a w) : c.wpIn F n P Q' a w := wpIn_mono h hq
def Post (w : World) (s : St) (g : Gh) (N : NR) (Q : Ends) : Exit → Act → World → Prop
  | .outgrown, _, _ => False
  | x, a', w' => ∃ E' s' g', Rel w' s' g' E' N a' ∧ Step w s g w' s' g' ∧ Q x E' s'

def W (P : Program) (N : NR) (c : Code) (E : Env) (s : St) (Q : Ends) : Prop :=
  ∀ w g a, Rel w s g E N a → c.wpIn (rf N.r) 0 P (Post w s g N Q) a w

def nextQ (K : Env → St → Prop) (Q : Ends) : Ends
  | .normal => K
  | x => Q x

section
variable {P : Program} {w w1 : World} {s s1 : St} {g g1 : Gh} {E E1 : Env} {N : NR} {a : Act} {Q Q' : Ends}

theorem Post.mono (hs : Step w s g w1 s1 g1) (hq : ∀ x E s, Q x E s → Q' x E s) {x : Exit} {a' : Act} {w' : World} (h : Post w1 s1 g1 N Q x a' w') : Post w s g N Q' x a' w' := by
  cases x <;> first
    | exact h
    | (obtain ⟨E', s', g', h1, h2, h3⟩ := h; exact ⟨E', s', g', h1, hs.trans h2, hq _ _ _ h3⟩)

theorem W.mono {c : Code} (h : W P N c E s Q) (hq : ∀ x E s, Q x E s → Q' x E s) : W P N c E s Q' :=
  fun w g a hr => wpIn_mono' (fun e a w hp => hp.mono (Step.refl _ _ _) hq) (h w g a hr)

theorem W_seq {x y : Code} (h : W P N x E s (nextQ (fun E' s' => W P N y E' s' Q) Q)) : W P N (.seq x y) E s Q := by
  intro w g a hr
  refine wpIn_seq (wpIn_mono' (fun e a1 w1 hp => ?_) (h w g a hr))
  cases e with
  | normal =>
    obtain ⟨E1, s1, g1, h1, h2, h3⟩ := hp
    exact wpIn_mono' (fun e a2 w2 hp => hp.mono h2 (fun _ _ _ h => h)) (h3 w1 g1 a1 h1)
  | outgrown => exact hp
  | _ => exact hp

theorem W_skip (h : Q .normal E s) : W P N .skip E s Q := fun w g a hr => wpIn_skip ⟨E, s, g, hr, Step.refl _ _ _, h⟩
theorem W_ret (h : Q .ret E s) : W P N .ret E s Q := fun w g a hr => wpIn_ret ⟨E, s, g, hr, Step.refl _ _ _, h⟩
theorem W_exit {id : Nat} (h : Q (.exit id) E s) : W P N (.exit id) E s Q := fun w g a hr => wpIn_exit ⟨E, s, g, hr, Step.refl _ _ _, h⟩

def boolC : C → Option Bool
  | .v (.bool t) => some t
  | _ => none
theorem W_cond {c : Operand} {x y : Code} {t : Bool} (hc : evo E.f c = .v (.bool t)) (h1 : t = true → W P N x E s Q) (h2 : t = false → W P N y E s Q) : W P N (.cond c x y) E s Q := by
  intro w g a hr
  have hx := hr.evo c
  rw [hc] at hx
  exact wpIn_cond_split hx.v_eq (fun h => h1 h w g a hr) (fun h => h2 h w g a hr)

def blockQ (id : Nat) (Q : Ends) : Ends
  | .exit id' => if id' = id then Q .normal else Q (.exit id')
  | x => Q x
theorem W_block {id : Nat} {c : Code} (h : W P N c E s (blockQ id Q)) : W P N (.block id c) E s Q := by
  intro w g a hr
  refine wpIn_block (wpIn_mono' (fun e a1 w1 hp => ?_) (h w g a hr))
  cases e with
  | exit id' =>
    obtain ⟨E1, s1, g1, h1, h2, h3⟩ := hp
    simp only [Exit.inBlock]
    simp only [blockQ] at h3
    split
    · rename_i he; simp only [he, if_true] at h3; exact ⟨E1, s1, g1, h1, h2, h3⟩
    · rename_i he; simp only [he, if_false] at h3; exact ⟨E1, s1, g1, h1, h2, h3⟩
  | outgrown => exact hp
  | _ => exact hp

theorem least_of {p : Nat → Prop} : ∀ n, p n → ∃ m, p m ∧ ∀ k, k < m → ¬ p k := by
  intro n
  induction n using Nat.strongRecOn with
  | _ n ih =>
    intro h
    by_cases hk : ∃ k, k < n ∧ p k
    · obtain ⟨k, h1, h2⟩ := hk; exact ih k h1 h2
    · exact ⟨n, h, fun k h1 h2 => hk ⟨k, h1, h2⟩⟩
open Classical in
noncomputable def leastOf (p : Nat → Prop) : Nat := if h : ∃ m, p m ∧ ∀ k, k < m → ¬ p k then Classical.choose h else 0
theorem leastOf_spec {p : Nat → Prop} (h : ∃ n, p n) : p (leastOf p) ∧ ∀ k, p k → leastOf p ≤ k := by
  obtain ⟨n, hn⟩ := h
  have h := least_of n hn
  unfold leastOf
  rw [dif_pos h]
  have hs := Classical.choose_spec h
  exact ⟨hs.1, fun k hk => Nat.le_of_not_lt fun hlt => hs.2 k hlt hk⟩

/-- A LOOP: what holds at the head of each round, with a number that each round lowers. -/
theorem W_loop {c : Code} (Inv : Nat → Env → St → Prop)
    (round : ∀ n E s, Inv n E s → W P N c E s (nextQ (fun E' s' => ∃ m, m < n ∧ Inv m E' s') Q)) {n : Nat} (h0 : Inv n E s) : W P N (.loop c) E s Q := by
  intro w g a hr
  let J : Nat → Act → World → Prop := fun n a1 w1 => ∃ E1 s1 g1, Rel w1 s1 g1 E1 N a1 ∧ Step w s g w1 s1 g1 ∧ Inv n E1 s1
  refine wpIn_loop (fun a1 w1 => ∃ n, J n a1 w1) (fun a1 w1 => leastOf fun n => J n a1 w1) ⟨n, E, s, g, hr, Step.refl _ _ _, h0⟩ ?_
  intro a1 w1 hI
  obtain ⟨E1, s1, g1, hr1, hs1, hinv⟩ := (leastOf_spec hI).1
  refine wpIn_mono' (fun e a2 w2 hp => ?_) (round _ E1 s1 hinv w1 g1 a1 hr1)
  cases e with
  | normal =>
    obtain ⟨E2, s2, g2, hr2, hs2, m, hm, hinv2⟩ := hp
    have hJ : J m a2 w2 := ⟨E2, s2, g2, hr2, hs1.trans hs2, hinv2⟩
    exact ⟨⟨m, hJ⟩, Nat.lt_of_le_of_lt ((leastOf_spec ⟨m, hJ⟩).2 m hJ) hm⟩
  | outgrown => exact hp
  | _ =>
    obtain ⟨E2, s2, g2, hr2, hs2, hq⟩ := hp
    exact ⟨E2, s2, g2, hr2, hs1.trans hs2, hq⟩

/-- A step on paper alone: the same world, told otherwise. -/
def Ghost (s s' : St) : Prop := ∀ w g, StRel w s g → ∃ g', StRel w s' g' ∧ Step w s g w s' g'
theorem Rel.step (hr : Rel w s g E N a) (hs : Step w s g w1 s1 g1) (h1 : StRel w1 s1 g1) : Rel w1 s1 g1 E N a := ⟨h1, hr.size, hr.ds, fun t => (hr.f t).step hs⟩
theorem W_ghost {c : Code} {s' : St} (hg : Ghost s s') (h : W P N c E s' Q) : W P N c E s Q := by
  intro w g a hr
  obtain ⟨g', h1, h2⟩ := hg w g hr.st
  exact wpIn_mono' (fun e a w hp => hp.mono h2 (fun _ _ _ h => h)) (h w g' a (hr.step h2 h1))
/-- Slots may be told with less. -/
def Less (s : St) (E E' : Env) : Prop := E.ds = E'.ds ∧ ∀ t, ∀ w g v, StRel w s g → R w s g (E.f t) v → R w s g (E'.f t) v
theorem W_less {c : Code} (hl : Less s E E1) (h : W P N c E1 s Q) : W P N c E s Q :=
  fun w g a hr => h w g a ⟨hr.st, hr.size, hr.ds.trans hl.1, fun t => hl.2 t w g _ hr.st (hr.f t)⟩
end

/-! ### Regions -/
inductive Gd where
  | no | on (d : Nat) (b : Bool) | bad
structure Ro where
  dst : Option Nat
  op : Op
  ty : TypeId
  gd : Gd
def conv (ops : Array Oper) (o : Oper) : Ro := ⟨o.dst, o.op, o.type, match o.guard with
  | none => .no
  | some (j, b) => match (ops[j]?).bind (·.dst) with
    | some d => .on d b
    | none => .bad⟩

def WL (P : Program) (N : NR) (l : List Ro) (E : Env) (s : St) (Q : Ends) : Prop :=
  ∀ (ops : Array Oper) (l' : List Oper), l'.map (conv ops) = l → ∀ w g a, Rel w s g E N a → wpListIn (rf N.r) 0 P ops (Post w s g N Q) l' a w

section
variable {P : Program} {w w1 : World} {s s1 : St} {g g1 : Gh} {E E1 : Env} {N : NR} {a : Act} {Q Q' : Ends}

theorem LetsOut_Post : ¬ LetsOut (Post w s g N Q) := fun ⟨_, _, h⟩ => h
theorem Oper.wp_mono2 {F : Fence} {n : Nat} {o : Oper} {a : Act} {w : World} {K K' : Act → World → Prop} {Q Q' : Exit → Act → World → Prop} (h : ∀ a w, K a w → K' a w) (hq : ∀ e a w, Q e a w → Q' e a w)
    (hh : o.wpIn F n P a w K Q) : o.wpIn F n P a w K' Q' := by
  unfold Oper.wpIn at *
  refine ⟨hh.1, ?_⟩
  have hh := hh.2
  generalize (o.semAt F.round a.eval).run P w = r at *
  cases r with
  | ok n w' =>
    cases n <;> simp only [Oper.uponIn] at hh ⊢ <;>
      first
        | exact h _ _ hh
        | exact ⟨hh.1, CallsIn.mono hh.2 (fun e w'' he => by cases e <;> first | exact h _ _ he | exact hq _ _ _ he | exact let ⟨a, w, h⟩ := he; ⟨a, w, hq _ _ _ h⟩)⟩
        | exact ⟨hh.1, RowsIn.mono hh.2 (fun _ _ he => h _ _ he)⟩
        | exact ⟨hh.1, RoundIn.mono hh.2 (fun e w'' he => by cases e <;> first | exact h _ _ he | exact hq _ _ _ he | exact let ⟨a, w, h⟩ := he; ⟨a, w, hq _ _ _ h⟩)⟩
  | halt x w' => cases x <;> simp only [Oper.uponIn] at hh ⊢ <;> first | exact hq _ _ _ hh | exact hh
theorem wpList_mono {F : Fence} {n : Nat} {ops : Array Oper} {Q Q' : Exit → Act → World → Prop} (hq : ∀ e a w, Q e a w → Q' e a w) : ∀ (l : List Oper) (a : Act) (w : World), wpListIn F n P ops Q l a w → wpListIn F n P ops Q' l a w := by
  intro l
  induction l with
  | nil => exact fun a w h => hq _ _ _ h
  | cons o l ih =>
    intro a w h
    unfold wpListIn at h ⊢
    split
    · rename_i hw
      rw [if_pos hw] at h
      exact Oper.wp_mono2 (fun a w h => ih a w h) hq h
    · rename_i hw
      rw [if_neg hw] at h
      exact ⟨h.1, ih _ _ h.2⟩

theorem W_region {id : Nat} {ops : Array Oper} (h : WL P N (ops.toList.map (conv ops)) E s Q) : W P N (.region id ops false) E s Q :=
  fun w g a hr => wpIn_region_list (h ops ops.toList rfl w g a hr)
theorem WL_nil (h : Q .normal E s) : WL P N [] E s Q := by
  intro ops l' hl w g a hr
  obtain rfl : l' = [] := by simpa using hl
  exact ⟨E, s, g, hr, Step.refl _ _ _, h⟩
theorem WL_ghost {l : List Ro} {s' : St} (hg : Ghost s s') (h : WL P N l E s' Q) : WL P N l E s Q := by
  intro ops l' hl w g a hr
  obtain ⟨g', h1, h2⟩ := hg w g hr.st
  exact wpList_mono (fun e a w hp => hp.mono h2 (fun _ _ _ h => h)) _ _ _ (h ops l' hl w g' a (hr.step h2 h1))
theorem WL_less {l : List Ro} (hl : Less s E E1) (h : WL P N l E1 s Q) : WL P N l E s Q :=
  fun ops l' hl' w g a hr => h ops l' hl' w g a ⟨hr.st, hr.size, hr.ds.trans hl.1, fun t => hl.2 t w g _ hr.st (hr.f t)⟩

theorem Rel.put (hr : Rel w s g E N a) {d : Option Nat} {c : C} {v : Value} (hd : ∀ k, d = some k → k < N) (hv : R w s g c v) : Rel w s g (E.set d c) N (a.put d v) := by
  cases d with
  | none => exact hr
  | some d =>
    have hd' := hd d rfl
    refine ⟨hr.st, by simp [Act.put, hr.size], hr.ds, fun t => ?_⟩
    simp only [Env.set, Act.put]
    by_cases h : t = d
    · subst h; simp [hr.size, hd']; exact hv
    · have h' : ¬ d = t := fun e => h e.symm
      simp only [h, if_false]
      have := hr.f t
      simpa [Array.getElem?_setIfInBounds_ne h'] using this

/-- One operation, carried out. -/
theorem WL_core {d : Option Nat} {op : Op} {ty : TypeId} {rest : List Ro} (hd : ∀ k, d = some k → k < N)
    (h : ∀ (w : World) (g : Gh) (a : Act) (o : Oper), Rel w s g E N a → o.op = op → o.type = ty → ∃ v w' s' g' c, ((execOp a.eval o).run P w = .ok (.value v) w' ∨ ((execOp a.eval o).run P w = .ok .skip w' ∧ v = undef)) ∧
      R w' s' g' c v ∧ StRel w' s' g' ∧ Step w s g w' s' g' ∧ WL P N rest (E.set d c) s' Q) (hdf : ∀ c, op ≠ .defer c := by simp) :
    WL P N (⟨d, op, ty, .no⟩ :: rest) E s Q := by
  intro ops l' hl w g a hr
  cases l' with
  | nil => simp at hl
  | cons o l' =>
    simp only [List.map_cons, List.cons.injEq] at hl
    obtain ⟨ho, hrest⟩ := hl
    simp only [conv, Ro.mk.injEq] at ho
    obtain ⟨h1, h2, h3, h4⟩ := ho
    have hg : o.guard = none := by
      cases hgd : o.guard with
      | none => rfl
      | some p =>
        obtain ⟨j, b⟩ := p
        simp only [hgd] at h4
        split at h4 <;> cases h4
    refine wpListIn_plain hg (fun K hK => ?_)
    obtain ⟨v, w', s', g', c, hrun, hv, hst, hstep, hk⟩ := h w g a o hr h2 h3
    have hr' : Rel w' s' g' (E.set d c) N (a.put o.dst v) := by rw [h1]; exact (hr.step hstep hst).put hd hv
    have hrest' := wpList_mono (fun e a w hp => Post.mono hstep (fun _ _ _ h => h) hp) _ _ _ (hk ops l' hrest w' g' _ hr')
    unfold Oper.wpIn
    refine ⟨fun _ _ => rf_fn _ _, ?_⟩
    rw [Oper.semAt_eq _ _ _ (by rw [h2]; exact hdf)]
    rcases hrun with hrun | ⟨hrun, rfl⟩
    · rw [hrun]; exact hK _ _ hrest'
    · rw [hrun]; exact hK _ _ hrest'

/-- An operation that only reads. -/
theorem WL_rd {d : Option Nat} {op : Op} {ty : TypeId} {rest : List Ro} {c : C} (he : evRd P op E.f s = some c) (hd : ∀ k, d = some k → k < N) (h : WL P N rest (E.set d c) s Q) :
    WL P N (⟨d, op, ty, .no⟩ :: rest) E s Q :=
  WL_core hd (fun w g a o hr h1 h2 => by
    obtain ⟨v, h3, h4⟩ := evRd_run (P := P) (ty := ty) hr he o h1
    exact ⟨v, w, s, g, c, .inl h3, h4, hr.st, Step.refl _ _ _, h⟩) (fun c e => by subst e; simp [evRd] at he)

/-- A guarded operation whose guard is known. -/
theorem WL_on {d : Option Nat} {op : Op} {ty : TypeId} {rest : List Ro} {k : Nat} {b : Bool} (hk : E.f k = .v (.bool b)) (h : WL P N (⟨d, op, ty, .no⟩ :: rest) E s Q) :
    WL P N (⟨d, op, ty, .on k b⟩ :: rest) E s Q := by
  intro ops l' hl w g a hr
  cases l' with
  | nil => simp at hl
  | cons o l' =>
    simp only [List.map_cons, List.cons.injEq] at hl
    obtain ⟨ho, hrest⟩ := hl
    simp only [conv, Ro.mk.injEq] at ho
    obtain ⟨h1, h2, h3, h4⟩ := ho
    obtain ⟨j, hj, hjd⟩ : ∃ j, o.guard = some (j, b) ∧ (ops[j]?).bind (·.dst) = some k := by
      cases hgd : o.guard with
      | none => simp [hgd] at h4
      | some p =>
        obtain ⟨j, b'⟩ := p
        simp only [hgd] at h4
        split at h4
        · rename_i d' hd'; cases h4; exact ⟨j, rfl, hd'⟩
        · cases h4
    have hx := hr.f k
    rw [hk] at hx
    have hv := hx.v_eq
    have hy : yielded ops a.tmps j = some b := by
      unfold yielded
      rw [hjd]
      have : a.tmps[k]? = some (.bool b) := by
        rw [Array.getD_eq_getD_getElem?] at hv
        cases hq : a.tmps[k]? with
        | none => rw [hq] at hv; simp [undef] at hv
        | some q => rw [hq] at hv; simp at hv; rw [hv]
      simp [this]
    have hw : Region.wanted o (yielded ops a.tmps) = true := by simp [Region.wanted, hj, hy]
    let o' : Oper := { o with guard := none }
    have hc : conv ops o' = ⟨d, op, ty, .no⟩ := by simp [conv, o', h1, h2, h3]
    have h' := h ops (o' :: l') (by simp [hc, hrest]) w g a hr
    unfold wpListIn at h' ⊢
    rw [if_pos (by simp [Region.wanted, o'])] at h'
    rw [if_pos hw]
    exact h'
/-- What a guard's slot says. -/
def gdOff (b : Bool) : C → Bool
  | .v (.bool t) => t != b
  | .v (.tuple _) => true
  | _ => false
theorem WL_off {d : Option Nat} {op : Op} {ty : TypeId} {rest : List Ro} {k : Nat} {b : Bool} (hk : gdOff b (E.f k) = true) (hd : ∀ k, d = some k → k < N) (h : WL P N rest (E.set d (.v undef)) s Q) :
    WL P N (⟨d, op, ty, .on k b⟩ :: rest) E s Q := by
  intro ops l' hl w g a hr
  cases l' with
  | nil => simp at hl
  | cons o l' =>
    simp only [List.map_cons, List.cons.injEq] at hl
    obtain ⟨ho, hrest⟩ := hl
    simp only [conv, Ro.mk.injEq] at ho
    obtain ⟨h1, h2, h3, h4⟩ := ho
    obtain ⟨j, hj, hjd⟩ : ∃ j, o.guard = some (j, b) ∧ (ops[j]?).bind (·.dst) = some k := by
      cases hgd : o.guard with
      | none => simp [hgd] at h4
      | some p =>
        obtain ⟨j, b'⟩ := p
        simp only [hgd] at h4
        split at h4
        · rename_i d' hd'; cases h4; exact ⟨j, rfl, hd'⟩
        · cases h4
    have hx := hr.f k
    have hy : yielded ops a.tmps j ≠ some b := by
      unfold yielded
      rw [hjd]
      intro he
      cases hq : a.tmps[k]? with
      | none => simp [hq] at he
      | some q =>
        have hqv : a.tmps.getD k undef = q := by rw [Array.getD_eq_getD_getElem?, hq]; rfl
        rw [hqv] at hx
        simp only [Option.bind_some, hq] at he
        cases q with
        | bool t =>
          simp only [Option.some.injEq] at he
          subst he
          generalize E.f k = c at hk hx
          unfold gdOff at hk
          split at hk
          · have := hx.v_eq
            injection this with this
            subst this
            simp at hk
          · have := hx.v_eq
            cases this
          · cases hk
        | _ => simp at he
    have hw : ¬ Region.wanted o (yielded ops a.tmps) = true := by simp [Region.wanted, hj, hy]
    unfold wpListIn
    rw [if_neg hw, h1]
    exact ⟨fun _ _ => rf_fn _ _, h ops l' hrest w g _ (hr.put hd (.v _))⟩
end
end Go.VS
namespace Go.VS
open Go

def Fresh (b : Nat) (s : St) : Prop := look s.objs b = none ∧ look s.rows b = none

section
variable {P : Program} {w w1 : World} {s s1 : St} {g g1 : Gh} {E E1 : Env} {N : NR} {a : Act} {Q Q' : Ends}

theorem StRel.objs_lt (h : StRel w s g) {b : Nat} (hb : (look s.objs b).isSome) : b < w.heap.size := by
  obtain ⟨cs, hcs⟩ := Option.isSome_iff_exists.1 hb
  obtain ⟨arr, e, h1, _⟩ := h.objs b cs hcs
  exact (Array.getElem?_eq_some_iff.1 h1).1
theorem StRel.rows_lt (h : StRel w s g) {b : Nat} (hb : (look s.rows b).isSome) : b < w.heap.size := by
  obtain ⟨⟨z, es⟩, hcs⟩ := Option.isSome_iff_exists.1 hb
  obtain ⟨arr, e, h1, _⟩ := h.rows b z es hcs
  exact (Array.getElem?_eq_some_iff.1 h1).1
theorem StRel.toks_lt (h : StRel w s g) {r b o c : Nat} {zL : Nat × Nat} (h1 : look s.toks r = some zL) (h2 : g.tb r = some (b, o, c)) : b < w.heap.size := by
  obtain ⟨_, h3⟩ := h.toks r zL.1 zL.2 h1
  rw [h2] at h3
  obtain ⟨_, ⟨arr, e, h4, _⟩, _⟩ := h3
  exact (Array.getElem?_eq_some_iff.1 h4).1
theorem StRel.maps_lt (h : StRel w s g) {b : Nat} (hb : (look s.maps b).isSome) : b < w.heap.size := by
  obtain ⟨m, hm⟩ := Option.isSome_iff_exists.1 hb
  obtain ⟨o, h1, _⟩ := h.maps b m hm
  exact (Array.getElem?_eq_some_iff.1 h1).1
/-- A block of cells is no map. -/
theorem StRel.maps_ne (h : StRel w s g) {b k : Nat} {arr : Array Value} {e : TypeId} {fr : Nat × Nat} (hb : (look s.maps b).isSome) (hk : w.heap[k]? = some (.cells arr e fr)) : b ≠ k := by
  obtain ⟨m, hm⟩ := Option.isSome_iff_exists.1 hb
  obtain ⟨o, h1, h2, _⟩ := h.maps b m hm
  intro e
  subst e
  rw [hk] at h1
  cases h1
  cases h2
theorem StRel.ownB_lt (h : StRel w s g) {k : Nat} (hk : ownB s g k) : k < w.heap.size := by
  rcases hk with hk | hk | ⟨r, zL, o, c, h1, h2⟩ | hk
  · exact h.objs_lt hk
  · exact h.rows_lt hk
  · exact h.toks_lt h1 h2
  · exact h.maps_lt hk
theorem StRel.fresh (h : StRel w s g) : Fresh w.heap.size s := by
  constructor
  · cases hb : look s.objs w.heap.size with
    | none => rfl
    | some cs => exact absurd (h.objs_lt (by rw [hb]; rfl)) (Nat.lt_irrefl _)
  · cases hb : look s.rows w.heap.size with
    | none => rfl
    | some cs => exact absurd (h.rows_lt (by rw [hb]; rfl)) (Nat.lt_irrefl _)

/-- A new block, whatever becomes of it: what was stays. -/
theorem Step.alloc (o : Obj) {s' : St} {g' : Gh} (hst : StRel w s g)
    (hown : ∀ a, a.block < w.heap.size → own s' g' a → own s g a) (hownB : ∀ k, k < w.heap.size → ownB s' g' k → ownB s g k)
    (hrc : ∀ k, k < w.heap.size → g'.rc k = g.rc k) (hrz : ∀ k, k < w.heap.size → g'.rz k = g.rz k) (hnt : g.nt ≤ g'.nt) (htk : ∀ r es v, TK s g r es v → TK s' g' r es v) :
    Step w s g (w.alloc o) s' g' :=
  ⟨rfl, rfl, rfl, by simp, fun k hk _ => Go.RowKit.Below.heap_alloc w o k hk,
   fun a u hu ho => ⟨by rw [World.cell?_alloc_lt _ _ _ (World.block_lt_of_cell? w a hu)]; exact hu, fun h => ho (hown a (World.block_lt_of_cell? w a hu) h)⟩,
   hownB, hrc, hrz, hnt, htk⟩

theorem heap_new (w : World) (o : Obj) : (w.alloc o).heap[w.heap.size]? = some o := by
  show (w.heap.push o)[w.heap.size]? = _
  simp

theorem addObj (hst : StRel w s g) (arr : Array Value) (e : TypeId) (cs : List C) (hlen : cs.length ≤ arr.size)
    (hv : ∀ (j : Nat) (hj : j < cs.length), ∃ u, arr[j]? = some u ∧ R w s g (cs[j]) u) :
    StRel (w.alloc (.cells arr e)) { s with objs := (w.heap.size, cs) :: s.objs } g ∧ Step w s g (w.alloc (.cells arr e)) { s with objs := (w.heap.size, cs) :: s.objs } g := by
  have hlook : ∀ k, k < w.heap.size → look ((w.heap.size, cs) :: s.objs) k = look s.objs k := fun k hk => by simp [look, show ¬ w.heap.size = k from by omega]
  have hstep : Step w s g (w.alloc (.cells arr e)) { s with objs := (w.heap.size, cs) :: s.objs } g := by
    refine Step.alloc _ hst (fun a ha h => ?_) (fun k hk h => ?_) (fun _ _ => rfl) (fun _ _ => rfl) (Nat.le_refl _) (fun _ _ _ h => h)
    · rcases h with h | h | h
      · rw [hlook _ ha] at h; exact .inl h
      · exact .inr (.inl h)
      · exact .inr (.inr h)
    · rcases h with h | h | h
      · rw [hlook _ hk] at h; exact .inl h
      · exact .inr (.inl h)
      · exact .inr (.inr h)
  refine ⟨⟨fun b cs' hb => ?_, fun b z es hb => ?_, fun r z L hr => ?_, fun b m hb => ?_, fun b h1 h2 => ?_, fun b r zL o c h1 h2 h3 => ?_, hst.d3⟩, hstep⟩
  · by_cases hbb : b = w.heap.size
    · subst hbb
      simp only [look, if_true, Option.some.injEq] at hb
      subst hb
      exact ⟨arr, e, heap_new w _, hlen, fun j hj => let ⟨u, h1, h2⟩ := hv j hj; ⟨u, h1, h2.step hstep⟩⟩
    · have hb' : look s.objs b = some cs' := by simpa [look, show ¬ w.heap.size = b from fun e => hbb e.symm] using hb
      obtain ⟨arr', e', h1, h2, h3⟩ := hst.objs b cs' hb'
      exact ⟨arr', e', by rw [Go.RowKit.Below.heap_alloc w _ b (Array.getElem?_eq_some_iff.1 h1).1]; exact h1, h2, fun j hj => let ⟨u, h4, h5⟩ := h3 j hj; ⟨u, h4, h5.step hstep⟩⟩
  · obtain ⟨arr', e', h1, h2, h3, h4, h4', h5, h6⟩ := hst.rows b z es hb
    exact ⟨arr', e', by rw [Go.RowKit.Below.heap_alloc w _ b (Array.getElem?_eq_some_iff.1 h1).1]; exact h1, h2, h3, h4, h4', h5, fun i j hi hj => let ⟨u, h7, h8⟩ := h6 i j hi hj; ⟨u, h7, h8.step hstep⟩⟩
  · obtain ⟨h1, h2⟩ := hst.toks r z L hr
    refine ⟨h1, ?_⟩
    cases hg : g.tb r with
    | none => rw [hg] at h2; exact h2
    | some q =>
      obtain ⟨b, o, c⟩ := q
      rw [hg] at h2
      obtain ⟨h0, ⟨arr', e', h3, h4⟩, h5⟩ := h2
      exact ⟨h0, ⟨arr', e', by rw [Go.RowKit.Below.heap_alloc w _ b (Array.getElem?_eq_some_iff.1 h3).1]; exact h3, h4⟩, h5⟩
  · obtain ⟨es, h1, h2⟩ := hst.maps b m hb
    exact ⟨es, by rw [Go.RowKit.Below.heap_alloc w _ b (Array.getElem?_eq_some_iff.1 h1).1]; exact h1, h2⟩
  · by_cases hbb : b = w.heap.size
    · subst hbb; exact absurd (hst.rows_lt h2) (Nat.lt_irrefl _)
    · simp only [look, show ¬ w.heap.size = b from fun e => hbb e.symm, if_false] at h1
      exact hst.d1 b h1 h2
  · have hlt := hst.toks_lt h1 h2
    rw [hlook b hlt] at h3
    exact hst.d2 b r zL o c h1 h2 h3

theorem WL_alloc {d t : Nat} {ty : TypeId} {rest : List Ro} {cs : List C} (hz : tzero P t = some cs) (hd : d < N)
    (h : ∀ b, Fresh b s → WL P N rest (E.set (some d) (.v (.pointer (some ⟨b, 0, none⟩)))) { s with objs := (b, cs) :: s.objs } Q) :
    WL P N (⟨some d, .alloc t, ty, .no⟩ :: rest) E s Q := by
  refine WL_core (fun k hk => by cases hk; exact hd) fun w g a o hr h1 h2 => ?_
  obtain ⟨i, z, hi, hz', rfl⟩ : ∃ i z, P.info? t = some i ∧ i.zero = some z ∧ cs = z.cells.toList.map .v := by
    unfold tzero at hz
    cases hi : P.info? t with
    | none => simp [hi] at hz
    | some i =>
      cases hz' : i.zero with
      | none => simp [hi, hz'] at hz
      | some z => simp [hi, hz'] at hz; exact ⟨i, z, rfl, hz', by simpa using hz.symm⟩
  obtain ⟨h3, h4⟩ := addObj (g := g) hr.st z.cells t (z.cells.toList.map .v) (by simp) (fun j hj => by simp at hj; exact ⟨z.cells[j], by simp [hj], by simpa using .v _⟩)
  exact ⟨.pointer (some ⟨w.heap.size, 0, none⟩), _, _, g, _, .inl (by simp [execOp, h1, Instr.alloc, zeroValue, typeInfo, hi, hz', newVar, newRow]), .v _, h3, h4, h _ hr.st.fresh⟩

theorem WL_box {d t : Nat} {ty : TypeId} {rest : List Ro} {x : Operand} (hone : (cellsOf (evo E.f x)).all one = true) (hd : d < N)
    (h : ∀ b, Fresh b s → WL P N rest (E.set (some d) (.v (.pointer (some ⟨b, 0, none⟩)))) { s with objs := (b, cellsOf (evo E.f x)) :: s.objs } Q) :
    WL P N (⟨some d, .box t x, ty, .no⟩ :: rest) E s Q := by
  refine WL_core (fun k hk => by cases hk; exact hd) fun w g a o hr h1 h2 => ?_
  obtain ⟨h3, h4⟩ := cellsOf_vals (hr.evo x) hone
  obtain ⟨h5, h6⟩ := addObj (g := g) hr.st (a.eval x).cells t (cellsOf (evo E.f x)) (by omega) (fun j hj => let ⟨u, h7, h8, _⟩ := h4 j hj; ⟨u, h7, h8⟩)
  exact ⟨.pointer (some ⟨w.heap.size, 0, none⟩), _, _, g, _, .inl (by simp [execOp, h1, Instr.box, newVar, newRow]), .v _, h5, h6, h _ hr.st.fresh⟩

/-- A block of ours, written. -/
theorem Step.setRow {b : Nat} (arr arr' : Array Value) (e : TypeId) {s' : St} {g' : Gh} (h : w.heap[b]? = some (.cells arr e (0, 0)))
    (hB : ownB s g b) (hsame : ∀ j, ¬ own s g ⟨b, j, none⟩ → ∀ u, arr[j]? = some u → arr'[j]? = some u)
    (hown : ∀ a, own s' g' a → own s g a) (hownB : ∀ k, ownB s' g' k → ownB s g k)
    (hrc : ∀ k, k < w.heap.size → g'.rc k = g.rc k) (hrz : ∀ k, k < w.heap.size → g'.rz k = g.rz k) (hnt : g.nt ≤ g'.nt) (htk : ∀ r es v, TK s g r es v → TK s' g' r es v) :
    Step w s g (w.setRow b arr') s' g' := by
  refine ⟨rfl, rfl, rfl, by simp, fun k _ hk => ?_, fun a u hu ho => ⟨?_, fun hh => ho (hown a hh)⟩, fun k _ hk => hownB k hk, hrc, hrz, hnt, htk⟩
  · have : k ≠ b := fun e => hk (by rw [e]; exact hB)
    exact setRow_other w b k arr' this
  · by_cases hab : a.block = b
    · obtain ⟨ab, ao, as⟩ := a
      simp only at hab
      subst hab
      simp only [World.cell?, h] at hu
      simp only [World.cell?, setRow_heap w ab arr arr' e (0, 0) h]
      split at hu
      · cases hu
      · rename_i has
        have has' : as = none := by cases as <;> simp_all
        subst has'
        simp only [has, if_false, Bool.false_eq_true]
        exact hsame ao ho u hu
    · rw [World.cell?_of_block (w := w) (setRow_other w b a.block arr' hab)]; exact hu

/-- What a store makes of what is known. -/
def evSt (P : Program) (t : TypeId) (x y : Operand) (f : Nat → C) (s : St) : Option St :=
  if (cellsOf (evo f y)).all one ∧ (cellsOf (evo f y)).length = tsz P t ∧ (P.info? t).isSome then
    match evo f x with
    | .v (.pointer (some ⟨b, off, none⟩)) => match look s.objs b with
      | some cs => if off + (cellsOf (evo f y)).length ≤ cs.length then some { s with objs := putAt s.objs b (spl cs off (cellsOf (evo f y))) } else none
      | none => none
    | .rp b i j => match look s.rows b with
      | some (z, es) => match es[i]? with
        | some cs => if j + (cellsOf (evo f y)).length ≤ cs.length then some { s with rows := putAt s.rows b (z, es.set i (spl cs j (cellsOf (evo f y)))) } else none
        | none => none
      | none => none
    | _ => none
  else none

/-- The cells of a block, some of them written. -/
theorem seg_get (arr : Array Value) (off : Nat) (vs : List Value) (h : off + vs.length ≤ arr.size) (j : Nat) :
    (arr.toList.take off ++ vs ++ arr.toList.drop (off + vs.length)).toArray[j]? = if off ≤ j ∧ j < off + vs.length then vs[j - off]? else arr[j]? := by
  simp only [List.getElem?_toArray]
  by_cases h1 : j < off
  · rw [if_neg (by omega), List.getElem?_append_left (by simp; omega), List.getElem?_append_left (by simp; omega), List.getElem?_take_of_lt h1]
    simp
  · by_cases h2 : j < off + vs.length
    · rw [if_pos (by omega), List.getElem?_append_left (by simp; omega), List.getElem?_append_right (by simp; omega)]
      congr 1
      simp
      omega
    · rw [if_neg (by omega), List.getElem?_append_right (by simp; omega), List.getElem?_drop]
      simp
      congr 1
      omega
theorem seg_size (arr : Array Value) (off : Nat) (vs : List Value) (h : off + vs.length ≤ arr.size) :
    (arr.toList.take off ++ vs ++ arr.toList.drop (off + vs.length)).toArray.size = arr.size := by
  simp; omega

theorem isSome_putAt {α : Type} (l : List (Nat × α)) (b : Nat) (x : α) (k : Nat) : (look (putAt l b x) k).isSome = (look l k).isSome := by
  rw [look_putAt]
  split
  · rename_i h; subst h; simp
  · rfl

theorem storeVar_run {t : TypeId} {v : Value} {b off : Nat} {arr : Array Value} {e : TypeId} (hi : (P.info? t).isSome) (hz : v.cells.toList.length = tsz P t) (h : w.heap[b]? = some (.cells arr e (0, 0)))
    (hl : off + v.cells.toList.length ≤ arr.size) (h1 : ∀ u ∈ v.cells.toList, u.oneCell' = true) :
    (storeVar t ⟨b, off, none⟩ v).run P w = .ok () (w.setRow b (arr.toList.take off ++ v.cells.toList ++ arr.toList.drop (off + v.cells.toList.length)).toArray) := by
  have h2 := run_storeCells_at P b off e v.cells.toList 0 arr w h (by simpa using hl) h1
  have hz' : v.cells.size = tsz P t := by simpa using hz
  simp [storeVar, isSlice_of_hsz hi, hz']
  simpa [hz'] using h2

theorem WL_st {t : TypeId} {x y : Operand} {ty : TypeId} {rest : List Ro} {s' : St} (he : evSt P t x y E.f s = some s') (h : WL P N rest E s' Q) :
    WL P N (⟨none, .store t x y, ty, .no⟩ :: rest) E s Q := by
  refine WL_core (fun k hk => by cases hk) fun w g a o hr h1 h2 => ?_
  unfold evSt at he
  split at he
  · rename_i hc
    obtain ⟨hone, hlen, hinf⟩ := hc
    obtain ⟨q1, q2, q3⟩ := vals_of (hr.evo y) hone
    have hx := hr.evo x
    split at he
    · rename_i b off hev
      rw [hev] at hx
      have hxv := hx.v_eq
      split at he
      · rename_i cs hl
        split at he
        · rename_i hle
          cases he
          obtain ⟨arr, e, h3, h4, h5⟩ := hr.st.objs b cs hl
          have hrun := storeVar_run (P := P) (t := t) (v := a.eval y) (arr := arr) (off := off) hinf (by omega) h3 (by omega) q1
          have hB : ownB s g b := .inl (by rw [hl]; rfl)
          have hstep : Step w s g (w.setRow b _) { s with objs := putAt s.objs b (spl cs off (cellsOf (evo E.f y))) } g :=
            Step.setRow arr (arr.toList.take off ++ (a.eval y).cells.toList ++ arr.toList.drop (off + (a.eval y).cells.toList.length)).toArray e h3 hB
              (fun j hj u hu => absurd (show own s g ⟨b, j, none⟩ from .inl (by rw [hl]; rfl)) hj)
              (fun a ha => by
                rcases ha with ha | ha | ha
                · rw [isSome_putAt] at ha; exact .inl ha
                · exact .inr (.inl ha)
                · exact .inr (.inr ha))
              (fun k ha => by
                rcases ha with ha | ha | ha
                · rw [isSome_putAt] at ha; exact .inl ha
                · exact .inr (.inl ha)
                · exact .inr (.inr ha)) (fun _ _ => rfl) (fun _ _ => rfl) (Nat.le_refl _) (fun _ _ _ h => h)
          have hst' : StRel (w.setRow b (arr.toList.take off ++ (a.eval y).cells.toList ++ arr.toList.drop (off + (a.eval y).cells.toList.length)).toArray) { s with objs := putAt s.objs b (spl cs off (cellsOf (evo E.f y))) } g := by
            refine ⟨fun k cs' hk => ?_, fun k z es hk => ?_, fun r z L hk => ?_, fun k m hk => let ⟨es, q1, q2⟩ := hr.st.maps k m hk; ⟨es, by rw [setRow_other w b k _ (hr.st.maps_ne (by simp only at hk; rw [hk]; rfl) h3)]; exact q1, q2⟩, fun k h1 h2 => ?_, fun k r zL o c h1 h2 h3 => ?_, hr.st.d3⟩
            · simp only [look_putAt] at hk
              split at hk
              · rename_i hkb
                subst hkb
                rw [hl] at hk
                simp at hk
                subst hk
                refine ⟨_, e, setRow_heap w k arr _ e (0, 0) h3, by rw [seg_size _ _ _ (by omega), spl_length]; exact h4, fun j hj => ?_⟩
                rw [seg_get _ _ _ (by omega)]
                have hj' : (spl cs off (cellsOf (evo E.f y)))[j]? = some ((spl cs off (cellsOf (evo E.f y)))[j]) := List.getElem?_eq_getElem hj
                rw [spl_get _ _ _ _ hle] at hj'
                split
                · rename_i hin
                  rw [if_pos (by omega)] at hj'
                  obtain ⟨hj2, hj3⟩ := List.getElem?_eq_some_iff.1 hj'
                  obtain ⟨u, h6, h7⟩ := q3 (j - off) hj2
                  exact ⟨u, h6, by rw [← hj3]; exact h7.step hstep⟩
                · rename_i hin
                  rw [if_neg (by omega)] at hj'
                  obtain ⟨hj2, hj3⟩ := List.getElem?_eq_some_iff.1 hj'
                  obtain ⟨u, h6, h7⟩ := h5 j hj2
                  exact ⟨u, h6, by rw [← hj3]; exact h7.step hstep⟩
              · rename_i hkb
                obtain ⟨arr', e', h6, h7, h8⟩ := hr.st.objs k cs' hk
                exact ⟨arr', e', by rw [setRow_other w b k _ hkb]; exact h6, h7, fun j hj => let ⟨u, h9, h10⟩ := h8 j hj; ⟨u, h9, h10.step hstep⟩⟩
            · have hkb : k ≠ b := fun e => hr.st.d1 b (by rw [hl]; rfl) (by rw [← e, hk]; rfl)
              obtain ⟨arr', e', h6, h7, h8, h9, h9', h10, h11⟩ := hr.st.rows k z es hk
              exact ⟨arr', e', by rw [setRow_other w b k _ hkb]; exact h6, h7, h8, h9, h9', h10, fun i j hi hj => let ⟨u, h12, h13⟩ := h11 i j hi hj; ⟨u, h12, h13.step hstep⟩⟩
            · obtain ⟨h6, h7⟩ := hr.st.toks r z L hk
              refine ⟨h6, ?_⟩
              cases hg : g.tb r with
              | none => rw [hg] at h7; exact h7
              | some q =>
                obtain ⟨k, o', c⟩ := q
                rw [hg] at h7
                obtain ⟨h0, ⟨arr', e', h8, h9⟩, h10⟩ := h7
                have hkb : k ≠ b := fun e => hr.st.d2 k r _ o' c hk hg (.inl (by rw [e, hl]; rfl))
                exact ⟨h0, ⟨arr', e', by rw [setRow_other w b k _ hkb]; exact h8, h9⟩, h10⟩
            · rw [isSome_putAt] at h1; exact hr.st.d1 k h1 h2
            · rw [isSome_putAt] at h3; exact hr.st.d2 k r zL o c h1 h2 h3
          exact ⟨undef, _, _, g, .junk, .inr ⟨by simp only [execOp, h1, Instr.storeAt, hxv, Instr.sureAddr, Sem.run_bind, Sem.run_pure, Result.andThen_ok, hrun], rfl⟩, .junk _, hst', hstep, h⟩
        · cases he
      · cases he
    · rename_i b i j hev
      rw [hev] at hx
      obtain ⟨hxv, hxb⟩ := hx.rp_inv
      split at he
      · rename_i z es hl
        split at he
        · rename_i cs hcs
          split at he
          · rename_i hle
            cases he
            obtain ⟨arr, e, h3, hz, hn, hc, hm, hes, hel⟩ := hr.st.rows b z es hl
            obtain ⟨hi, hcs'⟩ := List.getElem?_eq_some_iff.1 hcs
            have hcz : cs.length = z := hes cs (by rw [← hcs']; exact List.getElem_mem hi)
            have hfit : i * z + j + (a.eval y).cells.toList.length ≤ arr.size := by
              have : (i + 1) * z ≤ g.rc b * z := Nat.mul_le_mul_right z (by omega)
              rw [Nat.add_mul] at this
              omega
            have hrun := storeVar_run (P := P) (t := t) (v := a.eval y) (arr := arr) (off := i * z + j) hinf (by omega) h3 hfit q1
            have hB : ownB s g b := .inr (.inl (by rw [hl]; rfl))
            have hstep : Step w s g (w.setRow b _) { s with rows := putAt s.rows b (z, es.set i (spl cs j (cellsOf (evo E.f y)))) } g :=
              Step.setRow arr (arr.toList.take (i * z + j) ++ (a.eval y).cells.toList ++ arr.toList.drop (i * z + j + (a.eval y).cells.toList.length)).toArray e h3 hB
                (fun j hj u hu => absurd (show own s g ⟨b, j, none⟩ from .inr (.inl (by rw [hl]; rfl))) hj)
                (fun a ha => by
                  rcases ha with ha | ha | ha
                  · exact .inl ha
                  · rw [isSome_putAt] at ha; exact .inr (.inl ha)
                  · exact .inr (.inr ha))
                (fun k ha => by
                  rcases ha with ha | ha | ha
                  · exact .inl ha
                  · rw [isSome_putAt] at ha; exact .inr (.inl ha)
                  · exact .inr (.inr ha)) (fun _ _ => rfl) (fun _ _ => rfl) (Nat.le_refl _) (fun _ _ _ h => h)
            have hst' : StRel (w.setRow b (arr.toList.take (i * z + j) ++ (a.eval y).cells.toList ++ arr.toList.drop (i * z + j + (a.eval y).cells.toList.length)).toArray) { s with rows := putAt s.rows b (z, es.set i (spl cs j (cellsOf (evo E.f y)))) } g := by
              refine ⟨fun k cs' hk => ?_, fun k z' es' hk => ?_, fun r z L hk => ?_, fun k m hk => let ⟨es, q1, q2⟩ := hr.st.maps k m hk; ⟨es, by rw [setRow_other w b k _ (hr.st.maps_ne (by simp only at hk; rw [hk]; rfl) h3)]; exact q1, q2⟩, fun k h1 h2 => ?_, fun k r zL o c h1 h2 h3 => ?_, hr.st.d3⟩
              · have hkb : k ≠ b := fun e => hr.st.d1 b (by rw [← e, hk]; rfl) (by rw [hl]; rfl)
                obtain ⟨arr', e', h6, h7, h8⟩ := hr.st.objs k cs' hk
                exact ⟨arr', e', by rw [setRow_other w b k _ hkb]; exact h6, h7, fun j hj => let ⟨u, h9, h10⟩ := h8 j hj; ⟨u, h9, h10.step hstep⟩⟩
              · simp only [look_putAt] at hk
                split at hk
                · rename_i hkb
                  subst hkb
                  rw [hl] at hk
                  simp at hk
                  obtain ⟨hz1, hz2⟩ := hk
                  subst hz1
                  subst hz2
                  refine ⟨_, e, setRow_heap w k arr _ e (0, 0) h3, hz, by simpa using hn, by rw [seg_size _ _ _ hfit]; exact hc, hm, fun x hx => ?_, fun i' j' hi' hj' => ?_⟩
                  · rcases List.mem_or_eq_of_mem_set hx with hx | hx
                    · exact hes x hx
                    · rw [hx, spl_length]; exact hcz
                  · rw [seg_get _ _ _ hfit]
                    have hi0 : i' < es.length := by simpa using hi'
                    by_cases hii : i' = i
                    · subst hii
                      have e1 : (es.set i' (spl cs j (cellsOf (evo E.f y))))[i']'(by simpa using hi') = spl cs j (cellsOf (evo E.f y)) := by simp
                      have hj2 : j' < (spl cs j (cellsOf (evo E.f y))).length := by rw [← e1]; exact hj'
                      have hg1 : (spl cs j (cellsOf (evo E.f y)))[j']? = some ((spl cs j (cellsOf (evo E.f y)))[j']) := List.getElem?_eq_getElem hj2
                      rw [spl_get _ _ _ _ hle] at hg1
                      have e2 : ((es.set i' (spl cs j (cellsOf (evo E.f y))))[i']'(by simpa using hi'))[j']'hj' = (spl cs j (cellsOf (evo E.f y)))[j'] := by simp
                      rw [e2]
                      by_cases hin : j ≤ j' ∧ j' < j + (cellsOf (evo E.f y)).length
                      · rw [if_pos hin] at hg1
                        rw [if_pos (by omega)]
                        obtain ⟨hj3, hj4⟩ := List.getElem?_eq_some_iff.1 hg1
                        obtain ⟨u, h6, h7⟩ := q3 (j' - j) hj3
                        exact ⟨u, by rw [← h6]; congr 1; omega, by rw [← hj4]; exact h7.step hstep⟩
                      · rw [if_neg hin] at hg1
                        rw [if_neg (by omega)]
                        obtain ⟨hj3, hj4⟩ := List.getElem?_eq_some_iff.1 hg1
                        obtain ⟨u, h6, h7⟩ := hel i' j' hi0 (by rw [hcs']; exact hj3)
                        exact ⟨u, h6, by rw [← hj4]; simpa [hcs'] using h7.step hstep⟩
                    · have e1 : (es.set i (spl cs j (cellsOf (evo E.f y))))[i']'(by simpa using hi') = es[i'] := by simp [show ¬ i = i' from fun e => hii e.symm]
                      have hj2 : j' < es[i'].length := by rw [← e1]; exact hj'
                      have hzz : es[i'].length = z := hes _ (List.getElem_mem _)
                      obtain ⟨u, h6, h7⟩ := hel i' j' hi0 hj2
                      have e2 : ((es.set i (spl cs j (cellsOf (evo E.f y))))[i']'(by simpa using hi'))[j']'hj' = es[i'][j'] := by simp [e1]
                      refine ⟨u, ?_, by rw [e2]; exact h7.step hstep⟩
                      rw [if_neg]
                      · exact h6
                      · intro hin
                        rcases Nat.lt_or_gt_of_ne hii with hlt | hlt
                        · have := Nat.mul_le_mul_right z (show i' + 1 ≤ i by omega)
                          rw [Nat.add_mul] at this
                          omega
                        · have := Nat.mul_le_mul_right z (show i + 1 ≤ i' by omega)
                          rw [Nat.add_mul] at this
                          omega
                · rename_i hkb
                  obtain ⟨arr', e', h6, h7, h8, h9, h9', h10, h11⟩ := hr.st.rows k z' es' hk
                  exact ⟨arr', e', by rw [setRow_other w b k _ hkb]; exact h6, h7, h8, h9, h9', h10, fun i j hi hj => let ⟨u, h12, h13⟩ := h11 i j hi hj; ⟨u, h12, h13.step hstep⟩⟩
              · obtain ⟨h6, h7⟩ := hr.st.toks r z L hk
                refine ⟨h6, ?_⟩
                cases hg : g.tb r with
                | none => rw [hg] at h7; exact h7
                | some q =>
                  obtain ⟨k, o', c⟩ := q
                  rw [hg] at h7
                  obtain ⟨h0, ⟨arr', e', h8, h9⟩, h10⟩ := h7
                  have hkb : k ≠ b := fun e => hr.st.d2 k r _ o' c hk hg (.inr (by rw [e, hl]; rfl))
                  exact ⟨h0, ⟨arr', e', by rw [setRow_other w b k _ hkb]; exact h8, h9⟩, h10⟩
              · rw [isSome_putAt] at h2; exact hr.st.d1 k h1 h2
              · rw [isSome_putAt] at h3; exact hr.st.d2 k r zL o c h1 h2 h3
            exact ⟨undef, _, _, g, .junk, .inr ⟨by simp only [execOp, h1, Instr.storeAt, hxv, hz, Instr.sureAddr, Sem.run_bind, Sem.run_pure, Result.andThen_ok, hrun], rfl⟩, .junk _, hst', hstep, h⟩
          · cases he
        · cases he
      · cases he
    · cases he
  · cases he
end
end Go.VS
namespace Go.VS
open Go
section
variable {P : Program} {w w1 w' : World} {s s1 s' : St} {g g1 g' : Gh} {E E1 : Env} {N : NR} {a : Act} {Q Q' : Ends}

/-- What is ours behind a step: what was and lies as it lay, and what is new. -/
theorem StRel.next (hst : StRel w s g) (hs : Step w s g w' s' g')
    (ho : ∀ b cs, look s'.objs b = some cs → (look s.objs b = some cs ∧ w'.heap[b]? = w.heap[b]?) ∨
      ∃ arr e, w'.heap[b]? = some (.cells arr e (0, 0)) ∧ cs.length ≤ arr.size ∧ ∀ (j : Nat) (hj : j < cs.length), ∃ u, arr[j]? = some u ∧ R w' s' g' (cs[j]) u)
    (hr : ∀ b z es, look s'.rows b = some (z, es) → (look s.rows b = some (z, es) ∧ w'.heap[b]? = w.heap[b]?) ∨
      ∃ arr e, w'.heap[b]? = some (.cells arr e (0, 0)) ∧ g'.rz b = z ∧ es.length ≤ g'.rc b ∧ g'.rc b * z ≤ arr.size ∧ g'.rc b ≤ maxLen ∧
      (∀ x ∈ es, x.length = z) ∧ ∀ (i j : Nat) (hi : i < es.length) (hj : j < (es[i]).length), ∃ u, arr[i * z + j]? = some u ∧ R w' s' g' ((es[i])[j]) u)
    (ht : ∀ r z L, look s'.toks r = some (z, L) → r < g'.nt ∧ ((look s.toks r = some (z, L) ∧ g'.tb r = g.tb r ∧ ∀ b o c, g.tb r = some (b, o, c) → w'.heap[b]? = w.heap[b]?) ∨
      match g'.tb r with
      | none => L = 0
      | some (b, o, c) => o = 0 ∧ (∃ arr e, w'.heap[b]? = some (.cells arr e (0, 0)) ∧ o + c * z ≤ arr.size) ∧ L ≤ c ∧ c ≤ maxLen))
    (hm : ∀ b m, look s'.maps b = some m → (look s.maps b = some m ∧ w'.heap[b]? = w.heap[b]?) ∨ ∃ o, w'.heap[b]? = some o ∧ ncell o = true ∧ OthRel o m)
    (d1 : ∀ b, (look s'.objs b).isSome → (look s'.rows b).isSome → False)
    (d2 : ∀ b r zL o c, look s'.toks r = some zL → g'.tb r = some (b, o, c) → (look s'.objs b).isSome ∨ (look s'.rows b).isSome → False)
    (d3 : ∀ b r zL o c r' zL' o' c', look s'.toks r = some zL → g'.tb r = some (b, o, c) → look s'.toks r' = some zL' → g'.tb r' = some (b, o', c') → r = r') : StRel w' s' g' := by
  refine ⟨fun b cs h => ?_, fun b z es h => ?_, fun r z L h => ?_, fun b m h => ?_, d1, d2, d3⟩
  · rcases ho b cs h with ⟨h1, h2⟩ | h1
    · obtain ⟨arr, e, h3, h4, h5⟩ := hst.objs b cs h1
      exact ⟨arr, e, by rw [h2]; exact h3, h4, fun j hj => let ⟨u, h6, h7⟩ := h5 j hj; ⟨u, h6, h7.step hs⟩⟩
    · exact h1
  · rcases hr b z es h with ⟨h1, h2⟩ | h1
    · obtain ⟨arr, e, h3, h4, h5, h6, h7, h8, h9⟩ := hst.rows b z es h1
      have hlt : b < w.heap.size := hst.rows_lt (by rw [h1]; rfl)
      exact ⟨arr, e, by rw [h2]; exact h3, by rw [hs.rz b hlt]; exact h4, by rw [hs.rc b hlt]; exact h5, by rw [hs.rc b hlt]; exact h6, by rw [hs.rc b hlt]; exact h7, h8,
        fun i j hi hj => let ⟨u, h10, h11⟩ := h9 i j hi hj; ⟨u, h10, h11.step hs⟩⟩
    · exact h1
  · obtain ⟨h0, h1⟩ := ht r z L h
    refine ⟨h0, ?_⟩
    rcases h1 with ⟨h1, h2, h3⟩ | h1
    · obtain ⟨h4, h5⟩ := hst.toks r z L h1
      rw [h2]
      cases hg : g.tb r with
      | none => rw [hg] at h5; exact h5
      | some q =>
        obtain ⟨b, o, c⟩ := q
        rw [hg] at h5
        obtain ⟨h6, ⟨arr, e, h7, h8⟩, h9⟩ := h5
        exact ⟨h6, ⟨arr, e, by rw [h3 b o c hg]; exact h7, h8⟩, h9⟩
    · exact h1
  · rcases hm b m h with ⟨h1, h2⟩ | h1
    · obtain ⟨es, h3, h4⟩ := hst.maps b m h1
      exact ⟨es, by rw [h2]; exact h3, h4⟩
    · exact h1

theorem W_ghost2 {c : Code} (h : ∀ w g a, Rel w s g E N a → ∃ E' s' g', Rel w s' g' E' N a ∧ Step w s g w s' g' ∧ W P N c E' s' Q) : W P N c E s Q := by
  intro w g a hr
  obtain ⟨E', s', g', h1, h2, h3⟩ := h w g a hr
  exact wpIn_mono' (fun e a w hp => hp.mono h2 (fun _ _ _ h => h)) (h3 w g' a h1)
theorem WL_ghost2 {l : List Ro} (h : ∀ w g a, Rel w s g E N a → ∃ E' s' g', Rel w s' g' E' N a ∧ Step w s g w s' g' ∧ WL P N l E' s' Q) : WL P N l E s Q := by
  intro ops l' hl w g a hr
  obtain ⟨E', s', g', h1, h2, h3⟩ := h w g a hr
  exact wpList_mono (fun e a w hp => hp.mono h2 (fun _ _ _ h => h)) _ _ _ (h3 ops l' hl w g' a h1)

/-- A new token. -/
theorem newTok (hst : StRel w s g) (z : Nat) :
    StRel w { s with toks := (g.nt, (z, 0)) :: s.toks } { g with nt := g.nt + 1, tb := fun k => if k = g.nt then none else g.tb k } ∧
    Step w s g w { s with toks := (g.nt, (z, 0)) :: s.toks } { g with nt := g.nt + 1, tb := fun k => if k = g.nt then none else g.tb k } ∧ look s.toks g.nt = none := by
  have hnone : look s.toks g.nt = none := by
    cases h : look s.toks g.nt with
    | none => rfl
    | some q => exact absurd (hst.toks g.nt q.1 q.2 h).1 (Nat.lt_irrefl _)
  have hl : ∀ r, r ≠ g.nt → look ((g.nt, (z, 0)) :: s.toks) r = look s.toks r := fun r hr => by simp [look, show ¬ g.nt = r from fun e => hr e.symm]
  have hl0 : look ((g.nt, (z, 0)) :: s.toks) g.nt = some (z, 0) := by simp [look]
  have key : ∀ r zL b o c, look ((g.nt, (z, 0)) :: s.toks) r = some zL → (if r = g.nt then none else g.tb r) = some (b, o, c) → look s.toks r = some zL ∧ g.tb r = some (b, o, c) := by
    intro r zL b o c h1 h2
    by_cases hr : r = g.nt
    · rw [if_pos hr] at h2; cases h2
    · rw [if_neg hr] at h2; rw [hl r hr] at h1; exact ⟨h1, h2⟩
  have hstep : Step w s g w { s with toks := (g.nt, (z, 0)) :: s.toks } { g with nt := g.nt + 1, tb := fun k => if k = g.nt then none else g.tb k } := by
    refine ⟨rfl, rfl, rfl, Nat.le_refl _, fun _ _ _ => rfl, fun a u hu ho => ⟨hu, fun h => ho ?_⟩, fun k hk h => ?_, fun _ _ => rfl, fun _ _ => rfl, Nat.le_succ _, fun r es v h => ?_⟩
    · rcases h with h | h | ⟨r, z', L, b, o, c, h1, h2, h3, h4⟩
      · exact .inl h
      · exact .inr (.inl h)
      · obtain ⟨h5, h6⟩ := key r _ b o c h1 h2
        exact .inr (.inr ⟨r, z', L, b, o, c, h5, h6, h3, h4⟩)
    · rcases h with h | h | ⟨r, zL, o, c, h1, h2⟩ | h
      · exact .inl h
      · exact .inr (.inl h)
      · obtain ⟨h5, h6⟩ := key r _ k o c h1 h2
        exact .inr (.inr (.inl ⟨r, zL, o, c, h5, h6⟩))
      · exact .inr (.inr (.inr h))
    · have hr : r ≠ g.nt := fun e => by have := h.1; omega
      refine ⟨Nat.lt_succ_of_lt h.1, fun z' L hz => ?_⟩
      rw [hl r hr] at hz
      simp only [if_neg hr]
      exact h.2 z' L hz
  refine ⟨hst.next hstep (fun b cs h => .inl ⟨h, rfl⟩) (fun b z es h => .inl ⟨h, rfl⟩) (fun r z' L h => ?_) (fun b m h => .inl ⟨h, rfl⟩) hst.d1 (fun b r zL o c h1 h2 h3 => ?_) (fun b r zL o c r' zL' o' c' h1 h2 h3 h4 => ?_), hstep, hnone⟩
  · by_cases hr : r = g.nt
    · subst hr
      rw [hl0] at h
      simp at h
      obtain ⟨rfl, rfl⟩ := h
      exact ⟨Nat.lt_succ_self _, .inr (by simp)⟩
    · rw [hl r hr] at h
      exact ⟨Nat.lt_succ_of_lt (hst.toks r z' L h).1, .inl ⟨h, by simp [hr], fun _ _ _ _ => rfl⟩⟩
  · obtain ⟨h5, h6⟩ := key r _ b o c h1 h2
    exact hst.d2 b r zL o c h5 h6 h3
  · obtain ⟨h5, h6⟩ := key r _ b o c h1 h2
    obtain ⟨h7, h8⟩ := key r' _ b o' c' h3 h4
    exact hst.d3 b r zL o c r' zL' o' c' h5 h6 h7 h8

theorem nil_rel (hst : StRel w s g) (z : Nat) : R w { s with toks := (g.nt, (z, 0)) :: s.toks } { g with nt := g.nt + 1, tb := fun k => if k = g.nt then none else g.tb k } (.li (some g.nt) []) (.slice none 0 0) := by
  refine .li _ _ none 0 0 ⟨0, 0, none⟩ z (fun _ _ => undef) rfl (Nat.zero_le _) (Nat.le_refl _) (by simp) (by simp) rfl (by simp) (by simp) (by simp) (fun r hr => ?_)
  injection hr with hr
  subst hr
  exact ⟨Nat.lt_succ_self _, fun z' L h => by
    simp [look] at h
    obtain ⟨rfl, rfl⟩ := h
    exact ⟨Nat.le_refl _, fun _ => ⟨by simp, by simp⟩⟩⟩

theorem Rel.tokNil (hr : Rel w s g E N a) {t : Nat} (ht : E.f t = .v (.slice none 0 0)) (z : Nat) :
    Rel w { s with toks := (g.nt, (z, 0)) :: s.toks } { g with nt := g.nt + 1, tb := fun k => if k = g.nt then none else g.tb k } (E.set (some t) (.li (some g.nt) [])) N a := by
  obtain ⟨h1, h2, h3⟩ := newTok hr.st z
  have hr' := hr.step h2 h1
  refine ⟨h1, hr'.size, hr'.ds, fun k => ?_⟩
  simp only [Env.set]
  split
  · rename_i hk
    subst hk
    have := hr.f k
    rw [ht] at this
    rw [this.v_eq]
    exact nil_rel hr.st z
  · exact hr'.f k
/-- A nil slice, that it may be appended to. -/
theorem W_tok {c : Code} (t z : Nat) (ht : E.f t = .v (.slice none 0 0)) (h : ∀ r, look s.toks r = none → W P N c (E.set (some t) (.li (some r) [])) { s with toks := (r, (z, 0)) :: s.toks } Q) : W P N c E s Q :=
  W_ghost2 fun w g a hr => ⟨_, _, _, hr.tokNil ht z, (newTok hr.st z).2.1, h _ (newTok hr.st z).2.2⟩
theorem WL_tok {l : List Ro} (t z : Nat) (ht : E.f t = .v (.slice none 0 0)) (h : ∀ r, look s.toks r = none → WL P N l (E.set (some t) (.li (some r) [])) { s with toks := (r, (z, 0)) :: s.toks } Q) : WL P N l E s Q :=
  WL_ghost2 fun w g a hr => ⟨_, _, _, hr.tokNil ht z, (newTok hr.st z).2.1, h _ (newTok hr.st z).2.2⟩

theorem Step.drew : Step w s g w.drew s g :=
  ⟨rfl, rfl, rfl, Nat.le_refl _, fun _ _ _ => rfl, fun _ _ h h' => ⟨h, h'⟩, fun _ _ h => h, fun _ _ => rfl, fun _ _ => rfl, Nat.le_refl _, fun _ _ _ h => h⟩
theorem StRel.drew (h : StRel w s g) : StRel w.drew s g :=
  h.next Step.drew (fun b cs hb => .inl ⟨hb, rfl⟩) (fun b z es hb => .inl ⟨hb, rfl⟩) (fun r z L hr => ⟨(h.toks r z L hr).1, .inl ⟨hr, rfl, fun _ _ _ _ => rfl⟩⟩) (fun b m hb => .inl ⟨hb, rfl⟩) h.d1 h.d2 h.d3
theorem Rel.drew (h : Rel w s g E N a) : Rel w.drew s g E N a := h.step Step.drew h.st.drew

/-- A token's row, now at the head of a new block. -/
theorem tokBlock (hst : StRel w s g) (arr : Array Value) (e : TypeId) (z cap : Nat) (es : List (List C)) (hcap : es.length ≤ cap) (hm : cap ≤ maxLen) (hsz : cap * z ≤ arr.size)
    (hz : ∀ x ∈ es, x.length = z) (u : Nat → Nat → Value)
    (hu : ∀ (i j : Nat) (hi : i < es.length) (hj : j < (es[i]).length), arr[i * z + j]? = some (u i j) ∧ R w s g ((es[i])[j]) (u i j) ∧ (u i j).oneCell' = true)
    (r : Nat) (T : List (Nat × (Nat × Nat))) (hT : ∀ q, q ≠ r → look T q = look s.toks q) (hT0 : look T r = some (z, es.length)) (n' : Nat) (hn' : g.nt ≤ n') (hrn : r < n')
    (hold : r = g.nt ∨ ∃ z0 L0, look s.toks r = some (z0, L0) ∧ L0 < es.length) :
    StRel (w.alloc (.cells arr e)) { s with toks := T } { g with nt := n', tb := fun q => if q = r then some (w.heap.size, 0, cap) else g.tb q } ∧
    Step w s g (w.alloc (.cells arr e)) { s with toks := T } { g with nt := n', tb := fun q => if q = r then some (w.heap.size, 0, cap) else g.tb q } ∧
    R (w.alloc (.cells arr e)) { s with toks := T } { g with nt := n', tb := fun q => if q = r then some (w.heap.size, 0, cap) else g.tb q } (.li (some r) es) (.slice (some ⟨w.heap.size, 0, none⟩) es.length cap) := by
  have key : ∀ q zL b o c, b < w.heap.size → look T q = some zL → (if q = r then some (w.heap.size, 0, cap) else g.tb q) = some (b, o, c) → look s.toks q = some zL ∧ g.tb q = some (b, o, c) := by
    intro q zL b o c hb h1 h2
    by_cases hq : q = r
    · rw [if_pos hq] at h2; injection h2 with h2; injection h2 with h2; omega
    · rw [if_neg hq] at h2; rw [hT q hq] at h1; exact ⟨h1, h2⟩
  have hstep : Step w s g (w.alloc (.cells arr e)) { s with toks := T } { g with nt := n', tb := fun q => if q = r then some (w.heap.size, 0, cap) else g.tb q } := by
    refine Step.alloc _ hst (fun a ha h => ?_) (fun k hk h => ?_) (fun _ _ => rfl) (fun _ _ => rfl) hn' (fun q es' v h => ?_)
    · rcases h with h | h | ⟨q, z', L, b, o, c, h1, h2, h3, h4⟩
      · exact .inl h
      · exact .inr (.inl h)
      · obtain ⟨h5, h6⟩ := key q _ b o c (by omega) h1 h2
        exact .inr (.inr ⟨q, z', L, b, o, c, h5, h6, h3, h4⟩)
    · rcases h with h | h | ⟨q, zL, o, c, h1, h2⟩ | h
      · exact .inl h
      · exact .inr (.inl h)
      · obtain ⟨h5, h6⟩ := key q _ k o c hk h1 h2
        exact .inr (.inr (.inl ⟨q, zL, o, c, h5, h6⟩))
      · exact .inr (.inr (.inr h))
    · refine ⟨Nat.lt_of_lt_of_le h.1 hn', fun z' L hq => ?_⟩
      by_cases hqr : q = r
      · subst hqr
        rw [hT0] at hq
        injection hq with hq
        injection hq with hq1 hq2
        rcases hold with hr | ⟨z0, L0, h1, h2⟩
        · have := h.1; omega
        · have := (h.2 z0 L0 h1).1
          exact ⟨by omega, fun hh => by omega⟩
      · rw [hT q hqr] at hq
        simp only [if_neg hqr]
        exact h.2 z' L hq
  have hfr := hst.fresh
  refine ⟨hst.next hstep (fun b cs h => .inl ⟨h, ?_⟩) (fun b z' es' h => .inl ⟨h, ?_⟩) (fun q z' L h => ?_) (fun b m h => .inl ⟨h, Go.RowKit.Below.heap_alloc w _ b (hst.maps_lt (by simp only at h; rw [h]; rfl))⟩) hst.d1 (fun b q zL o c h1 h2 h3 => ?_) (fun b q zL o c q' zL' o' c' h1 h2 h3 h4 => ?_), hstep, ?_⟩
  · exact Go.RowKit.Below.heap_alloc w _ b (hst.objs_lt (by simp only at h; rw [h]; rfl))
  · exact Go.RowKit.Below.heap_alloc w _ b (hst.rows_lt (by simp only at h; rw [h]; rfl))
  · by_cases hq : q = r
    · subst hq
      simp only at h
      rw [hT0] at h
      injection h with h
      injection h with h1 h2
      subst h1
      subst h2
      refine ⟨hrn, .inr ?_⟩
      show match (if q = q then some (w.heap.size, 0, cap) else g.tb q) with | none => _ | some (b, o, c) => _
      rw [if_pos rfl]
      exact ⟨rfl, ⟨arr, e, heap_new w _, by omega⟩, hcap, hm⟩
    · simp only at h
      rw [hT q hq] at h
      refine ⟨Nat.lt_of_lt_of_le (hst.toks q z' L h).1 hn', .inl ⟨h, by simp [hq], fun b o c hb => ?_⟩⟩
      exact Go.RowKit.Below.heap_alloc w _ b (hst.toks_lt h hb)
  · have hb : b < w.heap.size := by
      rcases h3 with h3 | h3
      · exact hst.objs_lt h3
      · exact hst.rows_lt h3
    obtain ⟨h5, h6⟩ := key q _ b o c hb h1 h2
    exact hst.d2 b q zL o c h5 h6 h3
  · by_cases hq : q = r
    · by_cases hq' : q' = r
      · omega
      · simp only [if_pos hq] at h2
        simp only [if_neg hq'] at h4
        simp only at h3
        rw [hT q' hq'] at h3
        injection h2 with h2
        injection h2 with h2
        have := hst.toks_lt h3 h4
        omega
    · by_cases hq' : q' = r
      · simp only [if_pos hq'] at h4
        simp only [if_neg hq] at h2
        simp only at h1
        rw [hT q hq] at h1
        injection h4 with h4
        injection h4 with h4
        have := hst.toks_lt h1 h2
        omega
      · simp only [if_neg hq] at h2
        simp only [if_neg hq'] at h4
        simp only at h1 h3
        rw [hT q hq] at h1
        rw [hT q' hq'] at h3
        exact hst.d3 b q zL o c q' zL' o' c' h1 h2 h3 h4
  · refine .li _ _ _ _ _ ⟨w.heap.size, 0, none⟩ z u rfl hm hcap hz (fun _ => rfl) rfl (fun i j hi hj => ⟨?_, ?_⟩) (fun i j hi hj => (hu i j hi hj).2.1.step hstep) (fun i j hi hj => (hu i j hi hj).2.2) (fun q hq => ?_)
    · simp only [Nat.zero_add]
      have := (hu i j hi hj).1
      simp only [World.cell?, heap_new]
      simpa using this
    · rintro (h | h | ⟨q, z', L, b, o, c, h1, h2, h3, h4⟩)
      · simp only [hfr.1] at h; cases h
      · simp only [hfr.2] at h; cases h
      · simp only at h3
        by_cases hq : q = r
        · subst hq
          simp only at h1
          rw [hT0] at h1
          injection h1 with h1
          injection h1 with h1 h5
          simp only [if_true] at h2
          injection h2 with h2
          injection h2 with h2 h6
          injection h6 with h6 h7
          have h8 : i + 1 ≤ es.length := hi
          have h9 := Nat.mul_le_mul_right z h8
          have h10 := hz _ (List.getElem_mem hi)
          rw [Nat.add_mul] at h9
          subst h1
          subst h5
          subst h6
          simp only at h4
          omega
        · simp only [if_neg hq] at h2
          simp only at h1
          rw [hT q hq] at h1
          have := hst.toks_lt h1 h2
          omega
    · injection hq with hq
      subst hq
      refine ⟨hrn, fun z' L hh => ?_⟩
      simp only at hh
      rw [hT0] at hh
      injection hh with hh
      injection hh with h1 h2
      subst h1
      subst h2
      exact ⟨Nat.le_refl _, fun _ => ⟨hz, by simp⟩⟩
end
end Go.VS
namespace Go.VS
open Go

theorem fill_seq (sz : Nat) : ∀ (vs : List Value) (i0 : Nat) (cells : Array Value), (∀ v ∈ vs, v.cells.size = sz) → (i0 + vs.length) * sz ≤ cells.size →
    ∃ cells', Instr.fill (fun i => some (i * sz, sz)) cells ((List.range' i0 vs.length).zip vs) = some cells' ∧ cells'.size = cells.size ∧ (∀ k, k < i0 * sz → cells'[k]? = cells[k]?) ∧
      ∀ (i j : Nat) (hi : i < vs.length), j < sz → cells'[(i0 + i) * sz + j]? = (vs[i]).cells[j]? := by
  intro vs
  induction vs with
  | nil => intro i0 cells _ _; exact ⟨cells, rfl, rfl, fun _ _ => rfl, fun i j hi => by simp at hi⟩
  | cons v vs ih =>
    intro i0 cells hv hl
    have hsz : v.cells.size = sz := hv v (by simp)
    have hl' : (i0 + 1 + vs.length) * sz ≤ cells.size := by simp only [List.length_cons] at hl; rw [show i0 + 1 + vs.length = i0 + (vs.length + 1) by omega]; exact hl
    have hfit : i0 * sz + sz ≤ cells.size := by
      have : (i0 + 1) * sz ≤ (i0 + 1 + vs.length) * sz := Nat.mul_le_mul_right _ (by omega)
      rw [Nat.add_mul, Nat.one_mul] at this
      omega
    have hfold := fun j => zipfold_get v.cells.toList 0 (i0 * sz) cells j (by simp [hsz]; exact hfit)
    have heq : v.cells.zipIdx.foldl (fun cs (c, j) => cs.setIfInBounds (i0 * sz + j) c) cells = (v.cells.toList.zipIdx 0).foldl (fun cs p => cs.setIfInBounds (i0 * sz + p.2) p.1) cells := by
      rw [← Array.foldl_toList]
      simp
    obtain ⟨cells', h1, h2, h3, h4⟩ := ih (i0 + 1) (v.cells.zipIdx.foldl (fun cs (c, j) => cs.setIfInBounds (i0 * sz + j) c) cells) (fun x hx => hv x (by simp [hx])) (by rw [heq, (hfold 0).1]; exact hl')
    refine ⟨cells', ?_, by rw [h2, heq, (hfold 0).1], fun k hk => ?_, fun i j hi hj => ?_⟩
    · simp only [List.length_cons, List.range'_succ, List.zip_cons_cons, Instr.fill]
      rw [if_neg (by simp [hsz]; omega)]
      exact h1
    · rw [h3 k (by rw [Nat.add_mul]; omega), heq, (hfold k).2, if_neg (by simp; omega)]
    · cases i with
      | zero =>
        rw [h3 _ (by rw [Nat.add_zero, Nat.add_mul, Nat.one_mul]; omega), heq, (hfold _).2, if_pos (by simp [hsz]; omega)]
        simp
      | succ i =>
        have := h4 i j (by simpa using hi) hj
        rw [show i0 + 1 + i = i0 + (i + 1) by omega] at this
        simpa using this

section
variable {P : Program} {w w1 w' : World} {s s1 s' : St} {g g1 g' : Gh} {E E1 : Env} {N : NR} {a : Act} {Q Q' : Ends}

def partsC (f : Nat → C) (ps : List (Nat × Operand)) : List (List C) := ps.map fun p => cellsOf (evo f p.2)
theorem zip_of_map {α β : Type} (l : List (Nat × α)) (f : α → β) : ∀ k, l.map (·.1) = List.range' k l.length → l.map (fun p => (p.1, f p.2)) = (List.range' k (l.map fun p => f p.2).length).zip (l.map fun p => f p.2) := by
  induction l with
  | nil => intro k _; rfl
  | cons p l ih =>
    intro k h
    simp only [List.map_cons, List.length_cons, List.range'_succ, List.cons.injEq] at h
    simp only [List.map_cons, List.length_cons, List.range'_succ, List.zip_cons_cons, h.1]
    rw [ih (k + 1) h.2]

theorem WL_buildSlice {d t n e : Nat} {ty : TypeId} {rest : List Ro} {ps : Array (Nat × Operand)} (ht : tel P t = some e) (hz : (tzero P e).isSome) (hps : ps.toList.map (·.1) = List.range' 0 n) (hn : n = ps.toList.length)
    (hlen : (partsC E.f ps.toList).all (fun x => x.length == tsz P e) = true) (hone : (partsC E.f ps.toList).all (fun x => x.all one) = true) (hsz : n * tsz P e ≤ 16777216) (hnm : n ≤ 16777216) (hd : d < N)
    (h : ∀ r, look s.toks r = none → WL P N rest (E.set (some d) (.li (some r) (partsC E.f ps.toList))) { s with toks := (r, (tsz P e, n)) :: s.toks } Q) :
    WL P N (⟨some d, .buildSlice t n ps, ty, .no⟩ :: rest) E s Q := by
  refine WL_core (fun k hk => by cases hk; exact hd) fun w g a o hr h1 h2 => ?_
  obtain ⟨i, z, hi, hz'⟩ : ∃ i z, P.info? e = some i ∧ i.zero = some z := by
    unfold tzero at hz
    cases hi : P.info? e with
    | none => simp [hi] at hz
    | some i =>
      cases hz' : i.zero with
      | none => simp [hi, hz'] at hz
      | some z => exact ⟨i, z, rfl, hz'⟩
  have hsize : i.size = tsz P e := by simp [tsz, hi]
  have hR := fun (k : Nat) (hk : k < ps.toList.length) => cellsOf_vals (hr.evo (ps.toList[k]).2) (by
    have := List.all_eq_true.1 hone (cellsOf (evo E.f (ps.toList[k]).2)) (by simp only [partsC, List.mem_map]; exact ⟨_, List.getElem_mem hk, rfl⟩)
    exact this)
  have hL : ∀ k (hk : k < ps.toList.length), (cellsOf (evo E.f (ps.toList[k]).2)).length = tsz P e := fun k hk => by
    have := List.all_eq_true.1 hlen (cellsOf (evo E.f (ps.toList[k]).2)) (by simp only [partsC, List.mem_map]; exact ⟨_, List.getElem_mem hk, rfl⟩)
    simpa using this
  have hvs : ∀ v ∈ ps.toList.map (fun p => a.eval p.2), v.cells.size = tsz P e := fun v hv => by
    obtain ⟨p, hp, rfl⟩ := List.mem_map.1 hv
    obtain ⟨k, hk, rfl⟩ := List.getElem_of_mem hp
    rw [(hR k hk).1, hL k hk]
  generalize hZ : (if n * tsz P e = 0 then #[] else z.cells) = Z
  obtain ⟨cells, hf1, hf2, _, hf3⟩ := fill_seq (tsz P e) (ps.toList.map fun p => a.eval p.2) 0 ((Array.range (n * tsz P e)).map fun k => Z[k % Z.size]!) hvs (by simp [hn])
  have hzip := zip_of_map ps.toList a.eval 0 (by rw [hps, hn])
  rw [← hzip] at hf1
  have hr0 : look s.toks g.nt = none := (newTok hr.st 0).2.2
  have hlen2 : (partsC E.f ps.toList).length = n := by simp [partsC, hn]
  obtain ⟨h3, h4, h5⟩ := tokBlock hr.st cells e (tsz P e) n (partsC E.f ps.toList) (by omega) (by unfold maxLen; omega) (by rw [hf2]; simp) (fun x hx => by have := List.all_eq_true.1 hlen x hx; simpa using this)
    (fun k j => (a.eval (ps.toList.getD k default).2).cells.getD j undef) (fun k j hk hj => by
      have hk' : k < ps.toList.length := by omega
      have e1 : (partsC E.f ps.toList)[k] = cellsOf (evo E.f (ps.toList[k]).2) := by simp [partsC]
      have hj' : j < (cellsOf (evo E.f (ps.toList[k]).2)).length := by rw [← e1]; exact hj
      obtain ⟨u, h6, h7, h8⟩ := (hR k hk').2 j hj'
      have h9 := hf3 k j (by simpa using hk') (by rw [← hL k hk']; exact hj')
      simp only [Nat.zero_add, List.getElem_map] at h9
      have e2 : ps.toList.getD k default = ps.toList[k] := by simp [List.getD, List.getElem?_eq_getElem hk']
      simp only [e2]
      have e3 : (a.eval (ps.toList[k]).2).cells.getD j undef = u := by rw [Array.getD_eq_getD_getElem?, h6]; rfl
      rw [e3]
      refine ⟨by rw [h9, h6], ?_, h8⟩
      have e4 : ((partsC E.f ps.toList)[k])[j]'hj = (cellsOf (evo E.f (ps.toList[k]).2))[j] := by simp [e1]
      rw [e4]
      exact h7) g.nt ((g.nt, (tsz P e, n)) :: s.toks) (fun q hq => by simp [look, show ¬ g.nt = q from fun e => hq e.symm]) (by simp [look, hlen2]) (g.nt + 1) (Nat.le_succ _) (Nat.lt_succ_self _) (.inl rfl)
  refine ⟨_, _, _, _, _, .inl ?_, by rw [hlen2] at h5; exact h5, h3, h4, h _ hr0⟩
  have hsz' : ¬ (16777216 < n * tsz P e) := by omega
  have hfz : (Instr.fill (fun i => some (i * tsz P e, tsz P e)) ((Array.range (n * tsz P e)).map fun k => Z[k % Z.size]!) (ps.map fun p => (p.1, a.eval p.2)).toList) = some cells := by simpa using hf1
  simp only [execOp, h1, Instr.buildSlice, Sem.run_bind, run_underlying (tel_u ht), Result.andThen_ok, isSlice_of_hsz (P := P) (t := e) (by simp [hi])]
  rw [if_neg (by omega)]
  by_cases h0 : n * tsz P e = 0
  · rw [if_pos h0] at hZ
    subst hZ
    rw [if_pos h0]
    simp only [Sem.run_bind, Sem.run_pure, Result.andThen_ok, hfz]
    simp [newRow, hlen2]
  · rw [if_neg h0] at hZ
    subst hZ
    rw [if_neg h0]
    simp only [Sem.run_bind, Sem.run_pure, Result.andThen_ok, zeroValue, typeInfo, run_program, hi, hz', hfz]
    simp [newRow, hlen2]
end
end Go.VS
namespace Go.VS
open Go
def tby (P : Program) (t : TypeId) : Nat := match P.info? t with | some i => i.bytes | none => 0
/-- The elements of a slice that is read; nil, too. -/
def elsC : C → Option (List (List C))
  | .li _ es => some es
  | .v (.slice none 0 0) => some []
  | _ => none
section
variable {P : Program} {w w1 w' : World} {s s1 s' : St} {g g1 g' : Gh} {E E1 : Env} {N : NR} {a : Act} {Q Q' : Ends}

theorem run_append_zero (t e : TypeId) (ty : TypeId) (ht : P.underlying t = some (.slice e)) (hi : (P.info? e).isSome) (A A2 : Option Addr) (n cap c2 : Nat) (h : n ≤ cap) :
    (Builtin.append_ #[t, t] ty #[.slice A n cap, .slice A2 0 c2]).run P w = .ok (.slice A n cap) w := by
  have h1 := run_underlying (P := P) ht
  have h2 := fun w : World => isSlice_of_hsz (P := P) hi w
  cases A <;> cases A2 <;> simp [Builtin.append_, h1, h2, Builtin.lenOf, h, Builtin.firstCells, loadCells, loadCellsFrom, storeCells]

theorem run_append_room' (t ty e et : TypeId) (ht : P.underlying t = some (.slice e)) (hi : (P.info? e).isSome)
    (b sLen sCap : Nat) (cur : Array Value) (hg : w.heap[b]? = some (.cells cur et (0, 0)))
    (a : Addr) (m c : Nat) (news : List Value) (hl : news.length = m * tsz P e) (hnews : ∀ j u, news[j]? = some u → w.cell? (a.add j) = some u) (h1 : ∀ u ∈ news, u.oneCell' = true)
    (hroom : sLen + m ≤ sCap) (hfit : sLen * tsz P e + news.length ≤ cur.size) :
    (Builtin.append_ #[t, t] ty #[.slice (some ⟨b, 0, none⟩) sLen sCap, .slice (some a) m c]).run P w =
      .ok (.slice (some ⟨b, 0, none⟩) (sLen + m) sCap) (w.setRow b (cur.toList.take (sLen * tsz P e) ++ news ++ cur.toList.drop (sLen * tsz P e + news.length)).toArray) := by
  have hf := run_firstCells_some (P := P) w (tsz P e) m a m c news hl hnews
  have hst := run_storeCells_at P b (sLen * tsz P e) et news 0 cur w hg (by simpa using hfit) h1
  simp only [Nat.add_zero] at hst
  simp [Builtin.append_, run_underlying ht, isSlice_of_hsz hi, Builtin.lenOf, hroom, hf, add_none, hst]

/-- What the source of an append has. -/
theorem els_cells {y : C} {es : List (List C)} {v : Value} {z : Nat} (hy : R w s g y v) (he : elsC y = some es) (hz : ∀ x ∈ es, x.length = z) :
    ∃ (A : Option Addr) (c : Nat) (u : Nat → Nat → Value), v = .slice A es.length c ∧
      (0 < es.length → ∃ ad : Addr, A = some ad ∧ ∀ k, k < es.length * z → w.cell? (ad.add k) = some (u (k / z) (k % z))) ∧
      (∀ (i j : Nat) (hi : i < es.length) (hj : j < (es[i]).length), R w s g ((es[i])[j]) (u i j) ∧ (u i j).oneCell' = true) := by
  unfold elsC at he
  split at he
  · rename_i tok es'
    cases he
    obtain ⟨A, cap, b, o, z', u, rfl, hm, hcap, hz', hA, hc, hr, ho, ht⟩ := hy.li_inv
    refine ⟨A, cap, u, rfl, fun hp => ⟨⟨b, o, none⟩, hA hp, fun k hk => ?_⟩, fun i j hi hj => ⟨hr i j hi hj, ho i j hi hj⟩⟩
    have hzz : z' = z := by rw [← hz' _ (List.getElem_mem hp), hz _ (List.getElem_mem hp)]
    subst hzz
    have hz0 : 0 < z' := by
      rcases Nat.eq_zero_or_pos z' with h0 | h0
      · subst h0; simp at hk
      · exact h0
    have hi : k / z' < es.length := by rw [Nat.div_lt_iff_lt_mul hz0]; exact hk
    have hj : k % z' < (es[k / z']).length := by rw [hz _ (List.getElem_mem hi)]; exact Nat.mod_lt _ hz0
    have := (hc (k / z') (k % z') hi hj).1
    rw [add_none]
    have e1 : k / z' * z' + k % z' = k := by rw [Nat.mul_comm]; exact Nat.div_add_mod k z'
    rw [e1] at this
    exact this
  · cases he
    cases hy
    exact ⟨none, 0, fun _ _ => undef, rfl, fun hp => absurd hp (by simp), fun i j hi => absurd hi (by simp)⟩
  · cases he

theorem flat_div {z k i j : Nat} (hj : j < z) (h : k = i * z + j) : k / z = i ∧ k % z = j := by
  subst h
  have hz : 0 < z := by omega
  rw [Nat.mul_comm]
  constructor
  · rw [Nat.mul_add_div hz, Nat.div_eq_of_lt hj]; omega
  · rw [Nat.mul_add_mod, Nat.mod_eq_of_lt hj]

theorem info_parts' {e : TypeId} (hz : (tzero P e).isSome) : ∃ i z, P.info? e = some i ∧ i.zero = some z ∧ i.size = tsz P e ∧ i.bytes = tby P e := by
  unfold tzero at hz
  cases hi : P.info? e with
  | none => simp [hi] at hz
  | some i =>
    cases hz' : i.zero with
    | none => simp [hi, hz'] at hz
    | some z => exact ⟨i, z, rfl, hz', by simp [tsz, hi], by simp [tby, hi]⟩

theorem app_get {α : Type} (l1 l2 : List (List α)) (i : Nat) (h : i < (l1 ++ l2).length) : (l1 ++ l2)[i] = if h1 : i < l1.length then l1[i] else l2[i - l1.length]'(by simp at h; omega) := by
  split
  · rename_i h1; rw [List.getElem_append_left h1]
  · rename_i h1; rw [List.getElem_append_right (by omega)]

/-- A NEW BLOCK FOR WHAT IS APPENDED TO. -/
theorem grow_tok (hst : StRel w s g) (es es2 : List (List C)) (z cap : Nat) (arr : Array Value) (e : TypeId) (u1 u2 : Nat → Nat → Value) (hz1 : ∀ x ∈ es, x.length = z) (hz2 : ∀ x ∈ es2, x.length = z)
    (hcap : es.length + es2.length ≤ cap) (hm : cap ≤ maxLen) (hsz : cap * z ≤ arr.size)
    (h1 : ∀ (i j : Nat) (hi : i < es.length) (hj : j < (es[i]).length), arr[i * z + j]? = some (u1 i j) ∧ R w s g ((es[i])[j]) (u1 i j) ∧ (u1 i j).oneCell' = true)
    (h2 : ∀ (i j : Nat) (hi : i < es2.length) (hj : j < (es2[i]).length), arr[(es.length + i) * z + j]? = some (u2 i j) ∧ R w s g ((es2[i])[j]) (u2 i j) ∧ (u2 i j).oneCell' = true)
    (r : Nat) (T : List (Nat × (Nat × Nat))) (hT : ∀ q, q ≠ r → look T q = look s.toks q) (hT0 : look T r = some (z, (es ++ es2).length)) (n' : Nat) (hn' : g.nt ≤ n') (hrn : r < n')
    (hold : r = g.nt ∨ ∃ z0 L0, look s.toks r = some (z0, L0) ∧ L0 < (es ++ es2).length) :
    ∃ g', StRel (w.alloc (.cells arr e)) { s with toks := T } g' ∧ Step w s g (w.alloc (.cells arr e)) { s with toks := T } g' ∧
      R (w.alloc (.cells arr e)) { s with toks := T } g' (.li (some r) (es ++ es2)) (.slice (some ⟨w.heap.size, 0, none⟩) (es.length + es2.length) cap) := by
  have h := tokBlock hst arr e z cap (es ++ es2) (by simpa using hcap) hm hsz (fun x hx => by rcases List.mem_append.1 hx with hx | hx; exact hz1 x hx; exact hz2 x hx)
    (fun i j => if i < es.length then u1 i j else u2 (i - es.length) j) (fun i j hi hj => by
      have e1 := app_get es es2 i hi
      by_cases hlt : i < es.length
      · rw [dif_pos hlt] at e1
        have hj' : j < (es[i]).length := by rw [← e1]; exact hj
        have := h1 i j hlt hj'
        simp only [if_pos hlt]
        have e2 : ((es ++ es2)[i])[j]'hj = (es[i])[j] := by simp [e1]
        rw [e2]
        exact this
      · rw [dif_neg hlt] at e1
        have hi' : i - es.length < es2.length := by simp at hi; omega
        have hj' : j < (es2[i - es.length]).length := by rw [← e1]; exact hj
        have := h2 (i - es.length) j hi' hj'
        simp only [if_neg hlt]
        have e2 : ((es ++ es2)[i])[j]'hj = (es2[i - es.length])[j] := by simp [e1]
        rw [e2]
        rw [show es.length + (i - es.length) = i by omega] at this
        exact this) r T hT hT0 n' hn' hrn hold
  refine ⟨_, h.1, h.2.1, ?_⟩
  have h3 := h.2.2
  rw [List.length_append] at h3
  exact h3

/-- The cells that an append brings, as a list. -/
def newsOf (u : Nat → Nat → Value) (m z : Nat) : List Value := (List.range (m * z)).map fun k => u (k / z) (k % z)
theorem newsOf_get (u : Nat → Nat → Value) (m z i j : Nat) (hi : i < m) (hj : j < z) : (newsOf u m z)[i * z + j]? = some (u i j) := by
  have hlt : i * z + j < m * z := by
    have := Nat.mul_le_mul_right z (show i + 1 ≤ m by omega)
    rw [Nat.add_mul] at this
    omega
  obtain ⟨h1, h2⟩ := flat_div hj (rfl : i * z + j = i * z + j)
  simp [newsOf, hlt, h1, h2]
theorem newsOf_length (u : Nat → Nat → Value) (m z : Nat) : (newsOf u m z).length = m * z := by simp [newsOf]
theorem newsOf_one {es : List (List C)} {u : Nat → Nat → Value} {z : Nat} (hz : ∀ x ∈ es, x.length = z) (h : ∀ (i j : Nat) (hi : i < es.length) (hj : j < (es[i]).length), (u i j).oneCell' = true) :
    ∀ v ∈ newsOf u es.length z, v.oneCell' = true := by
  intro v hv
  obtain ⟨k, hk, rfl⟩ := List.mem_map.1 hv
  simp at hk
  have hz0 : 0 < z := by
    rcases Nat.eq_zero_or_pos z with h0 | h0
    · subst h0; simp at hk
    · exact h0
  have hi : k / z < es.length := by rw [Nat.div_lt_iff_lt_mul hz0]; exact hk
  exact h _ _ hi (by rw [hz _ (List.getElem_mem hi)]; exact Nat.mod_lt _ hz0)

theorem maxLen_of {n b : Nat} (hb : 0 < b) (h : n * b ≤ 140737488355328) : n ≤ 140737488355328 := Nat.le_trans (Nat.le_mul_of_pos_right _ hb) h

theorem WL_append {d t e r z : Nat} {ty : TypeId} {rest : List Ro} {x y : Operand} {es es2 : List (List C)} (ht : tel P t = some e) (hz : (tzero P e).isSome) (hx : evo E.f x = .li (some r) es) (htok : look s.toks r = some (z, es.length)) (hzt : z = tsz P e) (hb0 : 0 < tby P e)
    (hy : elsC (evo E.f y) = some es2) (hlen : ∀ q ∈ es2, q.length = z) (hby : (es.length + es2.length) * tby P e ≤ 140737488355328) (hzs : ((tzero P e).map List.length) = some (tsz P e)) (hd : d < N)
    (h : WL P N rest (E.set (some d) (.li (some r) (es ++ es2))) { s with toks := putAt s.toks r (z, (es ++ es2).length) } Q) :
    WL P N (⟨some d, .call { callee := .builtin .append, args := #[x, y], argTypes := #[t, t] }, ty, .no⟩ :: rest) E s Q := by
  refine WL_core (fun k hk => by cases hk; exact hd) fun w g a o hr ho1 ho2 => ?_
  obtain ⟨i, zv, hi, hzv, hisz, hiby⟩ := info_parts' hz
  have hinf : (P.info? e).isSome := by rw [hi]; rfl
  have hvs : zv.cells.size = tsz P e := by simpa [tzero, hi, hzv] using hzs
  have hrx := hr.evo x
  rw [hx] at hrx
  obtain ⟨A, cap, b, off, z', u1, hv1, hm, hcap, hz', hA, hc, hru, ho, htk⟩ := hrx.li_inv
  have htk' := htk r rfl
  obtain ⟨hz1, htb⟩ := (htk'.2 z es.length htok).2 rfl
  obtain ⟨A2, c2, u2, hv2, hc2, hr2⟩ := els_cells (hr.evo y) hy hlen
  have hsum := maxLen_of hb0 hby
  subst hzt
  have hrun0 : ∀ (v' : Value) (w' : World), (Builtin.append_ #[t, t] o.type #[a.eval x, a.eval y]).run P w = .ok v' w' → (execOp a.eval o).run P w = .ok (.value v') w' := fun v' w' hq => by
    simp [execOp, ho1, resolve, invoke, builtin, hq]
  have hTq : ∀ q, q ≠ r → look (putAt s.toks r (tsz P e, (es ++ es2).length)) q = look s.toks q := fun q hq => by rw [look_putAt, if_neg hq]
  have hTr : look (putAt s.toks r (tsz P e, (es ++ es2).length)) r = some (tsz P e, (es ++ es2).length) := by rw [look_putAt, if_pos rfl, htok]; rfl
  have hold : look s.toks r = some (tsz P e, es.length) := htok
  have hrnt := (hr.st.toks r _ _ htok).1
  by_cases hm0 : es2.length = 0
  · -- nothing comes
    obtain rfl : es2 = [] := List.eq_nil_of_length_eq_zero hm0
    have hrun := run_append_zero (P := P) (w := w) t e o.type (tel_u ht) hinf A A2 es.length cap c2 hcap
    have hput : putAt s.toks r (tsz P e, (es ++ []).length) = s.toks ∨ True := .inr trivial
    have hsame : ∀ q, look (putAt s.toks r (tsz P e, (es ++ []).length)) q = look s.toks q := fun q => by
      by_cases hq : q = r
      · subst hq; rw [hTr, htok]; simp
      · exact hTq q hq
    have hstep : Step w s g w { s with toks := putAt s.toks r (tsz P e, (es ++ []).length) } g := by
      refine ⟨rfl, rfl, rfl, Nat.le_refl _, fun _ _ _ => rfl, fun a u hu hno => ⟨hu, fun hh => hno ?_⟩, fun k hk hh => ?_, fun _ _ => rfl, fun _ _ => rfl, Nat.le_refl _, fun q es' v hh => ⟨hh.1, fun z0 L0 hl => hh.2 z0 L0 (by rw [← hsame]; exact hl)⟩⟩
      · rcases hh with hh | hh | ⟨q, z0, L, b, o, c, h1, h2, h3⟩
        · exact .inl hh
        · exact .inr (.inl hh)
        · exact .inr (.inr ⟨q, z0, L, b, o, c, by rw [← hsame]; exact h1, h2, h3⟩)
      · rcases hh with hh | hh | ⟨q, zL, o, c, h1, h2⟩ | hh
        · exact .inl hh
        · exact .inr (.inl hh)
        · exact .inr (.inr (.inl ⟨q, zL, o, c, by rw [← hsame]; exact h1, h2⟩))
        · exact .inr (.inr (.inr hh))
    have hst' : StRel w { s with toks := putAt s.toks r (tsz P e, (es ++ []).length) } g :=
      hr.st.next hstep (fun b cs hb => .inl ⟨hb, rfl⟩) (fun b z es hb => .inl ⟨hb, rfl⟩)
        (fun q z0 L hq => by rw [hsame] at hq; exact ⟨(hr.st.toks q z0 L hq).1, .inl ⟨hq, rfl, fun _ _ _ _ => rfl⟩⟩) (fun b m hb => .inl ⟨hb, rfl⟩) hr.st.d1
        (fun b q zL o c h1 h2 h3 => hr.st.d2 b q zL o c (by rw [← hsame]; exact h1) h2 h3)
        (fun b q zL o c q' zL' o' c' h1 h2 h3 h4 => hr.st.d3 b q zL o c q' zL' o' c' (by rw [← hsame]; exact h1) h2 (by rw [← hsame]; exact h3) h4)
    have hfin := hrx.step hstep
    rw [hv1] at hfin
    refine ⟨_, w, _, g, _, .inl (hrun0 _ _ (by rw [hv1, hv2]; exact hrun)), ?_, hst', hstep, h⟩
    rw [List.append_nil] at hfin ⊢
    exact hfin
  · obtain ⟨ad2, rfl, hcell2⟩ := hc2 (by omega)
    have hl2 : (newsOf u2 es2.length (tsz P e)).length = es2.length * tsz P e := newsOf_length _ _ _
    have hn2 : ∀ j v, (newsOf u2 es2.length (tsz P e))[j]? = some v → w.cell? (ad2.add j) = some v := fun j v hj => by
      obtain ⟨hj1, hj2⟩ := List.getElem?_eq_some_iff.1 hj
      rw [hl2] at hj1
      rw [hcell2 j hj1, ← hj2]
      simp [newsOf]
    have ho2' := newsOf_one hlen (fun i j hi hj => (hr2 i j hi hj).2)
    have hsum' : es.length + es2.length ≤ maxLen := by unfold maxLen; omega
    cases hgt : g.tb r with
    | none =>
      -- it was nil
      rw [hgt] at htb
      have hes0 : es.length = 0 := by rw [hv1] at htb; injection htb
      obtain rfl : es = [] := List.eq_nil_of_length_eq_zero hes0
      have hrun := run_append_nil (P := P) w t o.type e i zv (tel_u ht) hi hzv ad2 es2.length c2 (newsOf u2 es2.length (tsz P e)) (by rw [hisz]; exact hl2) hn2 (by omega) (by omega) (by rw [hiby]; simp at hby; omega)
      have hge := grownCap_ge w es2.length 0 e
      have hcm : grownCap w es2.length 0 e ≤ maxLen := grownCap_le_maxLen w es2.length 0 e (by simpa using hsum')
      obtain ⟨g', h1, h2, h3⟩ := grow_tok (w := w.drew) hr.st.drew [] es2 (tsz P e) (grownCap w es2.length 0 e) ((newsOf u2 es2.length (tsz P e)).toArray ++ Builtin.zeroCells zv.cells (grownCap w es2.length 0 e - es2.length)) e (fun _ _ => undef) u2
        (by simp) hlen (by simpa using hge) hcm (by
          simp only [Array.size_append, List.size_toArray, hl2, size_zeroCells, hvs, ← Nat.add_mul]
          exact Nat.mul_le_mul_right _ (by omega)) (fun i j hi => absurd hi (by simp)) (fun i j hi hj => ⟨by
            have hjz : j < tsz P e := by rw [← hlen _ (List.getElem_mem hi)]; exact hj
            have hq := newsOf_get u2 es2.length (tsz P e) i j hi hjz
            have hql := (List.getElem?_eq_some_iff.1 hq).1
            simp only [List.length_nil, Nat.zero_add]
            rw [Array.getElem?_append_left (by simpa using hql)]
            simpa using hq, (hr2 i j hi hj).1.step Step.drew, (hr2 i j hi hj).2⟩) r _ hTq hTr g.nt (Nat.le_refl _) hrnt (.inr ⟨_, _, hold, by simp; omega⟩)
      simp only [List.length_nil, Nat.zero_add, World.size_drew] at h3
      exact ⟨_, _, _, g', _, .inl (hrun0 _ _ (by rw [htb, hv2]; exact hrun)), h3, h1, Step.drew.trans h2, h⟩
    | some q =>
      obtain ⟨b', o', c'⟩ := q
      rw [hgt] at htb
      have hst0 := (hr.st.toks r _ _ htok).2
      rw [hgt] at hst0
      obtain ⟨ho'0, ⟨arr, et, harr, hasz⟩, hLc, hcm⟩ := hst0
      subst ho'0
      have hval : A = some ⟨b', 0, none⟩ ∧ cap = c' := by
        rw [hv1] at htb
        injection htb with h1 h2 h3
        exact ⟨h1, h3⟩
      obtain ⟨rfl, rfl⟩ := hval
      by_cases hroom : es.length + es2.length ≤ cap
      · -- there is room
        have hfit : es.length * tsz P e + (newsOf u2 es2.length (tsz P e)).length ≤ arr.size := by
          rw [hl2, ← Nat.add_mul]
          have := Nat.mul_le_mul_right (tsz P e) hroom
          omega
        have hrun := run_append_room' (P := P) (w := w) t o.type e et (tel_u ht) hinf b' es.length cap arr harr ad2 es2.length c2 (newsOf u2 es2.length (tsz P e)) hl2 hn2 ho2' hroom hfit
        have hownsub : ∀ a, own { s with toks := putAt s.toks r (tsz P e, (es ++ es2).length) } g a → own s g a := fun a ha => by
          rcases ha with ha | ha | ⟨q, z0, L, b, o, c, h1, h2, h3, h4⟩
          · exact .inl ha
          · exact .inr (.inl ha)
          · by_cases hq : q = r
            · subst hq
              simp only at h1
              rw [hTr] at h1
              injection h1 with h1
              injection h1 with h1 h5
              subst h1
              subst h5
              refine .inr (.inr ⟨q, _, _, b, o, c, htok, h2, h3, ?_⟩)
              have := Nat.mul_le_mul_right (tsz P e) (show es.length ≤ (es ++ es2).length by simp)
              omega
            · simp only at h1
              rw [hTq q hq] at h1
              exact .inr (.inr ⟨q, z0, L, b, o, c, h1, h2, h3, h4⟩)
        have hownB : ∀ k, ownB { s with toks := putAt s.toks r (tsz P e, (es ++ es2).length) } g k → ownB s g k := fun k hk => by
          rcases hk with hk | hk | ⟨q, zL, o, c, h1, h2⟩ | hk
          · exact .inl hk
          · exact .inr (.inl hk)
          · by_cases hq : q = r
            · subst hq; exact .inr (.inr (.inl ⟨q, _, o, c, htok, h2⟩))
            · simp only at h1
              rw [hTq q hq] at h1
              exact .inr (.inr (.inl ⟨q, zL, o, c, h1, h2⟩))
          · exact .inr (.inr (.inr hk))
        have hstep : Step w s g (w.setRow b' (arr.toList.take (es.length * tsz P e) ++ newsOf u2 es2.length (tsz P e) ++ arr.toList.drop (es.length * tsz P e + (newsOf u2 es2.length (tsz P e)).length)).toArray) { s with toks := putAt s.toks r (tsz P e, (es ++ es2).length) } g := by
          refine Step.setRow arr _ et harr (.inr (.inr (.inl ⟨r, _, 0, cap, htok, hgt⟩))) (fun j hj u hu => ?_) hownsub hownB (fun _ _ => rfl) (fun _ _ => rfl) (Nat.le_refl _) (fun q es' v hh => ⟨hh.1, fun z0 L0 hl => ?_⟩)
          · rw [seg_get _ _ _ hfit, if_neg]
            · exact hu
            · intro hin
              exact hj (.inr (.inr ⟨r, _, _, b', 0, cap, htok, hgt, rfl, by simp only; omega⟩))
          · by_cases hq : q = r
            · subst hq
              simp only at hl
              rw [hTr] at hl
              injection hl with hl
              injection hl with hl1 hl2'
              have := (hh.2 _ _ htok).1
              simp only [List.length_append] at hl2'
              exact ⟨by omega, fun hh => by omega⟩
            · simp only at hl
              rw [hTq q hq] at hl
              exact hh.2 z0 L0 hl
        have hne : ∀ k, (look s.objs k).isSome ∨ (look s.rows k).isSome → k ≠ b' := fun k hk e => hr.st.d2 b' r _ 0 cap htok hgt (by rw [← e]; exact hk)
        have hst' : StRel (w.setRow b' (arr.toList.take (es.length * tsz P e) ++ newsOf u2 es2.length (tsz P e) ++ arr.toList.drop (es.length * tsz P e + (newsOf u2 es2.length (tsz P e)).length)).toArray) { s with toks := putAt s.toks r (tsz P e, (es ++ es2).length) } g := by
          refine hr.st.next hstep (fun b cs hb => .inl ⟨hb, setRow_other w b' b _ (hne b (.inl (by simp only at hb; rw [hb]; rfl)))⟩) (fun b z es hb => .inl ⟨hb, setRow_other w b' b _ (hne b (.inr (by simp only at hb; rw [hb]; rfl)))⟩)
            (fun q z0 L hq => ?_) (fun b m hb => .inl ⟨hb, setRow_other w b' b _ (hr.st.maps_ne (by simp only at hb; rw [hb]; rfl) harr)⟩) hr.st.d1 (fun b q zL o c h1 h2 h3 => ?_) (fun b q zL o c q' zL' o' c' h1 h2 h3 h4 => ?_)
          · by_cases hqr : q = r
            · subst hqr
              simp only at hq
              rw [hTr] at hq
              injection hq with hq
              injection hq with hq1 hq2
              subst hq1
              subst hq2
              refine ⟨hrnt, .inr ?_⟩
              rw [hgt]
              exact ⟨rfl, ⟨_, et, setRow_heap w b' arr _ et (0, 0) harr, by rw [seg_size _ _ _ hfit]; exact hasz⟩, by simpa using hroom, hcm⟩
            · simp only at hq
              rw [hTq q hqr] at hq
              refine ⟨(hr.st.toks q z0 L hq).1, .inl ⟨hq, rfl, fun b o c hb => setRow_other w b' b _ (fun e => hqr ?_)⟩⟩
              subst e
              exact hr.st.d3 b q _ o c r _ 0 cap hq hb htok hgt
          · by_cases hqr : q = r
            · subst hqr; exact hr.st.d2 b q _ o c htok h2 h3
            · simp only at h1
              rw [hTq q hqr] at h1
              exact hr.st.d2 b q zL o c h1 h2 h3
          · have h1' : ∃ zL, look s.toks q = some zL := by
              by_cases hqr : q = r
              · subst hqr; exact ⟨_, htok⟩
              · simp only at h1; rw [hTq q hqr] at h1; exact ⟨_, h1⟩
            have h3' : ∃ zL, look s.toks q' = some zL := by
              by_cases hqr : q' = r
              · subst hqr; exact ⟨_, htok⟩
              · simp only at h3; rw [hTq q' hqr] at h3; exact ⟨_, h3⟩
            obtain ⟨zL1, h1'⟩ := h1'
            obtain ⟨zL2, h3'⟩ := h3'
            exact hr.st.d3 b q zL1 o c q' zL2 o' c' h1' h2 h3' h4
        have hzz : 0 < es.length → z' = tsz P e := fun hp => by rw [← hz' _ (List.getElem_mem hp), hz1 _ (List.getElem_mem hp)]
        refine ⟨_, _, _, g, _, .inl (hrun0 _ _ (by rw [hv1, hv2]; exact hrun)), ?_, hst', hstep, h⟩
        have hlenz : ∀ x ∈ es ++ es2, x.length = tsz P e := fun x hx => by rcases List.mem_append.1 hx with hx | hx; exact hz1 x hx; exact hlen x hx
        refine .li (some r) (es ++ es2) (some ⟨b', 0, none⟩) _ cap ⟨b', 0, none⟩ (tsz P e) (fun i j => if i < es.length then u1 i j else u2 (i - es.length) j) (by simp) hm hroom hlenz (fun _ => rfl) rfl (fun i j hi hj => ?_) (fun i j hi hj => ?_) (fun i j hi hj => ?_) (fun q hq => ?_)
        · have e1 := app_get es es2 i hi
          have hjz : j < tsz P e := by rw [← hlenz _ (List.getElem_mem hi)]; exact hj
          refine ⟨?_, ?_⟩
          · simp only [World.cell?, setRow_heap w b' arr _ et (0, 0) harr, Nat.zero_add]
            by_cases hlt : i < es.length
            · rw [dif_pos hlt] at e1
              have hj' : j < (es[i]).length := by rw [← e1]; exact hj
              have hq := (hc i j hlt hj').1
              have hAA := hA (by omega)
              injection hAA with hAA
              injection hAA with hA1 hA2
              subst hA1
              subst hA2
              rw [hzz (by omega)] at hq
              simp only [World.cell?, harr, Nat.zero_add] at hq
              simp only [if_pos hlt]
              simp only [Option.isSome_none, Bool.false_eq_true, if_false] at hq ⊢
              rw [seg_get _ _ _ hfit, if_neg]
              · exact hq
              · intro hin
                have := Nat.mul_le_mul_right (tsz P e) (show i + 1 ≤ es.length by omega)
                rw [Nat.add_mul] at this
                omega
            · rw [dif_neg hlt] at e1
              have hi' : i - es.length < es2.length := by simp at hi; omega
              simp only [if_neg hlt, Option.isSome_none, Bool.false_eq_true, if_false]
              have h5 : es.length * tsz P e + (i - es.length) * tsz P e = i * tsz P e := by rw [← Nat.add_mul]; congr 1; omega
              have h6 := newsOf_get u2 es2.length (tsz P e) (i - es.length) j hi' hjz
              have h7 := (List.getElem?_eq_some_iff.1 h6).1
              rw [seg_get _ _ _ hfit, if_pos (by omega), show i * tsz P e + j - es.length * tsz P e = (i - es.length) * tsz P e + j by omega]
              exact h6
          · rintro (hh | hh | ⟨q, z0, L, b, o, c, h1, h2, h3, h4⟩)
            · exact hne b' (.inl hh) rfl
            · exact hne b' (.inr hh) rfl
            · simp only at h3
              subst h3
              have hqr : q = r := by
                by_cases hqr : q = r
                · exact hqr
                · simp only at h1
                  rw [hTq q hqr] at h1
                  exact hr.st.d3 b' q _ o c r _ 0 cap h1 h2 htok hgt
              subst hqr
              simp only at h1
              rw [hTr] at h1
              injection h1 with h1
              injection h1 with h1 h5
              rw [hgt] at h2
              injection h2 with h2
              injection h2 with h2 h6
              injection h6 with h6 h7
              subst h1
              subst h5
              subst h6
              have := Nat.mul_le_mul_right (tsz P e) (show i + 1 ≤ (es ++ es2).length from hi)
              rw [Nat.add_mul] at this
              simp only at h4
              omega
        · have e1 := app_get es es2 i hi
          by_cases hlt : i < es.length
          · rw [dif_pos hlt] at e1
            have hj' : j < (es[i]).length := by rw [← e1]; exact hj
            have e2 : ((es ++ es2)[i])[j]'hj = (es[i])[j] := by simp [e1]
            rw [e2]
            simp only [if_pos hlt]
            exact (hru i j hlt hj').step hstep
          · rw [dif_neg hlt] at e1
            have hi' : i - es.length < es2.length := by simp at hi; omega
            have hj' : j < (es2[i - es.length]).length := by rw [← e1]; exact hj
            have e2 : ((es ++ es2)[i])[j]'hj = (es2[i - es.length])[j] := by simp [e1]
            rw [e2]
            simp only [if_neg hlt]
            exact (hr2 (i - es.length) j hi' hj').1.step hstep
        · have e1 := app_get es es2 i hi
          by_cases hlt : i < es.length
          · rw [dif_pos hlt] at e1
            simp only [if_pos hlt]
            exact ho i j hlt (by rw [← e1]; exact hj)
          · rw [dif_neg hlt] at e1
            simp only [if_neg hlt]
            exact (hr2 (i - es.length) j (by simp at hi; omega) (by rw [← e1]; exact hj)).2
        · injection hq with hq
          subst hq
          refine ⟨hrnt, fun z0 L hh => ?_⟩
          simp only at hh
          rw [hTr] at hh
          injection hh with hh
          injection hh with h1 h2
          subst h1
          subst h2
          refine ⟨Nat.le_refl _, fun _ => ⟨hlenz, ?_⟩⟩
          rw [hgt]
          simp
      · -- a new block
        have hzz : 0 < es.length → z' = tsz P e := fun hp => by rw [← hz' _ (List.getElem_mem hp), hz1 _ (List.getElem_mem hp)]
        have hold1 : ∀ j v, (newsOf u1 es.length (tsz P e))[j]? = some v → w.cell? ((⟨b', 0, none⟩ : Addr).add j) = some v := fun j v hj => by
          obtain ⟨hj1, hj2⟩ := List.getElem?_eq_some_iff.1 hj
          rw [newsOf_length] at hj1
          have hz0 : 0 < tsz P e := by
            rcases Nat.eq_zero_or_pos (tsz P e) with h0 | h0
            · rw [h0] at hj1; simp at hj1
            · exact h0
          have hi' : j / tsz P e < es.length := by rw [Nat.div_lt_iff_lt_mul hz0]; exact hj1
          have hj' : j % tsz P e < (es[j / tsz P e]).length := by rw [hz1 _ (List.getElem_mem hi')]; exact Nat.mod_lt _ hz0
          have hq := (hc _ _ hi' hj').1
          have hAA := hA (Nat.lt_of_le_of_lt (Nat.zero_le _) hi')
          injection hAA with hAA
          injection hAA with hA1 hA2
          subst hA1
          subst hA2
          rw [hzz (Nat.lt_of_le_of_lt (Nat.zero_le _) hi')] at hq
          have e1 : j / tsz P e * tsz P e + j % tsz P e = j := by rw [Nat.mul_comm]; exact Nat.div_add_mod j _
          rw [e1] at hq
          rw [add_none, hq, ← hj2]
          simp [newsOf]
        have hrun := run_append_grow (P := P) w t o.type e i zv (tel_u ht) hi hzv ⟨b', 0, none⟩ es.length cap (newsOf u1 es.length (tsz P e)) (by rw [hisz, newsOf_length]) hold1 ad2 es2.length c2 (newsOf u2 es2.length (tsz P e)) (by rw [hisz]; exact hl2) hn2
          (by omega) (by omega) (by rw [hiby]; exact growslice_fits (by omega) hby)
        have hge := grownCap_ge w (es.length + es2.length) cap e
        have hcm' : grownCap w (es.length + es2.length) cap e ≤ maxLen := grownCap_le_maxLen w _ _ e hsum'
        obtain ⟨g', h1, h2, h3⟩ := grow_tok (w := w.drew) hr.st.drew es es2 (tsz P e) (grownCap w (es.length + es2.length) cap e)
          ((newsOf u1 es.length (tsz P e)).toArray ++ (newsOf u2 es2.length (tsz P e)).toArray ++ Builtin.zeroCells zv.cells (grownCap w (es.length + es2.length) cap e - (es.length + es2.length))) e u1 u2
          hz1 hlen hge hcm' (by
            simp only [Array.size_append, List.size_toArray, newsOf_length, size_zeroCells, hvs, ← Nat.add_mul]
            exact Nat.mul_le_mul_right _ (by omega))
          (fun i j hi hj => ⟨by
            have hjz : j < tsz P e := by rw [← hz1 _ (List.getElem_mem hi)]; exact hj
            have hq := newsOf_get u1 es.length (tsz P e) i j hi hjz
            have hql := (List.getElem?_eq_some_iff.1 hq).1
            rw [Array.append_assoc, Array.getElem?_append_left (by simpa using hql)]
            simpa using hq, (hru i j hi hj).step Step.drew, ho i j hi hj⟩)
          (fun i j hi hj => ⟨by
            have hjz : j < tsz P e := by rw [← hlen _ (List.getElem_mem hi)]; exact hj
            have hq := newsOf_get u2 es2.length (tsz P e) i j hi hjz
            have hql := (List.getElem?_eq_some_iff.1 hq).1
            rw [Array.append_assoc, Array.getElem?_append_right (by simp [newsOf_length, Nat.add_mul]; omega), List.size_toArray, newsOf_length,
              show (es.length + i) * tsz P e + j - es.length * tsz P e = i * tsz P e + j by rw [Nat.add_mul]; omega, Array.getElem?_append_left (by simpa using hql)]
            simpa using hq, (hr2 i j hi hj).1.step Step.drew, (hr2 i j hi hj).2⟩) r _ hTq hTr g.nt (Nat.le_refl _) hrnt (.inr ⟨_, _, hold, by simp; omega⟩)
        simp only [World.size_drew] at h3
        exact ⟨_, _, _, g', _, .inl (hrun0 _ _ (by rw [hv1, hv2]; exact hrun)), h3, h1, Step.drew.trans h2, h⟩
end
end Go.VS
namespace Go.VS
open Go
def drop1 : C → C
  | .li _ es => .li none es
  | .v (.slice none 0 0) => .li none []
  | c => c
/-- A value as it is handed on: nothing may be appended to it. -/
def strip : C → C
  | .agg cs => .agg (cs.map drop1)
  | .tup cs => .tup (cs.map fun c => match c with | .agg ds => .agg (ds.map drop1) | c => drop1 c)
  | c => drop1 c

/-- An argument as it is handed on: nil stays nil. -/
def dropA : C → C
  | .li _ es => .li none es
  | c => c
def stripA : C → C
  | .agg cs => .agg (cs.map dropA)
  | c => dropA c

abbrev KR := C → St → Prop
abbrev KP := List PanicEntry → St → Prop
def CPost (w : World) (s : St) (g : Gh) (K : KR) (Kp : KP) : Ending → World → Prop
  | .returned v, w' => ∃ c s' g', StRel w' s' g' ∧ Step w s g w' s' g' ∧ R w' s' g' c v ∧ K c s'
  | .panicked ch, w' => ∃ s' g', StRel w' s' g' ∧ Step w s g w' s' g' ∧ Kp ch s'
  | .outgrown, _ => False
def Callable (P : Program) (k : FuncId) : Prop := ∀ (vals : Array Value) w, (callFunc k vals).run P w = .ok (.enter k vals) w
/-- A CALL, told by what is known of its arguments. -/
def CallC (P : Program) (k : FuncId) (args : List C) (s : St) (K : KR) (Kp : KP) : Prop :=
  Callable P k ∧ ∀ w g (vals : Array Value), StRel w s g → (hn : vals.size = args.length) → (∀ (j : Nat) (hj : j < args.length), R w s g (args[j]) (vals[j]'(by omega))) → Calls P k vals w (CPost w s g K Kp)

section
variable {P : Program} {w w1 w' : World} {s s1 s' : St} {g g1 g' : Gh} {E E1 : Env} {N : NR} {a : Act} {Q Q' : Ends}

theorem nil_li : R w s g (.li none []) (.slice none 0 0) :=
  .li none [] none 0 0 ⟨0, 0, none⟩ 0 (fun _ _ => undef) rfl (Nat.zero_le _) (Nat.le_refl _) (by simp) (by simp) rfl (by simp) (by simp) (by simp) (fun r hr => by cases hr)
theorem VR.drop1 {c : C} {v : Value} (h : R w s g c v) : R w s g (drop1 c) v := by
  cases c with
  | li tok es =>
    cases h with
    | li _ _ A n cap ad z u hn hm hcap hz hA hs hc hr ho ht => exact .li none es A n cap ad z u hn hm hcap hz hA hs hc hr ho (fun r hr => by cases hr)
  | v x =>
    unfold VS.drop1
    split
    · rename_i he; cases he
    · rename_i he; cases he; rw [h.v_eq]; exact nil_li
    · exact h
  | _ => exact h
theorem VR.strip {c : C} {v : Value} (h : R w s g c v) : R w s g (strip c) v := by
  cases c with
  | li tok es => exact h.drop1
  | v x => exact h.drop1
  | agg cs =>
    obtain ⟨vs, hn, rfl, hr⟩ := h.agg_inv
    exact .agg _ vs (by simpa using hn) (fun j hj => by simp at hj; simpa using (hr j hj).drop1)
  | tup cs =>
    obtain ⟨vs, hn, rfl, hr⟩ := h.tup_inv
    refine .tup _ vs (by simpa using hn) (fun j hj => ?_)
    simp at hj
    have h1 := hr j hj
    simp only [List.getElem_map]
    split
    · rename_i ds hds
      rw [hds] at h1
      obtain ⟨vs', hn', he, hr'⟩ := h1.agg_inv
      rw [he]
      exact .agg _ vs' (by simpa using hn') (fun j hj => by simp at hj; simpa using (hr' j hj).drop1)
    · exact h1.drop1
  | _ => exact h

theorem VR.dropA {c : C} {v : Value} (h : R w s g c v) : R w s g (dropA c) v := by
  cases c with
  | li tok es =>
    cases h with
    | li _ _ A n cap ad z u hn hm hcap hz hA hs hc hr ho ht => exact .li none es A n cap ad z u hn hm hcap hz hA hs hc hr ho (fun r hr => by cases hr)
  | _ => exact h
theorem VR.stripA {c : C} {v : Value} (h : R w s g c v) : R w s g (stripA c) v := by
  cases c with
  | li tok es => exact h.dropA
  | agg cs =>
    obtain ⟨vs, hn, rfl, hr⟩ := h.agg_inv
    exact .agg _ vs (by simpa using hn) (fun j hj => by simp at hj; simpa using (hr j hj).dropA)
  | _ => exact h

/-- Arguments may be told with less. -/
theorem CallC.less {k : FuncId} {args args' : List C} {K : KR} {Kp : KP} (h : CallC P k args' s K Kp) (hl : args.length = args'.length) (hr : ∀ w g (v : Value) (j : Nat) (hj : j < args.length), R w s g (args[j]) v → R w s g (args'[j]'(by omega)) v) : CallC P k args s K Kp :=
  ⟨h.1, fun w g vals hs hn hq => h.2 w g vals hs (by omega) (fun j hj => hr w g _ j (by omega) (hq j (by omega)))⟩

theorem CallC.mono {k : FuncId} {args : List C} {K K' : KR} {Kp Kp' : KP} (h : CallC P k args s K Kp) (h1 : ∀ c s, K c s → K' c s) (h2 : ∀ c s, Kp c s → Kp' c s) : CallC P k args s K' Kp' :=
  ⟨h.1, fun w g vals hs hn hr => (h.2 w g vals hs hn hr).mono fun e w' he => by
    cases e with
    | returned v => obtain ⟨c, s', g', q1, q2, q3, q4⟩ := he; exact ⟨c, s', g', q1, q2, q3, h1 _ _ q4⟩
    | panicked ch => obtain ⟨s', g', q1, q2, q3⟩ := he; exact ⟨s', g', q1, q2, h2 _ _ q3⟩
    | outgrown => exact he⟩

def argsC (f : Nat → C) (first : Array Value) (args : Array Operand) (captured : Array Value) : List C :=
  first.toList.map .v ++ args.toList.map (fun x => stripA (evo f x)) ++ captured.toList.map .v

theorem WL_call {d : Option Nat} {fo : Operand} {args : Array Operand} {tys : Array TypeId} {ty : TypeId} {rest : List Ro} {k : FuncId} {first captured : Array Value}
    (hf : evo E.f fo = .v (.func (.func k) first captured)) (hd : ∀ k, d = some k → k < N)
    (h : CallC P k (argsC E.f first args captured) s (fun c s' => WL P N rest (E.set d c) s' Q) (fun ch s' => Q (.panic ch) E s')) :
    WL P N (⟨d, .call { callee := .value fo, args := args, argTypes := tys }, ty, .no⟩ :: rest) E s Q := by
  intro ops l' hl w g a hr
  cases l' with
  | nil => simp at hl
  | cons o l' =>
    simp only [List.map_cons, List.cons.injEq] at hl
    obtain ⟨ho, hrest⟩ := hl
    simp only [conv, Ro.mk.injEq] at ho
    obtain ⟨h1, h2, h3, h4⟩ := ho
    have hg : o.guard = none := by
      cases hgd : o.guard with
      | none => rfl
      | some p =>
        obtain ⟨j, b⟩ := p
        simp only [hgd] at h4
        split at h4 <;> cases h4
    refine wpListIn_plain hg (fun K hK => ?_)
    have hfo := hr.evo fo
    rw [hf] at hfo
    have hfv := hfo.v_eq
    obtain ⟨hcall, hbody⟩ := h
    have hrun : (execOp a.eval o).run P w = .ok (.enter k (first ++ args.map a.eval ++ captured)) w := by
      simp [execOp, h2, resolve, Deferred.ofValue, hfv, invoke, hcall _ w]
    have hlen : (first ++ args.map a.eval ++ captured).size = (argsC E.f first args captured).length := by simp [argsC]
    have hrel : ∀ (j : Nat) (hj : j < (argsC E.f first args captured).length), R w s g ((argsC E.f first args captured)[j]) ((first ++ args.map a.eval ++ captured)[j]'(by omega)) := by
      intro j hj
      simp only [argsC] at hj ⊢
      by_cases hj1 : j < first.size
      · rw [Array.getElem_append_left (by simp; omega), Array.getElem_append_left hj1]
        rw [List.getElem_append_left (by simp; omega), List.getElem_append_left (by simpa using hj1)]
        simpa using VR.v _
      · by_cases hj2 : j < first.size + args.size
        · rw [Array.getElem_append_left (by simp; omega), Array.getElem_append_right (by omega)]
          rw [List.getElem_append_left (by simp; omega), List.getElem_append_right (by simp; omega)]
          simp only [List.getElem_map, Array.getElem_map, List.length_map, Array.length_toList, Array.getElem_toList]
          exact (hr.evo _).stripA
        · rw [Array.getElem_append_right (by simp; omega)]
          rw [List.getElem_append_right (by simp; omega)]
          simp only [List.getElem_map, Array.getElem_toList, List.length_append, List.length_map, Array.length_toList, Array.size_append, Array.size_map]
          exact VR.v _
    have hC := hbody w g _ hr.st hlen hrel
    unfold Oper.wpIn
    refine ⟨fun _ _ => rf_fn _ _, ?_⟩
    rw [Oper.semAt_eq _ _ _ (by rw [h2]; simp), hrun]
    refine ⟨fun h => absurd h (rf_depth _), (callsIn_rf hC).mono fun e w' he => ?_⟩
    cases e with
    | returned v =>
      obtain ⟨c, s', g', q1, q2, q3, q4⟩ := he
      have hr' : Rel w' s' g' (E.set d c) N (a.put o.dst v) := by rw [h1]; exact (hr.step q2 q1).put hd q3
      exact hK _ _ (wpList_mono (fun e a w hp => Post.mono q2 (fun _ _ _ h => h) hp) _ _ _ (q4 ops l' hrest w' g' _ hr'))
    | panicked ch =>
      obtain ⟨s', g', q1, q2, q3⟩ := he
      exact ⟨E, s', g', hr.step q2 q1, q2, q3⟩
    | outgrown => exact he.elim

/-- Less memory of one's own is told. -/
structure Sub (s s' : St) : Prop where
  objs : ∀ b cs, look s'.objs b = some cs → look s.objs b = some cs
  rows : ∀ b cs, look s'.rows b = some cs → look s.rows b = some cs
  toks : ∀ b cs, look s'.toks b = some cs → look s.toks b = some cs
  maps : ∀ b cs, look s'.maps b = some cs → look s.maps b = some cs
theorem Sub.refl (s : St) : Sub s s := ⟨fun _ _ h => h, fun _ _ h => h, fun _ _ h => h, fun _ _ h => h⟩
theorem isSome_of {α : Type} {x y : Option α} (h : ∀ c, x = some c → y = some c) (hx : x.isSome) : y.isSome := by
  obtain ⟨c, hc⟩ := Option.isSome_iff_exists.1 hx
  rw [h c hc]; rfl
theorem Sub.step (h : Sub s s') (w : World) (g : Gh) : Step w s g w s' g :=
  ⟨rfl, rfl, rfl, Nat.le_refl _, fun _ _ _ => rfl, fun a u hu ho => ⟨hu, fun hh => ho (by
    rcases hh with hh | hh | ⟨r, z, L, b, o, c, h1, h2⟩
    · exact .inl (isSome_of (h.objs _) hh)
    · exact .inr (.inl (isSome_of (h.rows _) hh))
    · exact .inr (.inr ⟨r, z, L, b, o, c, h.toks _ _ h1, h2⟩))⟩, fun k _ hh => by
    rcases hh with hh | hh | ⟨r, zL, o, c, h1, h2⟩ | hh
    · exact .inl (isSome_of (h.objs _) hh)
    · exact .inr (.inl (isSome_of (h.rows _) hh))
    · exact .inr (.inr (.inl ⟨r, zL, o, c, h.toks _ _ h1, h2⟩))
    · exact .inr (.inr (.inr (isSome_of (h.maps _) hh))), fun _ _ => rfl, fun _ _ => rfl, Nat.le_refl _, fun r es v hh => ⟨hh.1, fun z L hl => hh.2 z L (h.toks _ _ hl)⟩⟩
theorem Sub.st (h : Sub s s') (hst : StRel w s g) : StRel w s' g :=
  hst.next (h.step w g) (fun b cs hb => .inl ⟨h.objs _ _ hb, rfl⟩) (fun b z es hb => .inl ⟨h.rows _ _ hb, rfl⟩)
    (fun r z L hl => ⟨(hst.toks r z L (h.toks _ _ hl)).1, .inl ⟨h.toks _ _ hl, rfl, fun _ _ _ _ => rfl⟩⟩) (fun b m hb => .inl ⟨h.maps _ _ hb, rfl⟩)
    (fun b h1 h2 => hst.d1 b (isSome_of (h.objs _) h1) (isSome_of (h.rows _) h2))
    (fun b r zL o c h1 h2 h3 => hst.d2 b r zL o c (h.toks _ _ h1) h2 (h3.imp (isSome_of (h.objs _)) (isSome_of (h.rows _))))
    (fun b r zL o c r' zL' o' c' h1 h2 h3 h4 => hst.d3 b r zL o c r' zL' o' c' (h.toks _ _ h1) h2 (h.toks _ _ h3) h4)
theorem Sub.ghost (h : Sub s s') : Ghost s s' := fun w g hst => ⟨g, h.st hst, h.step w g⟩
theorem CallC.forget {k : FuncId} {args : List C} {K : KR} {Kp : KP} (h : CallC P k args s (fun c s' => ∃ s'', Sub s' s'' ∧ K c s'') (fun c s' => ∃ s'', Sub s' s'' ∧ Kp c s'')) : CallC P k args s K Kp :=
  ⟨h.1, fun w g vals hs hn hr => (h.2 w g vals hs hn hr).mono fun e w' he => by
    cases e with
    | returned v => obtain ⟨c, s', g', q1, q2, q3, s'', q4, q5⟩ := he; exact ⟨c, s'', g', q4.st q1, q2.trans (q4.step _ _), q3.step (q4.step _ _), q5⟩
    | panicked ch => obtain ⟨s', g', q1, q2, s'', q4, q5⟩ := he; exact ⟨s'', g', q4.st q1, q2.trans (q4.step _ _), q5⟩
    | outgrown => exact he⟩

/-- What a body hands back. -/
def res1 (P : Program) (f : Nat → C) (s : St) : ResultVar → Option C
  | .tmp t => some (f t)
  | .cell t ty => match f t with
    | .v (.pointer (some _)) => evRd P (.load ty (.tmp t)) f s
    | _ => none
def resC (P : Program) (rs : List ResultVar) (f : Nat → C) (s : St) : Option C := match rs with
  | [] => some (.v (.tuple #[]))
  | [r] => res1 P f s r
  | [r1, r2] => match res1 P f s r1, res1 P f s r2 with
    | some a, some b => some (.tup [a, b])
    | _, _ => none
  | [r1, r2, r3] => match res1 P f s r1, res1 P f s r2, res1 P f s r3 with
    | some a, some b, some c => some (.tup [a, b, c])
    | _, _, _ => none
  | [r1, r2, r3, r4] => match res1 P f s r1, res1 P f s r2, res1 P f s r3, res1 P f s r4 with
    | some a, some b, some c, some d => some (.tup [a, b, c, d])
    | _, _, _, _ => none
  | _ => none
def resF (tmps : Array Value) : ResultVar → Sem Value
  | .tmp t => pure (tmps.getD t undef)
  | .cell p ty => do loadVar ty (← asAddr (tmps.getD p undef))
theorem res1_run {r : ResultVar} {c : C} (hr : Rel w s g E N a) (h : res1 P E.f s r = some c) :
    ∃ v, (resF a.tmps r).run P w = .ok v w ∧ R w s g c v := by
  cases r with
  | tmp t => simp only [res1, Option.some.injEq] at h; subst h; exact ⟨_, rfl, hr.f t⟩
  | cell t ty =>
    simp only [res1] at h
    split at h
    · rename_i ad he
      have h1 := hr.f t
      rw [he] at h1
      have h2 := h1.v_eq
      obtain ⟨v, h3, h4⟩ := evRd_run (P := P) (ty := 0) hr h { dst := none, op := .load ty (.tmp t), type := 0, pos := "", after := #[], guard := none } rfl
      refine ⟨v, ?_, h4⟩
      simp only [execOp, Instr.loadAt, Act.eval, h2, Instr.sureAddr, Sem.run_bind, Sem.run_pure, Result.andThen_ok] at h3
      simp only [resF, h2, asAddr, Sem.run_bind, Sem.run_pure, Result.andThen_ok]
      generalize (loadVar ty ad).run P w = q at h3
      cases q with
      | ok v' w' => simp [Result.andThen_ok] at h3; rw [h3.1, h3.2]
      | halt h w' => simp [Result.andThen_halt] at h3
    · cases h

theorem resC_run {fn : Func} {c : C} (hr : Rel w s g E N a) (h : resC P fn.results.toList E.f s = some c) :
    ∃ v, (results fn a.tmps).run P w = .ok v w ∧ R w s g c v := by
  have hl : fn.results = fn.results.toList.toArray := by simp
  have hu : results fn a.tmps = (do let vs ← fn.results.mapM (resF a.tmps); pure (if h : vs.size = 1 then vs[0] else .tuple vs)) := rfl
  rw [hu, hl]
  clear hu
  generalize fn.results.toList = rs at h
  match rs, h with
  | [], h => simp only [resC, Option.some.injEq] at h; subst h; exact ⟨.tuple #[], by simp, .v _⟩
  | [r], h =>
    obtain ⟨v, h1, h2⟩ := res1_run (P := P) hr h
    refine ⟨v, ?_, h2⟩
    simp only [List.mapM_toArray, List.mapM_cons, List.mapM_nil, Sem.run_bind, Sem.run_map, h1, Result.andThen_ok, Sem.run_pure]
    simp
  | [r1, r2], h =>
    simp only [resC] at h
    split at h
    · rename_i x y hx hy
      cases h
      obtain ⟨v1, h1, h2⟩ := res1_run (P := P) hr hx
      obtain ⟨v2, h3, h4⟩ := res1_run (P := P) hr hy
      refine ⟨.tuple #[v1, v2], ?_, .tup _ _ (by simp) (fun j hj => ?_)⟩
      · simp only [List.mapM_toArray, List.mapM_cons, List.mapM_nil, Sem.run_bind, Sem.run_map, h1, h3, Result.andThen_ok, Sem.run_pure]
        simp
      · match j, hj with
        | 0, _ => exact h2
        | 1, _ => exact h4
    · cases h
  | [r1, r2, r3], h =>
    simp only [resC] at h
    split at h
    · rename_i x y z hx hy hz
      cases h
      obtain ⟨v1, h1, h2⟩ := res1_run (P := P) hr hx
      obtain ⟨v2, h3, h4⟩ := res1_run (P := P) hr hy
      obtain ⟨v3, h5, h6⟩ := res1_run (P := P) hr hz
      refine ⟨.tuple #[v1, v2, v3], ?_, .tup _ _ (by simp) (fun j hj => ?_)⟩
      · simp only [List.mapM_toArray, List.mapM_cons, List.mapM_nil, Sem.run_bind, Sem.run_map, h1, h3, h5, Result.andThen_ok, Sem.run_pure]
        simp
      · match j, hj with
        | 0, _ => exact h2
        | 1, _ => exact h4
        | 2, _ => exact h6
    · cases h
  | [r1, r2, r3, r4], h =>
    simp only [resC] at h
    split at h
    · rename_i x y z u hx hy hz hu
      cases h
      obtain ⟨v1, h1, h2⟩ := res1_run (P := P) hr hx
      obtain ⟨v2, h3, h4⟩ := res1_run (P := P) hr hy
      obtain ⟨v3, h5, h6⟩ := res1_run (P := P) hr hz
      obtain ⟨v4, h7, h8⟩ := res1_run (P := P) hr hu
      refine ⟨.tuple #[v1, v2, v3, v4], ?_, .tup _ _ (by simp) (fun j hj => ?_)⟩
      · simp only [List.mapM_toArray, List.mapM_cons, List.mapM_nil, Sem.run_bind, Sem.run_map, h1, h3, h5, h7, Result.andThen_ok, Sem.run_pure]
        simp
      · match j, hj with
        | 0, _ => exact h2
        | 1, _ => exact h4
        | 2, _ => exact h6
        | 3, _ => exact h8
    · cases h
  | _ :: _ :: _ :: _ :: _ :: _, h => simp [resC] at h

def env0 (args : List C) : Env := ⟨fun t => args.getD t .junk, []⟩
def retQ (P : Program) (rs : List ResultVar) (K : KR) (Kp : KP) : Ends
  | .normal, E, s => E.ds = [] ∧ ∃ c, resC P rs E.f s = some c ∧ ∃ s', Sub s s' ∧ K (strip c) s'
  | .ret, E, s => E.ds = [] ∧ ∃ c, resC P rs E.f s = some c ∧ ∃ s', Sub s s' ∧ K (strip c) s'
  | .panic ch, E, s => E.ds = [] ∧ ∃ s', Sub s s' ∧ Kp ch s'
  | _, _, _ => False

theorem Rel.env0 (hst : StRel w s g) {args : List C} {vals : Array Value} (hn : vals.size = args.length) (hr : ∀ (j : Nat) (hj : j < args.length), R w s g (args[j]) (vals[j]'(by omega))) (hN : args.length ≤ N.n) :
    Rel w s g (env0 args) N { tmps := vals ++ Array.replicate (N.n - vals.size) undef, defers := [] } := by
  refine ⟨hst, by simp; omega, rfl, fun t => ?_⟩
  simp only [VS.env0]
  by_cases ht : t < args.length
  · have e1 : args.getD t .junk = args[t] := by simp [List.getD, List.getElem?_eq_getElem ht]
    have e2 : (vals ++ Array.replicate (N - vals.size) undef).getD t undef = vals[t]'(by omega) := by
      rw [Array.getD_eq_getD_getElem?, Array.getElem?_append_left (by omega)]
      simp [show t < vals.size by omega]
    rw [e1, e2]
    exact hr t ht
  · have e1 : args.getD t .junk = .junk := by simp [List.getD, List.getElem?_eq_none (show args.length ≤ t by omega)]
    rw [e1]
    exact .junk _

theorem callable_of {k : FuncId} {fn : Func} (hf : P.funcs[k]? = some fn) (hb : fn.body.isNone = false) (hn : (fn.name == "runtime.NumGoroutine") = false) : Callable P k := by
  intro vals w
  simp only [callFunc, Sem.run_bind, run_program, Result.andThen_ok, hf]
  simp only [hn, hb]
  simp

/-- A FUNCTION WITHOUT DEFERRED CALLS, by its body. -/
theorem CallC_of {k : FuncId} {fn : Func} {c : Code} {args : List C} {K : KR} {Kp : KP} (hf : P.funcs[k]? = some fn) (hb : fn.body = some c) (hname : (fn.name == "runtime.NumGoroutine") = false) {n : Nat} (hN : fn.ntmps = n) (hl : args.length ≤ n)
    (h : W P ⟨n, none⟩ c (env0 args) s (retQ P fn.results.toList K Kp)) : CallC P k args s K Kp := by
  refine ⟨callable_of hf (by rw [hb]; rfl) hname, fun w g vals hst hn hr => calls_of_wp hf hb ?_⟩
  rw [hN]
  refine Code.wp_mono (fun e a' w' hp => ?_) (wpIn_wide.1 (h w g _ (Rel.env0 hst hn hr hl)))
  cases e with
  | normal =>
    obtain ⟨E', s', g', h1, h2, h3, c, h4, s'', h5, h6⟩ := hp
    obtain ⟨v, h7, h8⟩ := resC_run (P := P) h1 h4
    exact ⟨h1.ds.trans h3, v, h7, strip c, s'', g', h5.st h1.st, h2.trans (h5.step _ _), (h8.step (h5.step _ _)).strip, h6⟩
  | ret =>
    obtain ⟨E', s', g', h1, h2, h3, c, h4, s'', h5, h6⟩ := hp
    obtain ⟨v, h7, h8⟩ := resC_run (P := P) h1 h4
    exact ⟨h1.ds.trans h3, v, h7, strip c, s'', g', h5.st h1.st, h2.trans (h5.step _ _), (h8.step (h5.step _ _)).strip, h6⟩
  | panic ch =>
    obtain ⟨E', s', g', h1, h2, h3, s'', h5, h6⟩ := hp
    exact ⟨h1.ds.trans h3, s'', g', h5.st h1.st, h2.trans (h5.step _ _), h6⟩
  | exit id => obtain ⟨_, _, _, _, _, h⟩ := hp; exact h
  | goto l => obtain ⟨_, _, _, _, _, h⟩ := hp; exact h
  | outgrown => exact hp
end
end Go.VS
namespace Go.VS
open Go

def thenC {α : Type} (x : Option α) (k : α → Prop) : Prop := match x with
  | some c => k c
  | none => False
theorem thenC_some {α : Type} (c : α) (k : α → Prop) : thenC (some c) k = k c := rfl
theorem thenC_ite {α : Type} (p : Prop) [Decidable p] (x y : Option α) (k : α → Prop) : thenC (if p then x else y) k = if p then thenC x k else thenC y k := by split <;> rfl
theorem thenC_congr {α : Type} {x x' : Option α} {k : α → Prop} (h : x = x') : thenC x k = thenC x' k := by rw [h]
/-- A guard: 'a' where it has this value, 'b' where it has the other. -/
def onG (x : C) (t : Bool) (a b : Prop) : Prop := match x with
  | .v (.bool u) => if u = t then a else b
  | .v (.tuple _) => b
  | _ => False
theorem onG_congr {x x' : C} {t : Bool} {a b : Prop} (h : x = x') : onG x t a b = onG x' t a b := by rw [h]
theorem onG_tt (a b : Prop) : onG (.v (.bool true)) true a b = a := rfl
theorem onG_tf (a b : Prop) : onG (.v (.bool true)) false a b = b := rfl
theorem onG_ft (a b : Prop) : onG (.v (.bool false)) true a b = b := rfl
theorem onG_ff (a b : Prop) : onG (.v (.bool false)) false a b = a := rfl
def dOk (N : NR) : Option Nat → Bool
  | none => true
  | some d => d < N
/-- Is an operation one that only reads? -/
def simple : Op → Bool
  | .move _ | .assign _ | .pick .. | .load .. | .fieldAddr .. | .nilCheck _ | .indexAddr .. | .slice .. | .binOp .. | .unOp .. | .extract .. | .build .. | .makeFunc .. | .makeInterface .. | .typeAssert .. | .field .. | .convert .. => true
  | .call { callee := .builtin .len, .. } => true
  | .call { callee := .builtin .min, .. } => true
  | .call { callee := .builtin .max, .. } => true
  | _ => false
/-- What comes behind a call. -/
def callK (P : Program) (N : NR) (rest : List Ro) (d : Option Nat) (E : Env) (Q : Ends) : KR := fun c s => WL P N rest (E.set d c) s Q
def callP (E : Env) (Q : Ends) : KP := fun ch s => Q (.panic ch) E s
/-- One operation: what it makes, and what comes then; 'stuck' where it is none that only reads or stores. -/
def step1 (P : Program) (N : NR) (d : Option Nat) (op : Op) (E : Env) (s : St) (k : Env → St → Prop) (rest : List Ro) (Q : Ends) (stuck : Prop) : Prop := match op with
  | .store t x y => thenC (if d = none then evSt P t x y E.f s else none) fun s' => k E s'
  | .call { callee := .value fo, args, argTypes := _ } => match evo E.f fo with
    | .v (.func (.func q) first captured) => dOk N d = true ∧ CallC P q (argsC E.f first args captured) s (callK P N rest d E Q) (callP E Q)
    | _ => stuck
  | _ => if simple op = true then thenC (if dOk N d = true then evRd P op E.f s else none) fun c => k (E.set d c) s else stuck
/-- Operations, carried out as far as they only read and store. -/
def run (P : Program) (N : NR) : List Ro → Env → St → Ends → Prop
  | [], E, s, Q => Q .normal E s
  | ⟨d, op, ty, .no⟩ :: rest, E, s, Q => step1 P N d op E s (fun E' s' => run P N rest E' s' Q) rest Q (WL P N (⟨d, op, ty, .no⟩ :: rest) E s Q)
  | ⟨d, op, ty, .on j b⟩ :: rest, E, s, Q => onG (E.f j) b (step1 P N d op E s (fun E' s' => run P N rest E' s' Q) rest Q (WL P N (⟨d, op, ty, .no⟩ :: rest) E s Q)) (thenC (if dOk N d = true then some () else none) fun _ => run P N rest (E.set d (.v undef)) s Q)
  | ⟨_, _, _, .bad⟩ :: _, _, _, _ => False

theorem step1_congr {P : Program} {N : NR} {d : Option Nat} {op : Op} {E : Env} {s : St} {k : Env → St → Prop} {rest : List Ro} {Q : Ends} {st : Prop} : step1 P N d op E s k rest Q st = step1 P N d op E s k rest Q st := rfl
theorem run_congr {P : Program} {N : NR} {l : List Ro} {E : Env} {s : St} {Q : Ends} : run P N l E s Q = run P N l E s Q := rfl
theorem callK_congr {P : Program} {N : NR} {l : List Ro} {E : Env} {d : Option Nat} {Q : Ends} : callK P N l d E Q = callK P N l d E Q := rfl
theorem WL_congr {P : Program} {N : NR} {l : List Ro} {E : Env} {s : St} {Q : Ends} : WL P N l E s Q = WL P N l E s Q := rfl
theorem W_congr {P : Program} {N : NR} {l : Code} {E : Env} {s : St} {Q : Ends} : W P N l E s Q = W P N l E s Q := rfl
theorem callP_congr {E : Env} {Q : Ends} : callP E Q = callP E Q := rfl
theorem ite_elim {α : Type} {p : Prop} [Decidable p] {x : Option α} {c : α} (h : (if p then x else none) = some c) : p ∧ x = some c := by
  split at h
  · exact ⟨‹_›, h⟩
  · cases h
theorem dOk_lt {N : NR} {d : Option Nat} (h : dOk N d = true) : ∀ k, d = some k → k < N := by
  intro k hk
  subst hk
  simpa [dOk] using h
theorem thenC_elim {α : Type} {x : Option α} {k : α → Prop} (h : thenC x k) : ∃ c, x = some c ∧ k c := by
  cases x with
  | none => exact h.elim
  | some c => exact ⟨c, rfl, h⟩
theorem step1_WL {P : Program} {N : NR} {d : Option Nat} {op : Op} {ty : TypeId} {rest : List Ro} {E : Env} {s : St} {Q : Ends} {k : Env → St → Prop} (hk : ∀ E s, k E s → WL P N rest E s Q)
    (h : step1 P N d op E s k rest Q (WL P N (⟨d, op, ty, .no⟩ :: rest) E s Q)) : WL P N (⟨d, op, ty, .no⟩ :: rest) E s Q := by
  unfold step1 at h
  split at h
  · obtain ⟨s', h1, h2⟩ := thenC_elim h
    obtain ⟨rfl, h1⟩ := ite_elim h1
    exact WL_st h1 (hk _ _ h2)
  · split at h
    · rename_i he
      exact WL_call he (dOk_lt h.1) h.2
    · exact h
  · split at h
    · obtain ⟨c, h1, h2⟩ := thenC_elim h
      obtain ⟨hd, h1⟩ := ite_elim h1
      exact WL_rd h1 (dOk_lt hd) (hk _ _ h2)
    · exact h
theorem WL_run {P : Program} {N : NR} {Q : Ends} : ∀ (l : List Ro) (E : Env) (s : St), run P N l E s Q → WL P N l E s Q := by
  intro l
  induction l with
  | nil => intro E s h; exact WL_nil h
  | cons o rest ih =>
    intro E s h
    obtain ⟨d, op, ty, gd⟩ := o
    cases gd with
    | no => unfold run at h; exact step1_WL (fun E s h => ih E s h) h
    | on k b =>
      unfold run onG at h
      split at h
      · rename_i t ht
        split at h
        · rename_i htb; subst htb; exact WL_on ht (step1_WL (fun E s h => ih E s h) h)
        · rename_i htb
          obtain ⟨_, h1, h2⟩ := thenC_elim h
          exact WL_off (by rw [ht]; simp [gdOff, htb]) (dOk_lt (ite_elim h1).1) (ih _ _ h2)
      · rename_i ht
        obtain ⟨_, h1, h2⟩ := thenC_elim h
        exact WL_off (by rw [ht]; rfl) (dOk_lt (ite_elim h1).1) (ih _ _ h2)
      · exact h.elim
    | bad => unfold run at h; exact h.elim

section
variable {P : Program} {s : St} {E : Env} {N : NR} {Q : Ends}
theorem W_reg {id : Nat} {ops : Array Oper} (h : run P N (ops.toList.map (conv ops)) E s Q) : W P N (.region id ops false) E s Q := W_region (WL_run _ _ _ h)
theorem set_f (E : Env) (d t : Nat) (c : C) : (E.set (some d) c).f t = if t = d then c else E.f t := id rfl
theorem set_none (E : Env) (c : C) : E.set none c = E := id rfl
theorem set_ds (E : Env) (d : Option Nat) (c : C) : (E.set d c).ds = E.ds := by cases d <;> rfl
theorem nextQ_normal (K : Env → St → Prop) (Q : Ends) (E : Env) (s : St) : nextQ K Q .normal E s = K E s := id rfl
theorem nextQ_ret (K : Env → St → Prop) (Q : Ends) (E : Env) (s : St) : nextQ K Q .ret E s = Q .ret E s := id rfl
theorem nextQ_exit (K : Env → St → Prop) (Q : Ends) (i : Nat) (E : Env) (s : St) : nextQ K Q (.exit i) E s = Q (.exit i) E s := id rfl
theorem nextQ_panic (K : Env → St → Prop) (Q : Ends) (ch : List PanicEntry) (E : Env) (s : St) : nextQ K Q (.panic ch) E s = Q (.panic ch) E s := id rfl
theorem blockQ_normal (i : Nat) (Q : Ends) (E : Env) (s : St) : blockQ i Q .normal E s = Q .normal E s := id rfl
theorem blockQ_ret (i : Nat) (Q : Ends) (E : Env) (s : St) : blockQ i Q .ret E s = Q .ret E s := id rfl
theorem blockQ_exit (i j : Nat) (Q : Ends) (E : Env) (s : St) : blockQ i Q (.exit j) E s = if j = i then Q .normal E s else Q (.exit j) E s := by
  show (if j = i then Q .normal else Q (.exit j)) E s = _
  split <;> rfl
theorem blockQ_panic (i : Nat) (Q : Ends) (ch : List PanicEntry) (E : Env) (s : St) : blockQ i Q (.panic ch) E s = Q (.panic ch) E s := id rfl
theorem retQ_ret (rs : List ResultVar) (K : KR) (Kp : KP) (E : Env) (s : St) : retQ P rs K Kp .ret E s = (E.ds = [] ∧ ∃ c, resC P rs E.f s = some c ∧ ∃ s', Sub s s' ∧ K (strip c) s') := id rfl
theorem retQ_normal (rs : List ResultVar) (K : KR) (Kp : KP) (E : Env) (s : St) : retQ P rs K Kp .normal E s = (E.ds = [] ∧ ∃ c, resC P rs E.f s = some c ∧ ∃ s', Sub s s' ∧ K (strip c) s') := id rfl
theorem retQ_panic (rs : List ResultVar) (K : KR) (Kp : KP) (ch : List PanicEntry) (E : Env) (s : St) : retQ P rs K Kp (.panic ch) E s = (E.ds = [] ∧ ∃ s', Sub s s' ∧ Kp ch s') := id rfl
theorem env0_f (args : List C) (t : Nat) : (env0 args).f t = args.getD t .junk := id rfl
theorem env0_ds (args : List C) : (env0 args).ds = [] := id rfl
theorem W_ifs {c : Operand} {x y : Code} (t : Bool) (hc : evo E.f c = .v (.bool t)) (h1 : t = true → W P N x E s Q) (h2 : t = false → W P N y E s Q) : W P N (.cond c x y) E s Q := W_cond hc h1 h2
theorem cst_bool (b : Bool) : cst (.bool b) = .v (.bool b) := id rfl
theorem cst_int (k : IntKind) (n : Int) : cst (.int k n) = .v (.int k n) := id rfl
theorem cst_slice (a : Option Addr) (n c : Nat) : cst (.slice a n c) = .v (.slice a n c) := id rfl
theorem cst_agg (cs : Array Value) : cst (.agg cs) = .agg (cs.toList.map .v) := id rfl
end

section
variable {P : Program} {w : World} {s : St} {g : Gh} {E : Env} {N : NR} {Q : Ends} {a : Act}
/-- A call that hands back one value, whatever memory there is, and leaves ours alone. -/
def Pure (P : Program) (k : FuncId) (args : List C) (r : C) : Prop := ∀ s, CallC P k args s (fun c s' => c = r ∧ s' = s) (fun _ _ => False)
theorem Pure.use {k : FuncId} {args : List C} {r : C} {rest : List Ro} {d : Option Nat} (h : Pure P k args r) (hk : run P N rest (E.set d r) s Q) : CallC P k args s (callK P N rest d E Q) (callP E Q) :=
  (h s).mono (fun c s' ⟨h1, h2⟩ => by subst h1; subst h2; exact WL_run _ _ _ hk) (fun _ _ h => h.elim)
theorem CallC.use {k : FuncId} {args : List C} {K : KR} {Kp : KP} {rest : List Ro} {d : Option Nat} (h : CallC P k args s K Kp) (hk : ∀ c s', K c s' → run P N rest (E.set d c) s' Q) (hp : ∀ ch s', Kp ch s' → Q (.panic ch) E s') :
    CallC P k args s (callK P N rest d E Q) (callP E Q) :=
  h.mono (fun c s' h' => WL_run _ _ _ (hk c s' h')) hp

/-- An env with a few slots told. -/
def envL (l : List (Nat × C)) (ds : List Deferred) : Env := ⟨fun t => (look l t).getD .junk, ds⟩
def Has (E : Env) : List (Nat × C) → Prop
  | [] => True
  | (k, c) :: r => E.f k = c ∧ Has E r
theorem Has.look {l : List (Nat × C)} (h : Has E l) {k : Nat} {c : C} (hl : look l k = some c) : E.f k = c := by
  induction l with
  | nil => cases hl
  | cons p r ih =>
    obtain ⟨q, x⟩ := p
    simp only [VS.look] at hl
    split at hl
    · rename_i hq; subst hq; cases hl; exact h.1
    · exact ih h.2 hl
theorem Has.rel {l : List (Nat × C)} (h : Has E l) (hr : Rel w s g E N a) : Rel w s g (envL l E.ds) N a := by
  refine ⟨hr.st, hr.size, hr.ds, fun t => ?_⟩
  simp only [envL]
  cases hl : VS.look l t with
  | none => exact .junk _
  | some c => simp only [Option.getD_some]; rw [← h.look hl]; exact hr.f t
/-- From here on a few slots alone are told. -/
theorem W_keep {c : Code} (l : List (Nat × C)) (h : Has E l) (hk : W P N c (envL l E.ds) s Q) : W P N c E s Q :=
  fun w g a hr => hk w g a (h.rel hr)
theorem envL_f (l : List (Nat × C)) (ds : List Deferred) (t : Nat) : (envL l ds).f t = (look l t).getD .junk := id rfl
theorem envL_ds (l : List (Nat × C)) (ds : List Deferred) : (envL l ds).ds = ds := id rfl

theorem W_seq_k {x y : Code} (h : ∀ K : Env → St → Prop, (∀ E' s', W P N y E' s' Q → K E' s') → W P N x E s (nextQ K Q)) : W P N (.seq x y) E s Q :=
  W_seq (h _ fun _ _ h => h)
/-- A LOOP, the slots told by a list. -/
theorem W_loopL {c : Code} (Inv : Nat → List (Nat × C) → St → Prop) {ds : List Deferred}
    (round : ∀ n l s, Inv n l s → W P N c (envL l ds) s (nextQ (fun E' s' => ∃ m l', m < n ∧ Inv m l' s' ∧ Has E' l' ∧ E'.ds = ds) Q)) {n : Nat} {l : List (Nat × C)} (h0 : Inv n l s) (hE : Has E l) (hds : E.ds = ds) : W P N (.loop c) E s Q := by
  refine W_loop (fun n E s => ∃ l, Inv n l s ∧ Has E l ∧ E.ds = ds) (fun n E s ⟨l, h1, h2, h3⟩ => ?_) ⟨l, h0, hE, hds⟩
  refine W_keep l h2 ?_
  rw [h3]
  exact (round n l s h1).mono fun x E s h => by
    cases x with
    | normal => obtain ⟨m, l', q1, q2, q3, q4⟩ := h; exact ⟨m, q1, l', q2, q3, q4⟩
    | _ => exact h
/-- A slice is no longer than an int can say. -/
theorem W_len {c : Code} (t : Nat) {tok : Option Nat} {es : List (List C)} (ht : E.f t = .li tok es) (h : es.length ≤ 9223372036854775807 → W P N c E s Q) : W P N c E s Q := by
  intro w g a hr
  have h1 := hr.f t
  rw [ht] at h1
  obtain ⟨A, cap, b, o, z, u, _, hm, hcap, _⟩ := h1.li_inv
  exact h (by unfold maxLen at hm; omega) w g a hr

theorem wrap_in {n : Int} (h0 : -9223372036854775808 ≤ n) (h1 : n ≤ 9223372036854775807) : IntKind.i64.wrap n = n := Go.IntWalk.i64_in _ ⟨h0, h1⟩
end
/-! ### The same, as simp carries it out: no function among the arguments -/
section
variable {P : Program} {N : NR} {d : Option Nat} {op : Op} {ty : TypeId} {rest : List Ro} {E : Env} {s : St} {Q : Ends}
def cont (x : Option C) (P : Program) (N : NR) (d : Option Nat) (rest : List Ro) (E : Env) (s : St) (Q : Ends) : Prop := thenC x fun c => run P N rest (E.set d c) s Q
def contS (x : Option St) (P : Program) (N : NR) (rest : List Ro) (E : Env) (Q : Ends) : Prop := thenC x fun s' => run P N rest E s' Q
def stp (P : Program) (N : NR) (d : Option Nat) (op : Op) (ty : TypeId) (rest : List Ro) (E : Env) (s : St) (Q : Ends) : Prop :=
  step1 P N d op E s (fun E' s' => run P N rest E' s' Q) rest Q (WL P N (⟨d, op, ty, .no⟩ :: rest) E s Q)
def gcont (x : C) (b : Bool) (P : Program) (N : NR) (d : Option Nat) (op : Op) (ty : TypeId) (rest : List Ro) (E : Env) (s : St) (Q : Ends) : Prop :=
  onG x b (stp P N d op ty rest E s Q) (cont (if dOk N d = true then some (.v undef) else none) P N d rest E s Q)
def callG (x : C) (P : Program) (N : NR) (d : Option Nat) (fo : Operand) (args : Array Operand) (tys : Array TypeId) (ty : TypeId) (rest : List Ro) (E : Env) (s : St) (Q : Ends) : Prop := match x with
  | .v (.func (.func q) first captured) => dOk N d = true ∧ CallC P q (argsC E.f first args captured) s (callK P N rest d E Q) (callP E Q)
  | _ => WL P N (⟨d, .call { callee := .value fo, args := args, argTypes := tys }, ty, .no⟩ :: rest) E s Q
theorem run_nil : run P N [] E s Q = Q .normal E s := id rfl
theorem run_no : run P N (⟨d, op, ty, .no⟩ :: rest) E s Q = stp P N d op ty rest E s Q := id rfl
theorem run_on {j : Nat} {b : Bool} : run P N (⟨d, op, ty, .on j b⟩ :: rest) E s Q = gcont (E.f j) b P N d op ty rest E s Q := by
  show onG _ _ _ _ = onG _ _ _ _
  congr 1
  unfold cont
  split <;> rfl
theorem cont_some (c : C) : cont (some c) P N d rest E s Q = run P N rest (E.set d c) s Q := id rfl
theorem contS_some (s' : St) : contS (some s') P N rest E Q = run P N rest E s' Q := id rfl
theorem gcont_tt : gcont (.v (.bool true)) true P N d op ty rest E s Q = stp P N d op ty rest E s Q := id rfl
theorem gcont_ff : gcont (.v (.bool false)) false P N d op ty rest E s Q = stp P N d op ty rest E s Q := id rfl
theorem gcont_tf : gcont (.v (.bool true)) false P N d op ty rest E s Q = cont (if dOk N d = true then some (.v undef) else none) P N d rest E s Q := id rfl
theorem gcont_ft : gcont (.v (.bool false)) true P N d op ty rest E s Q = cont (if dOk N d = true then some (.v undef) else none) P N d rest E s Q := id rfl
theorem gcont_u (b : Bool) : gcont (.v undef) b P N d op ty rest E s Q = cont (if dOk N d = true then some (.v undef) else none) P N d rest E s Q := id rfl
theorem stp_store {t : TypeId} {x y : Operand} : stp P N d (.store t x y) ty rest E s Q = contS (if d = none then evSt P t x y E.f s else none) P N rest E Q := id rfl
theorem stp_call {fo : Operand} {args : Array Operand} {tys : Array TypeId} : stp P N d (.call { callee := .value fo, args := args, argTypes := tys }) ty rest E s Q = callG (evo E.f fo) P N d fo args tys ty rest E s Q := id rfl
theorem callG_yield {l : Nat} {first captured : Array Value} {fo : Operand} {args : Array Operand} {tys : Array TypeId} : callG (.v (.func (.yield l) first captured)) P N d fo args tys ty rest E s Q = WL P N (⟨d, .call { callee := .value fo, args := args, argTypes := tys }, ty, .no⟩ :: rest) E s Q := id rfl
theorem callG_fn {q : FuncId} {first captured : Array Value} {fo : Operand} {args : Array Operand} {tys : Array TypeId} : callG (.v (.func (.func q) first captured)) P N d fo args tys ty rest E s Q = (dOk N d = true ∧ CallC P q (argsC E.f first args captured) s (callK P N rest d E Q) (callP E Q)) := id rfl
theorem stp_simple (h : simple op = true) : stp P N d op ty rest E s Q = cont (if dOk N d = true then evRd P op E.f s else none) P N d rest E s Q := by
  unfold stp step1
  split
  · simp [simple] at h
  · simp [simple] at h
  · rw [if_pos h]; rfl
theorem stp_move (x : Operand) : stp P N d (.move x) ty rest E s Q = cont (if dOk N d = true then evRd P (.move x) E.f s else none) P N d rest E s Q := stp_simple rfl
theorem stp_assign (x : Operand) : stp P N d (.assign x) ty rest E s Q = cont (if dOk N d = true then evRd P (.assign x) E.f s else none) P N d rest E s Q := stp_simple rfl
theorem stp_pick (c x y : Operand) : stp P N d (.pick c x y) ty rest E s Q = cont (if dOk N d = true then evRd P (.pick c x y) E.f s else none) P N d rest E s Q := stp_simple rfl
theorem stp_load (t : TypeId) (x : Operand) : stp P N d (.load t x) ty rest E s Q = cont (if dOk N d = true then evRd P (.load t x) E.f s else none) P N d rest E s Q := stp_simple rfl
theorem stp_fieldAddr (t : TypeId) (x : Operand) (k : Nat) : stp P N d (.fieldAddr t x k) ty rest E s Q = cont (if dOk N d = true then evRd P (.fieldAddr t x k) E.f s else none) P N d rest E s Q := stp_simple rfl
theorem stp_nilCheck (x : Operand) : stp P N d (.nilCheck x) ty rest E s Q = cont (if dOk N d = true then evRd P (.nilCheck x) E.f s else none) P N d rest E s Q := stp_simple rfl
theorem stp_indexAddr (t : TypeId) (x i : Operand) : stp P N d (.indexAddr t x i) ty rest E s Q = cont (if dOk N d = true then evRd P (.indexAddr t x i) E.f s else none) P N d rest E s Q := stp_simple rfl
theorem stp_slice (t : TypeId) (x : Operand) (lo hi mx : Option Operand) : stp P N d (.slice t x lo hi mx) ty rest E s Q = cont (if dOk N d = true then evRd P (.slice t x lo hi mx) E.f s else none) P N d rest E s Q := stp_simple rfl
theorem stp_binOp (b : BinOp) (t : TypeId) (x y : Operand) (u : TypeId) : stp P N d (.binOp b t x y u) ty rest E s Q = cont (if dOk N d = true then evRd P (.binOp b t x y u) E.f s else none) P N d rest E s Q := stp_simple rfl
theorem stp_unOp (u : UnOp) (t : TypeId) (x : Operand) : stp P N d (.unOp u t x) ty rest E s Q = cont (if dOk N d = true then evRd P (.unOp u t x) E.f s else none) P N d rest E s Q := stp_simple rfl
theorem stp_extract (x : Operand) (i : Nat) : stp P N d (.extract x i) ty rest E s Q = cont (if dOk N d = true then evRd P (.extract x i) E.f s else none) P N d rest E s Q := stp_simple rfl
theorem stp_len (args : Array Operand) (tys : Array TypeId) : stp P N d (.call { callee := .builtin .len, args := args, argTypes := tys }) ty rest E s Q = cont (if dOk N d = true then evRd P (.call { callee := .builtin .len, args := args, argTypes := tys }) E.f s else none) P N d rest E s Q := stp_simple rfl
theorem stp_build (t : TypeId) (ps : Array (Nat × Operand)) : stp P N d (.build t ps) ty rest E s Q = cont (if dOk N d = true then evRd P (.build t ps) E.f s else none) P N d rest E s Q := stp_simple rfl
theorem stp_makeFunc (fn : Fn) (fs cs : Array Operand) : stp P N d (.makeFunc fn fs cs) ty rest E s Q = cont (if dOk N d = true then evRd P (.makeFunc fn fs cs) E.f s else none) P N d rest E s Q := stp_simple rfl
theorem stp_makeInterface (t : TypeId) (x : Operand) : stp P N d (.makeInterface t x) ty rest E s Q = cont (if dOk N d = true then evRd P (.makeInterface t x) E.f s else none) P N d rest E s Q := stp_simple rfl
theorem stp_typeAssert (x : Operand) (t u : TypeId) (ok : Bool) : stp P N d (.typeAssert x t u ok) ty rest E s Q = cont (if dOk N d = true then evRd P (.typeAssert x t u ok) E.f s else none) P N d rest E s Q := stp_simple rfl
theorem stp_field (t : TypeId) (x : Operand) (k : Nat) : stp P N d (.field t x k) ty rest E s Q = cont (if dOk N d = true then evRd P (.field t x k) E.f s else none) P N d rest E s Q := stp_simple rfl
theorem stp_convert (t u : TypeId) (x : Operand) : stp P N d (.convert t u x) ty rest E s Q = cont (if dOk N d = true then evRd P (.convert t u x) E.f s else none) P N d rest E s Q := stp_simple rfl
theorem stp_min (args : Array Operand) (tys : Array TypeId) : stp P N d (.call { callee := .builtin .min, args := args, argTypes := tys }) ty rest E s Q = cont (if dOk N d = true then evRd P (.call { callee := .builtin .min, args := args, argTypes := tys }) E.f s else none) P N d rest E s Q := stp_simple rfl
theorem stp_max (args : Array Operand) (tys : Array TypeId) : stp P N d (.call { callee := .builtin .max, args := args, argTypes := tys }) ty rest E s Q = cont (if dOk N d = true then evRd P (.call { callee := .builtin .max, args := args, argTypes := tys }) E.f s else none) P N d rest E s Q := stp_simple rfl
theorem stp_append {args : Array Operand} {tys : Array TypeId} : stp P N d (.call { callee := .builtin .append, args := args, argTypes := tys }) ty rest E s Q = WL P N (⟨d, .call { callee := .builtin .append, args := args, argTypes := tys }, ty, .no⟩ :: rest) E s Q := id rfl
theorem stp_defer {c : Call} : stp P N d (.defer c) ty rest E s Q = WL P N (⟨d, .defer c, ty, .no⟩ :: rest) E s Q := id rfl
theorem stp_panic {x : Operand} : stp P N d (.panic x) ty rest E s Q = WL P N (⟨d, .panic x, ty, .no⟩ :: rest) E s Q := id rfl
theorem stp_makeSlice {t : TypeId} {l c : Operand} : stp P N d (.makeSlice t l c) ty rest E s Q = WL P N (⟨d, .makeSlice t l c, ty, .no⟩ :: rest) E s Q := id rfl
theorem stp_makeMap {t : TypeId} {r : Option Operand} : stp P N d (.makeMap t r) ty rest E s Q = WL P N (⟨d, .makeMap t r, ty, .no⟩ :: rest) E s Q := id rfl
theorem stp_mapUpdate {t : TypeId} {m k x : Operand} : stp P N d (.mapUpdate t m k x) ty rest E s Q = WL P N (⟨d, .mapUpdate t m k x, ty, .no⟩ :: rest) E s Q := id rfl
theorem stp_lookup {t : TypeId} {x k : Operand} {b : Bool} : stp P N d (.lookup t x k b) ty rest E s Q = WL P N (⟨d, .lookup t x k b, ty, .no⟩ :: rest) E s Q := id rfl
theorem stp_alloc {t : TypeId} : stp P N d (.alloc t) ty rest E s Q = WL P N (⟨d, .alloc t, ty, .no⟩ :: rest) E s Q := id rfl
theorem stp_box {t : TypeId} {x : Operand} : stp P N d (.box t x) ty rest E s Q = WL P N (⟨d, .box t x, ty, .no⟩ :: rest) E s Q := id rfl
theorem stp_bslice {t n : Nat} {ps : Array (Nat × Operand)} : stp P N d (.buildSlice t n ps) ty rest E s Q = WL P N (⟨d, .buildSlice t n ps, ty, .no⟩ :: rest) E s Q := id rfl
end
attribute [go_sem] run_nil run_no run_on cont_some contS_some gcont_tt gcont_ff gcont_tf gcont_ft gcont_u stp_store stp_call callG_yield callG_fn stp_move stp_assign stp_pick stp_load stp_fieldAddr stp_nilCheck stp_indexAddr stp_slice stp_binOp stp_unOp stp_extract stp_len stp_build stp_makeFunc stp_makeInterface stp_typeAssert stp_field stp_convert stp_min stp_max stp_defer stp_panic stp_makeSlice stp_makeMap stp_mapUpdate stp_lookup stp_append stp_alloc stp_box stp_bslice
attribute [go_sem] simple evRd evo dOk set_f set_none set_ds nextQ_normal nextQ_ret nextQ_exit nextQ_panic blockQ_normal blockQ_ret blockQ_exit blockQ_panic retQ_ret retQ_normal retQ_panic envL_f envL_ds Has env0_f env0_ds cst_bool cst_int cst_slice cst_agg
  conv argsC binT isConst partsB minC maxC valsOf valOf binC intOp strOp unC lenC atC loC hiC evSt cellsOf one loadC look putAt del spl resC res1
theorem stripA_v (x : Value) : stripA (.v x) = .v x := id rfl
theorem stripA_li (t : Option Nat) (es : List (List C)) : stripA (.li t es) = .li none es := id rfl
theorem stripA_ep (cs : List C) (o : Nat) : stripA (.ep cs o) = .ep cs o := id rfl
theorem stripA_rs (b n : Nat) : stripA (.rs b n) = .rs b n := id rfl
theorem stripA_rp (b i j : Nat) : stripA (.rp b i j) = .rp b i j := id rfl
theorem stripA_junk : stripA .junk = .junk := id rfl
theorem stripA_tup (cs : List C) : stripA (.tup cs) = .tup cs := id rfl
theorem stripA_agg (cs : List C) : stripA (.agg cs) = .agg (cs.map dropA) := id rfl
theorem dropA_v (x : Value) : dropA (.v x) = .v x := id rfl
theorem dropA_li (t : Option Nat) (es : List (List C)) : dropA (.li t es) = .li none es := id rfl
theorem dropA_ep (cs : List C) (o : Nat) : dropA (.ep cs o) = .ep cs o := id rfl
theorem dropA_rs (b n : Nat) : dropA (.rs b n) = .rs b n := id rfl
theorem dropA_rp (b i j : Nat) : dropA (.rp b i j) = .rp b i j := id rfl
theorem dropA_junk : dropA .junk = .junk := id rfl
theorem dropA_tup (cs : List C) : dropA (.tup cs) = .tup cs := id rfl
theorem dropA_agg (cs : List C) : dropA (.agg cs) = .agg cs := id rfl
theorem strip_v (x : Value) : strip (.v x) = drop1 (.v x) := id rfl
theorem strip_li (t : Option Nat) (es : List (List C)) : strip (.li t es) = .li none es := id rfl
theorem strip_ep (cs : List C) (o : Nat) : strip (.ep cs o) = .ep cs o := id rfl
theorem strip_rs (b n : Nat) : strip (.rs b n) = .rs b n := id rfl
theorem strip_rp (b i j : Nat) : strip (.rp b i j) = .rp b i j := id rfl
theorem strip_junk : strip .junk = .junk := id rfl
def strip2 : C → C
  | .agg ds => .agg (ds.map drop1)
  | c => drop1 c
theorem strip_tup (cs : List C) : strip (.tup cs) = .tup (cs.map strip2) := id rfl
theorem strip_agg (cs : List C) : strip (.agg cs) = .agg (cs.map drop1) := id rfl
theorem strip2_agg (cs : List C) : strip2 (.agg cs) = .agg (cs.map drop1) := id rfl
theorem strip2_v (x : Value) : strip2 (.v x) = drop1 (.v x) := id rfl
theorem strip2_li (t : Option Nat) (es : List (List C)) : strip2 (.li t es) = .li none es := id rfl
theorem strip2_ep (cs : List C) (o : Nat) : strip2 (.ep cs o) = .ep cs o := id rfl
theorem strip2_rs (b n : Nat) : strip2 (.rs b n) = .rs b n := id rfl
theorem strip2_rp (b i j : Nat) : strip2 (.rp b i j) = .rp b i j := id rfl
theorem strip2_junk : strip2 .junk = .junk := id rfl
theorem drop1_li (t : Option Nat) (es : List (List C)) : drop1 (.li t es) = .li none es := id rfl
theorem drop1_ep (cs : List C) (o : Nat) : drop1 (.ep cs o) = .ep cs o := id rfl
theorem drop1_rs (b n : Nat) : drop1 (.rs b n) = .rs b n := id rfl
theorem drop1_rp (b i j : Nat) : drop1 (.rp b i j) = .rp b i j := id rfl
theorem drop1_junk : drop1 .junk = .junk := id rfl
theorem drop1_agg (cs : List C) : drop1 (.agg cs) = .agg cs := id rfl
theorem drop1_tup (cs : List C) : drop1 (.tup cs) = .tup cs := id rfl
theorem drop1_nil : drop1 (.v (.slice none 0 0)) = .li none [] := id rfl
theorem drop1_sl (a : Addr) (n c : Nat) : drop1 (.v (.slice (some a) n c)) = .v (.slice (some a) n c) := id rfl
theorem drop1_int (k : IntKind) (n : Int) : drop1 (.v (.int k n)) = .v (.int k n) := id rfl
theorem drop1_bool (b : Bool) : drop1 (.v (.bool b)) = .v (.bool b) := id rfl
theorem drop1_string (b : ByteArray) : drop1 (.v (.string b)) = .v (.string b) := id rfl
theorem drop1_pointer (a : Option Addr) : drop1 (.v (.pointer a)) = .v (.pointer a) := id rfl
theorem drop1_func (f : Fn) (a b : Array Value) : drop1 (.v (.func f a b)) = .v (.func f a b) := id rfl
theorem drop1_vagg (a : Array Value) : drop1 (.v (.agg a)) = .v (.agg a) := id rfl
theorem drop1_tuple (a : Array Value) : drop1 (.v (.tuple a)) = .v (.tuple a) := id rfl
theorem drop1_iface (t : TypeId) (a : Value) : drop1 (.v (.iface t a)) = .v (.iface t a) := id rfl
theorem drop1_nilIface : drop1 (.v .nilIface) = .v .nilIface := id rfl
attribute [go_sem, simp] stripA_v stripA_li stripA_ep stripA_rs stripA_rp stripA_junk stripA_tup stripA_agg dropA_v dropA_li dropA_ep dropA_rs dropA_rp dropA_junk dropA_tup dropA_agg strip_v strip_li strip_ep strip_rs strip_rp strip_junk strip_tup strip_agg
  strip2_agg strip2_v strip2_li strip2_ep strip2_rs strip2_rp strip2_junk drop1_li drop1_ep drop1_rs drop1_rp drop1_junk drop1_agg drop1_tup drop1_nil drop1_sl drop1_int drop1_bool drop1_string drop1_pointer drop1_func drop1_vagg drop1_tuple drop1_iface drop1_nilIface
end Go.VS
namespace Go.VS
open Go
section
variable {P : Program} {w : World} {s : St} {g : Gh} {E : Env} {N : NR} {Q : Ends} {a : Act}

/-- No slot of a list is one of these. -/
def notIn (l : List (Nat × C)) (ks : List Nat) : Prop := ∀ p ∈ l, p.1 ∉ ks
theorem Has.set {l : List (Nat × C)} (h : Has E l) {d : Nat} {c : C} (hn : notIn l [d]) : Has (E.set (some d) c) l := by
  induction l with
  | nil => trivial
  | cons p r ih =>
    obtain ⟨q, x⟩ := p
    have hq : q ≠ d := by simpa using hn (q, x) (by simp)
    exact ⟨by simp only [set_f, if_neg hq]; exact h.1, ih h.2 (fun p hp => hn p (by simp [hp]))⟩
theorem look_none {l : List (Nat × C)} {d : Nat} (h : notIn l [d]) : look l d = none := by
  induction l with
  | nil => rfl
  | cons p r ih =>
    obtain ⟨q, x⟩ := p
    have hq : q ≠ d := by simpa using h (q, x) (by simp)
    simp only [VS.look, if_neg hq]
    exact ih fun p hp => h p (by simp [hp])
theorem W_unset {c : Code} {L : List (Nat × C)} {ds : List Deferred} {d : Nat} {x : C} (h : look L d = none) (hk : W P N c (envL L ds) s Q) : W P N c ((envL L ds).set (some d) x) s Q := by
  refine W_less (E1 := envL L ds) ⟨rfl, fun t w g v _ hr => ?_⟩ hk
  by_cases ht : t = d
  · subst ht
    simp only [envL_f, h, Option.getD_none]
    exact .junk _
  · simpa only [set_f, if_neg ht] using hr

/-- A RANGE OVER A SLICE OR A NUMBER: 'k' rounds are done; 'l': the other slots that are told. -/
theorem W_range {b c r1 r2 tC tI tN tA : Nat} {y1 y2 y3 u1 u2 u3 u4 : TypeId} {p1 p2 p3 : String} {a1 a2 a3 : Array Edge} {body : Code} (n : Nat) (Inv : Nat → List (Nat × C) → St → Prop) {ds : List Deferred} {l0 : List (Nat × C)}
    (hn : (n : Int) ≤ 9223372036854775807) (hd : (decide (tC < N) && decide (tA < N) && decide (tI < N) && tI != tC && tN != tC && tN != tI && tN != tA && tI != tA) = true)
    (h0 : Inv 0 l0 s) (hE : Has E ((tI, .v (.int .i64 0)) :: (tN, .v (.int .i64 n)) :: l0)) (hds : E.ds = ds)
    (hl : ∀ k l s, Inv k l s → notIn l [tC, tA, tI])
    (round : ∀ k l s, k < n → Inv k l s → W P N body (envL ((tI, .v (.int .i64 (k : Int))) :: (tN, .v (.int .i64 n)) :: l) ds) s
      (blockQ c (nextQ (fun E' s' => ∃ l', Inv (k + 1) l' s' ∧ Has E' ((tI, .v (.int .i64 (k : Int))) :: (tN, .v (.int .i64 n)) :: l') ∧ E'.ds = ds) (blockQ b Q))))
    (done : ∀ l s x, Inv n l s → Q .normal ((envL ((tI, .v (.int .i64 (n : Int))) :: (tN, .v (.int .i64 n)) :: l) ds).set (some tC) x) s) :
    W P N (.block b (.loop (.seq (.region r1 #[{ dst := some tC, op := .binOp .lss y1 (.tmp tI) (.tmp tN) u1, type := u2, pos := p1, after := a1, guard := none }] false)
      (.seq (.cond (.tmp tC) .skip (.exit b)) (.seq (.block c body)
        (.region r2 #[{ dst := some tA, op := .binOp .add y2 (.tmp tI) (.const (.int .i64 1)) u3, type := u4, pos := p2, after := a2, guard := none }, { dst := some tI, op := .move (.tmp tA), type := y3, pos := p3, after := a3, guard := none }] false)))))) E s Q := by
  simp only [Bool.and_eq_true, decide_eq_true_eq, bne_iff_ne, ne_eq] at hd
  obtain ⟨⟨⟨⟨⟨⟨⟨d1, d2⟩, d3⟩, d4⟩, d5⟩, d6⟩, d7⟩, d8⟩ := hd
  refine W_block (W_loopL (fun m L s => ∃ k l, m = n - k ∧ k ≤ n ∧ L = (tI, .v (.int .i64 (k : Int))) :: (tN, .v (.int .i64 n)) :: l ∧ Inv k l s) (ds := ds) (fun m L s hI => ?_) (n := n) ⟨0, l0, rfl, Nat.zero_le _, rfl, h0⟩ hE hds)
  obtain ⟨k, l, rfl, hk, rfl, hinv⟩ := hI
  have hli := hl k l s hinv
  have hC : look ((tI, C.v (.int .i64 (k : Int))) :: (tN, C.v (.int .i64 n)) :: l) tC = none := by
    simp only [look, if_neg d4, if_neg d5]
    exact look_none fun p hp h => hli p hp (by simp at h; simp [h])
  by_cases hlt : k < n
  · refine W_seq (W_reg ?_)
    have hlt' : (k : Int) < n := by omega
    simp only [go_sem, List.map, d1, d6, Ne.symm d6, decide_true, Option.getD_some, true_and, ↓reduceIte]
    refine W_seq (W_cond (t := decide ((k : Int) < n)) ?_ (fun _ => W_skip ?_) (fun h => by simp [hlt'] at h))
    · simp [go_sem]
    · refine W_seq (W_block (W_unset hC ((round k l s hlt hinv).mono fun x E' s' h => ?_)))
      have key : (∃ l', Inv (k + 1) l' s' ∧ Has E' ((tI, .v (.int .i64 (k : Int))) :: (tN, .v (.int .i64 n)) :: l') ∧ E'.ds = ds) →
          W P N (.region r2 #[{ dst := some tA, op := .binOp .add y2 (.tmp tI) (.const (.int .i64 1)) u3, type := u4, pos := p2, after := a2, guard := none }, { dst := some tI, op := .move (.tmp tA), type := y3, pos := p3, after := a3, guard := none }] false)
            E' s' (nextQ (fun E' s' => ∃ m l', m < n - k ∧ (∃ k l, m = n - k ∧ k ≤ n ∧ l' = (tI, .v (.int .i64 (k : Int))) :: (tN, .v (.int .i64 n)) :: l ∧ Inv k l s') ∧ Has E' l' ∧ E'.ds = ds) (blockQ b Q)) := by
        rintro ⟨l', h1, ⟨h2, h3, h4⟩, h5⟩
        refine W_reg ?_
        have hw : IntKind.i64.wrap ((k : Int) + 1) = (k : Int) + 1 := wrap_in (by omega) (by omega)
        have hli' := hl (k + 1) l' s' h1
        simp only [go_sem, List.map, h2, d2, d3, decide_true, hw, true_and, ↓reduceIte]
        refine ⟨n - (k + 1), (tI, .v (.int .i64 ((k + 1 : Nat) : Int))) :: (tN, .v (.int .i64 n)) :: l', by omega, ⟨k + 1, l', rfl, hlt, rfl, h1⟩, ⟨?_, ?_, ?_⟩, h5⟩
        · simp [set_f]
        · simp [set_f, d6, d7, h3]
        · exact Has.set (Has.set h4 (fun p hp h => hli' p hp (by simp at h; simp [h]))) (fun p hp h => hli' p hp (by simp at h; simp [h]))
      cases x with
      | normal => exact key h
      | exit i =>
        simp only [blockQ_exit] at h ⊢
        split
        · rename_i hi
          subst hi
          simp only [if_true] at h
          exact key h
        · rename_i hi
          simp only [if_neg hi] at h
          exact h
      | _ => exact h
  · obtain rfl : k = n := by omega
    refine W_seq (W_reg ?_)
    simp only [go_sem, List.map, d1, d6, Ne.symm d6, decide_true, Option.getD_some, true_and, ↓reduceIte]
    refine W_seq (W_cond (t := decide ((k : Int) < k)) ?_ (fun h => by simp at h) (fun _ => W_exit ?_))
    · simp [go_sem]
    · simp only [nextQ_exit, blockQ_exit, if_true]
      exact done l s _ hinv
end
end Go.VS
namespace Go.VS
open Go
section
variable {P : Program} {w : World} {s : St} {g : Gh} {E : Env} {N : NR} {Q : Ends} {a : Act}
/-- 'for ..; cond; inc { body }': 'k' rounds are done of 'n' at most; the slots are told by a list. -/
theorem W_for {b c tC : Nat} {head body inc : Code} (n : Nat) (Inv : Nat → List (Nat × C) → St → Prop) {ds : List Deferred} {l0 : List (Nat × C)}
    (h0 : Inv 0 l0 s) (hE : Has E l0) (hds : E.ds = ds)
    (round : ∀ k l s, k ≤ n → Inv k l s → ∀ K : Env → St → Prop, (∀ E' s' (t : Bool) (l' : List (Nat × C)), E'.ds = ds → E'.f tC = .v (.bool t) → Has E' l' →
      (t = true → k < n ∧ W P N body (envL l' ds) s' (blockQ c (nextQ (fun E2 s2 => W P N inc E2 s2 (nextQ (fun E3 s3 => ∃ l3, Inv (k + 1) l3 s3 ∧ Has E3 l3 ∧ E3.ds = ds) (blockQ b Q))) (blockQ b Q)))) →
      (t = false → Q .normal (envL l' ds) s') → K E' s') → W P N head (envL l ds) s (nextQ K (blockQ b Q))) :
    W P N (.block b (.loop (.seq (.seq head (.cond (.tmp tC) .skip (.exit b))) (.seq (.block c body) inc)))) E s Q := by
  refine W_block (W_loopL (fun m L s => ∃ k, m = n - k ∧ k ≤ n ∧ Inv k L s) (ds := ds) (fun m L s hI => ?_) (n := n) ⟨0, rfl, Nat.zero_le _, h0⟩ hE hds)
  obtain ⟨k, rfl, hk, hinv⟩ := hI
  refine W_seq (W_seq ((round k L s hk hinv (fun E' s' => ∃ (t : Bool) (l' : List (Nat × C)), E'.ds = ds ∧ E'.f tC = .v (.bool t) ∧ Has E' l' ∧
      (t = true → k < n ∧ W P N body (envL l' ds) s' (blockQ c (nextQ (fun E2 s2 => W P N inc E2 s2 (nextQ (fun E3 s3 => ∃ l3, Inv (k + 1) l3 s3 ∧ Has E3 l3 ∧ E3.ds = ds) (blockQ b Q))) (blockQ b Q)))) ∧
      (t = false → Q .normal (envL l' ds) s')) (fun E' s' t l' a1 a2 a3 a4 a5 => ⟨t, l', a1, a2, a3, a4, a5⟩)).mono fun x E' s' h => ?_))
  cases x with
  | normal =>
    obtain ⟨t, l', hds', ht, hl', h1, h2⟩ := h
    refine (W_cond (t := t) ht (fun htt => W_skip ?_) (fun htf => ?_))
    · obtain ⟨hlt, hb⟩ := h1 htt
      have hb' : W P N body E' s' _ := W_keep l' hl' (by rw [hds']; exact hb)
      simp only [nextQ_normal]
      refine W_seq (W_block (hb'.mono fun x E2 s2 h => ?_))
      have key : W P N inc E2 s2 (nextQ (fun E3 s3 => ∃ l3, Inv (k + 1) l3 s3 ∧ Has E3 l3 ∧ E3.ds = ds) (blockQ b Q)) →
          W P N inc E2 s2 (nextQ (fun E' s' => ∃ m l', m < n - k ∧ (∃ k, m = n - k ∧ k ≤ n ∧ Inv k l' s') ∧ Has E' l' ∧ E'.ds = ds) (blockQ b Q)) := fun h => h.mono fun x E3 s3 h => by
        cases x with
        | normal => obtain ⟨l3, q1, q2, q3⟩ := h; exact ⟨n - (k + 1), l3, by omega, ⟨k + 1, rfl, hlt, q1⟩, q2, q3⟩
        | _ => exact h
      cases x with
      | normal => exact key h
      | exit i =>
        simp only [blockQ_exit] at h ⊢
        split
        · rename_i hi
          simp only [hi, if_true] at h
          exact key h
        · rename_i hi
          simp only [hi, if_false] at h
          exact h
      | _ => exact h
    · refine W_keep l' hl' ?_
      rw [hds']
      refine W_exit ?_
      simp only [nextQ_exit, blockQ_exit, if_true]
      exact h2 htf
  | _ => exact h
end
end Go.VS
