/- Contracts of the functions of the given program, second half. No condition. -/
import Derived.Test.YtpmknffollpnaaaGreatMc
import Derived.Test.YtpmknffollpnaaaGreatMb
set_option linter.unusedVariables false
set_option linter.unusedSimpArgs false
namespace Go.Proofs.YtpmknffollpnaaaGreat
open Go Go.VS
def trim : List Int → Int → Int
  | [], n => n
  | x :: r, n => if x = n - 1 then trim r (n - 1) else n
def tailP (l : List Fr) (pages : Int) : Int := match l with
  | [] => pages
  | f :: _ => if f.v = 0 then trim f.p.reverse pages else pages
theorem trim_drop (p : List Int) (n : Int) (k : Nat) (hk : k < p.length) : trim (p.reverse.drop k) n = if p[p.length - 1 - k] = n - 1 then trim (p.reverse.drop (k + 1)) (n - 1) else n := by
  have : k < p.reverse.length := by simpa using hk
  rw [List.drop_eq_getElem_cons this]
  simp [trim]
set_option maxRecDepth 4000 in
theorem tail_c (n : Nat) (l : List Fr) (pages : Int) (hs : Sz n l) (hn : n ≤ 1000000000) (hp0 : -1000000000 ≤ pages) (hp1 : pages ≤ 1000000000) : Pure Tryz.prog 51 [LF l, I pages] (I (tailP l pages)) := by
  intro s
  refine CallC_of Tryz.func51 rfl (by rfl) Tryz.ntmps51 (by simp) ?_
  refine W_seq (W_reg ?_)
  simp [go_sem]
  refine W_seq (W_seq_k fun K hK => W_reg ?_)
  cases l with
  | nil =>
    simp [go_sem, frsE]
    refine hK _ _ ?_
    refine W_ifs true (by simp [go_sem]) (fun _ => W_seq (W_reg ?_)) (fun h => by cases h)
    simp [go_sem]
    refine W_ret ?_
    simp only [go_sem]
    exact ⟨trivial, _, rfl, s, Sub.refl _, by simp [go_sem, tailP], rfl⟩
  | cons f l =>
    have hpl := hs.p f (by simp)
    have hz : ∀ q : Nat, (((q : Int) + 1) == 0) = false := fun q => by rw [beq_eq_false_iff_ne]; omega
    by_cases hv : f.v = 0
    · have ht : tailP (f :: l) pages = trim f.p.reverse pages := by simp [tailP, hv]
      simp [go_sem, frsE, hz, frC, hv]
      refine hK _ _ ?_
      refine W_ifs false (by simp [go_sem]) (fun h => by cases h) (fun _ => W_skip ?_)
      simp only [go_sem]
      refine W_seq_k fun K1 hK1 => W_seq (W_reg ?_)
      have hw : IntKind.i64.wrap ((f.p.length : Int) - 1) = (f.p.length : Int) - 1 := wrap_in (by omega) (by omega)
      simp [go_sem, intsE_length, hw]
      refine W_keep [(0, LF (f :: l)), (1, I pages), (5, I ((f.p.length : Int) - 1 - (0 : Nat)))] (by simp [go_sem, intsE_length, hw]) ?_
      refine W_for f.p.length (fun k L s' => L = [(0, LF (f :: l)), (1, I (pages - k)), (5, I ((f.p.length : Int) - 1 - k))] ∧ s' = s ∧ trim f.p.reverse pages = trim (f.p.reverse.drop k) (pages - k))
        (l0 := [(0, LF (f :: l)), (1, I pages), (5, I ((f.p.length : Int) - 1 - (0 : Nat)))]) (ds := []) ⟨by simp, rfl, by simp⟩ (by simp [go_sem]) rfl ?_
      rintro k _ s1 hk ⟨rfl, rfl, heq⟩ K2 hK2
      refine W_reg ?_
      have key : ∀ (E' : Env) (t : Bool), Has E' [(36, Bo t), (0, LF (f :: l)), (1, I (pages - k)), (5, I ((f.p.length : Int) - 1 - k))] → E'.ds = [] →
          (t = true → k < f.p.length ∧ trim f.p.reverse pages = trim (f.p.reverse.drop (k + 1)) (pages - (k + 1))) → (t = false → trim f.p.reverse pages = pages - k) → K2 E' s1 := fun E' t h1 h2 ht' hf => by
        refine hK2 _ _ t [(0, LF (f :: l)), (1, I (pages - k)), (5, I ((f.p.length : Int) - 1 - k))] h2 h1.1 h1.2 (fun htrue => ?_) (fun hfalse => ?_)
        · obtain ⟨h3, h4⟩ := ht' htrue
          refine ⟨h3, W_reg ?_⟩
          have hw1 : IntKind.i64.wrap (pages - k - 1) = pages - (k + 1 : Nat) := by rw [wrap_in (by omega) (by omega)]; omega
          have hw2 : IntKind.i64.wrap ((f.p.length : Int) - 1 - k - 1) = (f.p.length : Int) - 1 - (k + 1 : Nat) := by rw [wrap_in (by omega) (by omega)]; omega
          simp [go_sem, hw1]
          refine W_reg ?_
          simp [go_sem, hw2]
          exact ⟨_, ⟨rfl, h4⟩, by simp [go_sem]⟩
        · simp only [go_sem]
          refine hK1 _ _ ?_
          refine W_seq (W_reg ?_)
          simp [go_sem]
          refine W_ret ?_
          simp only [go_sem]
          exact ⟨trivial, _, rfl, s1, Sub.refl _, by simp [go_sem, ht, hf hfalse], rfl⟩
      by_cases hlt : k < f.p.length
      · have h0 : (k : Int) ≤ (f.p.length : Int) - 1 := by omega
        have htn : ((f.p.length : Int) - 1 - k).toNat = f.p.length - 1 - k := by omega
        have hi : f.p.length - 1 - k < f.p.length := by omega
        have hw1 : IntKind.i64.wrap (pages - k - 1) = pages - k - 1 := wrap_in (by omega) (by omega)
        have hst := trim_drop f.p (pages - k) k hlt
        rw [hst] at heq
        by_cases he : f.p[f.p.length - 1 - k] = pages - k - 1
        · rw [if_pos he] at heq
          simp [go_sem, frsE, frC, h0, htn, intsE_get, hi, hw1, he]
          exact key _ true (by simp [go_sem]) (by simp [go_sem]) (fun _ => ⟨hlt, by rw [heq]; congr 1; omega⟩) (fun h => by cases h)
        · rw [if_neg he] at heq
          simp [go_sem, frsE, frC, h0, htn, intsE_get, hi, hw1]
          exact key _ false (by simp [go_sem, he]) (by simp [go_sem]) (fun h => by cases h) (fun _ => heq)
      · have hkl : k = f.p.length := by omega
        have h0 : ¬ (k : Int) ≤ (f.p.length : Int) - 1 := by omega
        have hd : f.p.reverse.drop k = [] := List.drop_eq_nil_of_le (by simp; omega)
        rw [hd] at heq
        simp [go_sem, h0]
        exact key _ false (by simp [go_sem]) (by simp [go_sem]) (fun h => by cases h) (fun _ => heq)
    · have ht : tailP (f :: l) pages = pages := by simp [tailP, hv]
      simp [go_sem, frsE, hz, frC]
      refine hK _ _ ?_
      refine W_ifs true (by simp [go_sem, hv]) (fun _ => W_seq (W_reg ?_)) (fun h => by cases h)
      simp [go_sem]
      refine W_ret ?_
      simp only [go_sem]
      exact ⟨trivial, _, rfl, s, Sub.refl _, by simp [go_sem, ht], rfl⟩
theorem Tail_c (n : Nat) (l : List Fr) (pages : Int) (hs : Sz n l) (hn : n ≤ 1000000000) (hp0 : -1000000000 ≤ pages) (hp1 : pages ≤ 1000000000) :
    Pure Tryz.prog 19 [LF l, I pages] (.tup [I (if checkE l pages = 0 then tailP l pages else 0), I (checkE l pages)]) := by
  intro s
  refine CallC_of Tryz.func19 rfl (by rfl) Tryz.ntmps19 (by simp) ?_
  refine W_seq (W_reg ?_)
  simp [go_sem]
  refine W_seq (W_seq (W_reg ?_))
  simp [go_sem]
  refine Pure.use (check_c _ _ hp0 hp1) ?_
  generalize checkE l pages = e
  simp [go_sem]
  refine W_seq (W_reg ?_)
  simp [go_sem]
  by_cases he : e = 0
  · refine W_ifs false (by simp [go_sem, he]) (fun h => by cases h) (fun _ => W_skip ?_)
    simp only [go_sem]
    refine W_seq (W_reg ?_)
    simp [go_sem]
    refine Pure.use (tail_c n l pages hs hn hp0 hp1) ?_
    simp [go_sem]
    refine W_ret ?_
    simp only [go_sem]
    exact ⟨trivial, _, rfl, s, Sub.refl _, by simp [go_sem, he], rfl⟩
  · refine W_ifs true (by simp [go_sem, he]) (fun _ => W_seq (W_reg ?_)) (fun h => by cases h)
    simp [go_sem]
    refine W_ret ?_
    simp only [go_sem]
    exact ⟨trivial, _, rfl, s, Sub.refl _, by simp [go_sem, he], rfl⟩
end Go.Proofs.YtpmknffollpnaaaGreat
namespace Go.Proofs.YtpmknffollpnaaaGreat
open Go Go.VS
theorem caught_ret (a1 a2 : C) (s : St) (K : C → FrameMode → St → Prop) (Kp : List PanicEntry → FrameMode → St → Prop) (h : K (.v (.tuple #[])) .returning s) : CallD Tryz.prog 43 [a1, a2] s .returning K Kp := by
  refine CallD_rec Tryz.func43 (by rfl) (by rfl) Tryz.ntmps43 (by simp) rfl rfl rfl rfl (by decide) rfl rfl (by decide) rfl ?_
  refine W_seq (W_reg ?_)
  simp [go_sem, recD]
  refine W_ifs false (by simp [go_sem]) (fun h => by cases h) (fun _ => W_skip ?_)
  simp only [go_sem]
  exact ⟨trivial, _, rfl, s, Sub.refl _, by simpa [go_sem] using h⟩
theorem caught_pan (be k : Nat) (e : Int) (caps : Array Value) (eff : List (Nat × List C) → List (Nat × List C)) (s : St) (K : C → FrameMode → St → Prop) (Kp : List PanicEntry → FrameMode → St → Prop)
    (hk : ∀ s1 : St, (∀ b cs, VS.look s.objs b = some cs → VS.look s1.objs b = some cs) → CallC Tryz.prog k (caps.toList.map .v) s1 (fun _ s2 => s2 = { s1 with objs := eff s1.objs }) (fun _ _ => False))
    (heff : ∀ b5 c, VS.look s.objs b5 = none → ∀ q x, VS.look (eff s.objs) q = some x → VS.look (eff ((b5, c) :: s.objs)) q = some x) (heff5 : ∀ b5 c, VS.look s.objs b5 = none → VS.look (eff ((b5, c) :: s.objs)) b5 = some c) (c0 : C) (hbe : VS.look (eff s.objs) be = some [c0])
    (h : K (.v (.tuple #[])) (.panicking [{ v := .iface 166 (.agg #[.int .i64 e]), recovered := true }]) { s with objs := putAt (eff s.objs) be [I e] }) :
    CallD Tryz.prog 43 [.v (.pointer (some ⟨be, 0, none⟩)), .v (.func (.func k) #[] caps)] s (.panicking (fail e)) K Kp := by
  refine CallD_rec Tryz.func43 (by rfl) (by rfl) Tryz.ntmps43 (by simp) rfl rfl rfl rfl (by decide) rfl rfl (by decide) rfl ?_
  refine W_seq (W_reg ?_)
  simp [go_sem, recD, fail]
  refine W_ifs true (by simp [go_sem]) (fun _ => W_seq (W_reg ?_)) (fun h => by cases h)
  simp [go_sem]
  refine WL_alloc tzero_166 (by simp) fun b5 hb5 => WL_run _ _ _ ?_
  simp [go_sem]
  refine W_seq (W_seq (W_reg ?_))
  simp [go_sem]
  refine W_ifs false (by simp [go_sem]) (fun h => by cases h) (fun _ => W_skip ?_)
  simp only [go_sem]
  refine W_seq (W_reg ?_)
  simp [go_sem]
  refine (hk _ (fun q cs hq => lookCons hb5.1 hq)).use (fun c s2 hs2 => ?_) (fun _ _ h => h.elim)
  subst hs2
  have h5 := heff5 b5 [I e] hb5.1
  have hb := heff b5 [I e] hb5.1 be _ hbe
  simp [go_sem]
  refine W_reg ?_
  simp [go_sem, h5, hb]
  refine ⟨{ s with objs := putAt (eff s.objs) be [I e] }, ⟨fun q x hq => ?_, fun _ _ h => h, fun _ _ h => h, fun _ _ h => h⟩, by simpa [go_sem] using h⟩
  have hq' : VS.look (putAt (eff s.objs) be [I e]) q = some x := hq
  show VS.look (putAt (eff ((b5, _) :: s.objs)) be [I e]) q = some x
  rw [look_putAt] at hq' ⊢
  by_cases hqe : q = be
  · rw [if_pos hqe] at hq' ⊢
    rw [hbe] at hq'
    rw [hb]
    exact hq'
  · rw [if_neg hqe] at hq' ⊢
    exact heff _ _ hb5.1 _ _ hq'
end Go.Proofs.YtpmknffollpnaaaGreat
namespace Go.Proofs.YtpmknffollpnaaaGreat
open Go Go.VS
structure Pn where
  v : Int
  m : Int
  deriving DecidableEq
def pnC (p : Pn) : List C := [I p.v, I p.m]
def pnsE (l : List Pn) : List (List C) := l.map pnC
abbrev LP (l : List Pn) : C := .li none (pnsE l)
theorem pnsE_length (l : List Pn) : (pnsE l).length = l.length := by simp [pnsE]
theorem pnsE_get (l : List Pn) (i : Nat) : (pnsE l)[i]? = (l[i]?).map pnC := by simp [pnsE]
def badP (l : List Pn) (k : Nat) : Bool :=
  !(inV (l.getD k ⟨0, 0⟩).v) || decide ((l.getD k ⟨0, 0⟩).m < 1) || (decide (0 < k) && decide ((l.getD (k - 1) ⟨0, 0⟩).v ≥ (l.getD k ⟨0, 0⟩).v))
def pinsE (l : List Pn) : Int := if (List.range l.length).all fun k => !badP l k then 0 else 2
theorem pinsE_bad {l : List Pn} {k : Nat} (hk : k < l.length) (h : badP l k = true) : pinsE l = 2 := by
  have : ((List.range l.length).all fun i => !badP l i) = false := by
    rw [List.all_eq_false]
    exact ⟨k, by simpa using hk, by simp [h]⟩
  simp [pinsE, this]
theorem pinsE_ok {l : List Pn} (h : ∀ k, k < l.length → badP l k = false) : pinsE l = 0 := by
  have : ((List.range l.length).all fun i => !badP l i) = true := by
    rw [List.all_eq_true]
    intro k hk
    simp [h k (by simpa using hk)]
  simp [pinsE, this]
set_option maxRecDepth 4000 in
theorem checkPins_c (l : List Pn) (hl : l.length ≤ 1000000000) : Pure Tryz.prog 137 [LP l] (I (pinsE l)) := by
  intro s
  refine CallC_of Tryz.func137 rfl (by rfl) Tryz.ntmps137 (by simp) ?_
  refine W_seq (W_reg ?_)
  simp [go_sem]
  refine W_seq_k fun K hK => W_seq (W_reg ?_)
  simp [go_sem, pnsE_length]
  refine W_range l.length (fun k l' s' => l' = [(0, LP l), (5, LP l)] ∧ Sub s' s ∧ ∀ j, j < k → badP l j = false) (ds := []) (l0 := [(0, LP l), (5, LP l)])
    (by omega) (by decide) ⟨rfl, Sub.refl _, fun j hj => by omega⟩ (by simp [go_sem]) rfl (by rintro k _ _ ⟨rfl, _⟩; simp [notIn]) ?_ ?_
  · rintro k _ s1 hk ⟨rfl, hsub, hall⟩
    refine W_seq (W_reg ?_)
    simp [go_sem, pnsE_get, hk, pnC]
    refine WL_alloc tzero_83 (by simp) fun bx hbx => WL_run _ _ _ ?_
    simp [go_sem]
    have hs3 := Sub.trans (sub_obj hbx [I l[k].v, I l[k].m]) hsub
    have hlb : VS.look ({ s1 with objs := (bx, [I l[k].v, I l[k].m]) :: s1.objs } : St).objs bx = some [I l[k].v, I l[k].m] := by simp [VS.look]
    generalize ({ s1 with objs := (bx, [I l[k].v, I l[k].m]) :: s1.objs } : St) = s3 at hs3 hlb ⊢
    have hkl : l.getD k ⟨0, 0⟩ = l[k] := by simp [List.getD, hk]
    refine W_seq_k fun K2 hK2 => W_drawr 24 Tryz.mixed (by kernel_rfl) ?_
    have key : ∀ E', Has E' [(35, Bo (badP l k)), (7, I k), (6, I l.length), (0, LP l), (5, LP l)] → E'.ds = [] → K2 E' s3 := fun E' h1 h2 => hK2 _ _ (W_keep _ h1 (by
      rw [h2]
      refine W_ifs (badP l k) (by simp [go_sem]) (fun h => W_seq (W_reg ?_)) (fun h => W_skip ?_)
      · simp [go_sem]
        refine W_ret ?_
        simp only [go_sem]
        refine ⟨trivial, _, rfl, s, hs3, ?_, rfl⟩
        rw [pinsE_bad hk h]
        simp [go_sem]
      · simp [go_sem]
        refine ⟨_, ⟨rfl, hs3, fun j hj => ?_⟩, by simp [go_sem]⟩
        rcases Nat.lt_succ_iff_lt_or_eq.1 hj with hj | hj
        · exact hall j hj
        · rw [hj]; exact h))
    have hb : badP l k = (!(inV l[k].v) || decide (l[k].m < 1) || (decide (0 < k) && decide ((l.getD (k - 1) ⟨0, 0⟩).v ≥ l[k].v))) := by simp only [badP, hkl]
    simp [go_sem, hlb]
    refine ⟨_, within_c _ _ _, ?_⟩
    have hi : (decide (1 ≤ l[k].v) && decide (l[k].v ≤ 1099511627776)) = inV l[k].v := rfl
    rw [hi]
    generalize inV l[k].v = ib at hb ⊢
    cases ib
    · simp [go_sem]
      exact key _ (by simp [go_sem, hb]) (by simp [go_sem])
    · by_cases c2 : l[k].m < 1
      · simp [go_sem, hlb, c2]
        exact key _ (by simp [go_sem, hb, c2]) (by simp [go_sem])
      · by_cases c3 : 0 < k
        · have e1 : IntKind.i64.wrap ((k : Int) - 1) = ((k - 1 : Nat) : Int) := by rw [wrap_in (by omega) (by omega)]; omega
          have hk1 : k - 1 < l.length := by omega
          have hkl1 : l.getD (k - 1) ⟨0, 0⟩ = l[k - 1] := by simp [List.getD, hk1]
          rw [hkl1] at hb
          simp [go_sem, hlb, c2, c3, e1, pnsE_get, hk1, pnC]
          exact key _ (by simp [go_sem, hb, c2, c3]) (by simp [go_sem])
        · simp [go_sem, hlb, c2, c3]
          exact key _ (by simp [go_sem, hb, c2, c3]) (by simp [go_sem])
  · rintro _ s1 x ⟨rfl, hsub, hall⟩
    simp only [go_sem]
    refine hK _ _ ?_
    refine W_seq (W_reg ?_)
    simp [go_sem]
    refine W_ret ?_
    simp only [go_sem]
    refine ⟨trivial, _, rfl, s, hsub, ?_, rfl⟩
    rw [pinsE_ok hall]
    simp [go_sem]
theorem tmapi_162 : tmapi Tryz.prog 162 = some (.i64, 3, 3) := by kernel_rfl
theorem tzv_3 : tzv Tryz.prog 3 = some (.int .i64 0) := by kernel_rfl
def pinM (l : List Pn) : List (Int × Int) := l.map fun p => (p.v, p.m)
/-- What a use of pins fails with. -/
def pinF (l : List Pn) (version : Int) : Int := if pinsE l = 0 then (if inV version then 0 else 1) else 2
theorem mlook_none {m : List (Int × Int)} {x : Int} (h : ∀ p ∈ m, p.1 ≠ x) : mlook m x = none := by
  induction m with
  | nil => rfl
  | cons p m ih => simp only [mlook, if_neg (h p (by simp)), ih fun q hq => h q (by simp [hq])]
theorem pins_lt {l : List Pn} (h : pinsE l = 0) : l.Pairwise fun a b => a.v < b.v := by
  have hall : ∀ k, k < l.length → badP l k = false := fun k hk => by
    cases hq : badP l k with
    | false => rfl
    | true => rw [pinsE_bad hk hq] at h; cases h
  refine pair_of_adj (fun a b : Pn => a.v < b.v) (fun x y z h1 h2 => Int.lt_trans h1 h2) l fun i hi => ?_
  have := hall (i + 1) hi
  have e1 : i < l.length := by omega
  simp [badP, hi, e1] at this
  exact this.2
set_option maxRecDepth 4000 in
theorem pinned_c (l : List Pn) (version : Int) (hl : l.length ≤ 1000000000) (s : St) :
    CallC Tryz.prog 92 [LP l, I version] s (fun c s' => pinF l version = 0 ∧ ∃ b, VS.look s.maps b = none ∧ c = .v (.map (some b)) ∧ s' = { s with maps := (b, .map (pinM l)) :: s.maps }) (fun ch s' => pinF l version ≠ 0 ∧ ch = fail (pinF l version) ∧ s' = s) := by
  refine CallC_of Tryz.func92 rfl (by rfl) Tryz.ntmps92 (by simp) ?_
  refine W_seq (W_reg ?_)
  simp [go_sem]
  refine W_seq (W_reg ?_)
  simp [go_sem]
  refine Pure.use (checkPins_c l hl) ?_
  simp [go_sem]
  refine (must_c _ s).use (fun c s2 hc => ?_) (fun ch s2 hc => ?_)
  · obtain ⟨he, rfl⟩ := hc
    simp [go_sem]
    refine W_seq (W_reg ?_)
    simp [go_sem]
    refine Pure.use (within_c _ _ _) ?_
    have hi : (decide (1 ≤ version) && decide (version ≤ 1099511627776)) = inV version := rfl
    rw [hi]
    simp [go_sem]
    refine (need_c _ _ _).use (fun c s2 hc => ?_) (fun ch s2 hc => ?_)
    · obtain ⟨hv, rfl⟩ := hc
      have hF : pinF l version = 0 := by simp [pinF, he, hv]
      simp [go_sem]
      refine W_seq (W_reg ?_)
      simp [go_sem]
      refine WL_makeMap (by simp) fun b hb => WL_run _ _ _ ?_
      simp [go_sem]
      refine W_seq_k fun K hK => W_seq (W_reg ?_)
      simp [go_sem, pnsE_length]
      refine W_range l.length (fun k l' s' => l' = [(15, LP l), (5, .v (.map (some b)))] ∧ Sub s' s2 ∧ VS.look s'.maps b = some (.map (pinM (l.take k)))) (ds := []) (l0 := [(15, LP l), (5, .v (.map (some b)))])
        (by omega) (by decide) ⟨rfl, ⟨fun _ _ h => h, fun _ _ h => h, fun _ _ h => h, fun k x hk => lookCons hb hk⟩, by simp [VS.look, pinM]⟩ (by simp [go_sem]) rfl (by rintro k _ _ ⟨rfl, _⟩; simp [notIn]) ?_ ?_
      · rintro k _ s1 hk ⟨rfl, hsub, hm⟩
        refine W_seq (W_reg ?_)
        simp [go_sem, pnsE_get, hk, pnC]
        refine WL_alloc tzero_83 (by simp) fun bx hbx => WL_run _ _ _ ?_
        simp [go_sem]
        refine W_reg ?_
        simp [go_sem, VS.look]
        have hnew : mlook (pinM (l.take k)) l[k].v = none := mlook_none fun p hp => by
          obtain ⟨q, hq, rfl⟩ := List.mem_map.1 hp
          obtain ⟨j, hj, rfl⟩ := List.getElem_of_mem hq
          simp only [List.length_take] at hj
          rw [List.getElem_take]
          have := List.pairwise_iff_getElem.1 (pins_lt he) j k (by omega) hk (by omega)
          simp only
          omega
        refine WL_mapPush (m := pinM (l.take k)) (b := b) (x := l[k].v) (c := l[k].m) (by simp [go_sem]) (by simp [go_sem]) (by simp [go_sem]) tmapi_162 hm hnew (WL_run _ _ _ ?_)
        simp [go_sem]
        refine ⟨_, ⟨rfl, ⟨fun q x hq => lookCons hbx.1 (hsub.objs _ _ hq), hsub.rows, hsub.toks, fun q x hq => ?_⟩, ?_⟩, by simp [go_sem]⟩
        · have hne : q ≠ b := fun e => by subst e; rw [hb] at hq; cases hq
          show VS.look (putAt s1.maps b _) q = some x
          rw [look_putAt, if_neg hne]
          exact hsub.maps _ _ hq
        · have hp : pinM (l.take (k + 1)) = pinM (l.take k) ++ [(l[k].v, l[k].m)] := by
            rw [List.take_succ_eq_append_getElem hk]
            simp only [pinM, List.map_append, List.map_cons, List.map_nil]
          rw [look_putAt, if_pos rfl, hm, hp]
          rfl
      · rintro _ s1 x ⟨rfl, hsub, hm⟩
        rw [List.take_length] at hm
        simp only [go_sem]
        refine hK _ _ ?_
        refine W_seq (W_reg ?_)
        simp [go_sem]
        refine W_ret ?_
        simp only [go_sem]
        refine ⟨trivial, .v (.map (some b)), by simp [go_sem], { s2 with maps := (b, .map (pinM l)) :: s2.maps }, ⟨hsub.objs, hsub.rows, hsub.toks, fun q x hq => ?_⟩, hF, b, hb, by simp [go_sem], rfl⟩
        by_cases hqb : b = q
        · subst hqb
          have : x = .map (pinM l) := by simpa [VS.look] using hq.symm
          rw [hm, this]
        · have hq' : VS.look ((b, .map (pinM l)) :: s2.maps) q = some x := hq
          simp only [VS.look, if_neg hqb] at hq'
          exact hsub.maps _ _ hq'
    · obtain ⟨hv, rfl, rfl⟩ := hc
      simp only [go_sem]
      have hF : pinF l version = 1 := by simp [pinF, he, hv]
      exact ⟨by simp [go_sem], s2, Sub.refl _, by rw [hF]; simp, by rw [hF], rfl⟩
  · obtain ⟨he, rfl, rfl⟩ := hc
    simp only [go_sem]
    have hp2 : pinsE l = 2 := by
      unfold pinsE at he ⊢
      split at he
      · exact absurd rfl he
      · rename_i h; rw [if_neg h]
    have hF : pinF l version = 2 := by simp [pinF, hp2]
    exact ⟨by simp [go_sem], s2, Sub.refl _, by rw [hF]; simp, by rw [hF, hp2], rfl⟩
end Go.Proofs.YtpmknffollpnaaaGreat
namespace Go.Proofs.YtpmknffollpnaaaGreat
open Go Go.VS
theorem oldest1_c (b : Nat) (s : St) (c0 : C) (hb : VS.look s.objs b = some [c0]) : CallC Tryz.prog 91 [.v (.pointer (some ⟨b, 0, none⟩))] s (fun _ s' => s' = { s with objs := putAt s.objs b [I 0] }) (fun _ _ => False) := by
  refine CallC_of Tryz.func91 rfl (by rfl) Tryz.ntmps91 (by simp) ?_
  refine W_reg ?_
  simp [go_sem, hb]
  exact Sub.refl _
def dCaught (be k : Nat) (caps : Array Value) : Deferred := { target := .fn (.func 43) #[], args := #[.pointer (some ⟨be, 0, none⟩), .func (.func k) #[] caps] }
theorem leave_ret {rs : List ResultVar} {K : KR} {Kp : KP} {f : Nat → C} {be k : Nat} {caps : Array Value} {s : St} (h : ∃ c, resC Tryz.prog rs f s = some c ∧ ∃ s', Sub s s' ∧ K (strip c) s') :
    leaveQ Tryz.prog rs K Kp f [dCaught be k caps] .returning s :=
  ⟨by simp, 43, #[], rfl, caught_ret _ _ _ _ _ h⟩
theorem leave_pan {rs : List ResultVar} {K : KR} {Kp : KP} {f : Nat → C} {be k : Nat} {caps : Array Value} {s : St} {e : Int} (eff : List (Nat × List C) → List (Nat × List C))
    (hk : ∀ s1 : St, (∀ b cs, VS.look s.objs b = some cs → VS.look s1.objs b = some cs) → CallC Tryz.prog k (caps.toList.map .v) s1 (fun _ s2 => s2 = { s1 with objs := eff s1.objs }) (fun _ _ => False))
    (heff : ∀ b5 c, VS.look s.objs b5 = none → ∀ q x, VS.look (eff s.objs) q = some x → VS.look (eff ((b5, c) :: s.objs)) q = some x) (heff5 : ∀ b5 c, VS.look s.objs b5 = none → VS.look (eff ((b5, c) :: s.objs)) b5 = some c) (c0 : C) (hbe : VS.look (eff s.objs) be = some [c0])
    (h : ∃ c, resC Tryz.prog rs f { s with objs := putAt (eff s.objs) be [I e] } = some c ∧ ∃ s', Sub { s with objs := putAt (eff s.objs) be [I e] } s' ∧ K (strip c) s') :
    leaveQ Tryz.prog rs K Kp f [dCaught be k caps] (.panicking (fail e)) s :=
  ⟨by simp, 43, #[], rfl, caught_pan be k e caps eff s _ _ hk heff heff5 c0 hbe h⟩
def oldestP (l : List Pn) (c : Int) : Int × Int := if pinF l c = 0 then ((match l with | [] => c | p :: _ => if p.v < c then p.v else c), 0) else (0, pinF l c)
theorem putAt_cons {α : Type} (O : List (Nat × α)) (b b5 : Nat) (x c : α) (h : b5 ≠ b) : putAt ((b5, c) :: O) b x = (b5, c) :: putAt O b x := by simp [putAt, h]
set_option maxRecDepth 4000 in
theorem oldest_c (l : List Pn) (c : Int) (hl : l.length ≤ 1000000000) : Pure Tryz.prog 41 [LP l, I c] (.tup [I (oldestP l c).1, I (oldestP l c).2]) := by
  intro s
  refine CallC_ofD Tryz.func41 rfl (by rfl) Tryz.ntmps41 (by simp) ?_
  refine W_seq (W_reg ?_)
  simp [go_sem]
  refine WL_alloc tzero_3 (by simp) fun b4 hb4 => WL_run _ _ _ ?_
  simp [go_sem]
  refine WL_alloc tzero_30 (by simp) fun b5 hb5 => WL_run _ _ _ ?_
  have h54 : b5 ≠ b4 := fun e => by subst e; simpa [VS.look] using hb5.1
  simp [go_sem]
  refine W_seq (W_reg ?_)
  simp [go_sem]
  refine WL_defer (k := 43) (first := #[]) (captured := #[]) (l := [.pointer (some ⟨b5, 0, none⟩), .func (.func 91) #[] #[.pointer (some ⟨b4, 0, none⟩)]]) rfl (by simp [go_sem]) (by simp [go_sem]) (WL_run _ _ _ ?_)
  have hv4 : VS.look ({ s with objs := (b5, [C.v (.int .i64 0)]) :: (b4, [C.v (.int .i64 0)]) :: s.objs } : St).objs b4 = some [I 0] := by simp [VS.look, h54]
  have hv5 : VS.look ({ s with objs := (b5, [C.v (.int .i64 0)]) :: (b4, [C.v (.int .i64 0)]) :: s.objs } : St).objs b5 = some [I 0] := by simp [VS.look]
  have hsub : Sub { s with objs := (b5, [C.v (.int .i64 0)]) :: (b4, [C.v (.int .i64 0)]) :: s.objs } s := ⟨fun k x hk => lookCons hb5.1 (lookCons hb4.1 hk), fun _ _ h => h, fun _ _ h => h, fun _ _ h => h⟩
  have hn4 : VS.look s.objs b4 = none := hb4.1
  have hn5 : VS.look s.objs b5 = none := by
    cases hq : VS.look s.objs b5 with
    | none => rfl
    | some q => have := lookCons (a := [C.v (.int .i64 0)]) hb4.1 hq; rw [hb5.1] at this; cases this
  generalize (St.mk _ _ _ _) = s1 at hv4 hv5 hsub ⊢
  simp [go_sem]
  refine W_seq (W_reg ?_)
  simp [go_sem]
  refine (pinned_c l c hl s1).use (fun r s2 hc => ?_) (fun ch s2 hc => ?_)
  · obtain ⟨hF, b, hb, rfl, rfl⟩ := hc
    simp [go_sem]
    refine W_seq_k fun K hK => W_seq (W_reg ?_)
    have key : ∀ (E' : Env) (r : Int), Has E' [(1, I r), (4, .v (.pointer (some ⟨b4, 0, none⟩))), (5, .v (.pointer (some ⟨b5, 0, none⟩)))] → E'.ds = [dCaught b5 91 #[.pointer (some ⟨b4, 0, none⟩)]] → pinF l c = 0 → r = (oldestP l c).1 → K E' { s1 with maps := (b, .map (pinM l)) :: s1.maps } := fun E' r h1 h2 _ hr => hK _ _ (W_keep _ h1 (by
      rw [h2]
      refine W_seq (W_reg ?_)
      simp [go_sem, hv4, hv5, look_putAt, h54]
      refine W_ret ?_
      simp only [retD, envL_ds, set_ds]
      refine leave_ret ⟨.tup [I r, I 0], by simp [go_sem, look_putAt, h54, h54.symm, hv4, hv5], s, ⟨fun k x hk => ?_, hsub.rows, hsub.toks, fun k x hk => lookCons hb (hsub.maps _ _ hk)⟩, ?_, rfl⟩
      · have hk4 : k ≠ b4 := fun e => by subst e; rw [hn4] at hk; cases hk
        have hk5 : k ≠ b5 := fun e => by subst e; rw [hn5] at hk; cases hk
        show VS.look (putAt (putAt s1.objs b4 _) b5 _) k = some x
        rw [look_putAt, if_neg hk5, look_putAt, if_neg hk4]
        exact hsub.objs _ _ hk
      · have : (oldestP l c).2 = 0 := by simp [oldestP, hF]
        simp [go_sem, hr, this]))
    cases l with
    | nil =>
      simp [go_sem, pnsE]
      refine W_ifs false (by simp [go_sem]) (fun h => by cases h) (fun _ => W_skip ?_)
      simp only [go_sem]
      exact key _ c (by simp [go_sem]) (by simp [go_sem, dCaught]) hF (by simp [oldestP, hF])
    | cons p l =>
      have hz : (0 : Int) < (l.length : Int) + 1 := by omega
      simp [go_sem, pnsE, hz]
      refine W_ifs true (by simp [go_sem]) (fun _ => W_reg ?_) (fun h => by cases h)
      simp [go_sem, pnsE, pnC]
      exact key _ (if p.v < c then p.v else c) (by simp [go_sem]) (by simp [go_sem, dCaught]) hF (by simp [oldestP, hF])
  · obtain ⟨hF, rfl, rfl⟩ := hc
    simp only [nextQ_panic, retD, env0_ds, set_ds]
    refine leave_pan (fun O => putAt O b4 [I 0]) (fun s1 h1 => oldest1_c b4 s1 (I 0) (h1 _ _ hv4)) (fun b c hO q x hq => ?_) (fun b c hO => ?_) (I 0) (by rw [look_putAt, if_neg h54, hv5]) ?_
    · have hne : b ≠ b4 := fun e => by subst e; rw [hv4] at hO; cases hO
      show VS.look (putAt ((b, c) :: s2.objs) b4 [I 0]) q = some x
      rw [putAt_cons _ _ _ _ _ hne]
      exact lookCons (by rw [look_putAt, if_neg hne]; exact hO) hq
    · have hne : b ≠ b4 := fun e => by subst e; rw [hv4] at hO; cases hO
      show VS.look (putAt ((b, c) :: s2.objs) b4 [I 0]) b = some c
      rw [putAt_cons _ _ _ _ _ hne]
      simp [VS.look]
    · refine ⟨.tup [I 0, I (pinF l c)], by simp [go_sem, look_putAt, h54, h54.symm, hv4, hv5], s, sub_put (sub_put hsub hn4 _) hn5 _, by simp [go_sem, oldestP, hF], rfl⟩
end Go.Proofs.YtpmknffollpnaaaGreat
namespace Go.Proofs.YtpmknffollpnaaaGreat
open Go Go.VS
theorem unpin1_c (b : Nat) (s : St) (c0 : C) (hb : VS.look s.objs b = some [c0]) : CallC Tryz.prog 93 [.v (.pointer (some ⟨b, 0, none⟩))] s (fun _ s' => s' = { s with objs := putAt s.objs b [.v (.slice none 0 0)] }) (fun _ _ => False) := by
  refine CallC_of Tryz.func93 rfl (by rfl) Tryz.ntmps93 (by simp) ?_
  refine W_reg ?_
  simp [go_sem, hb]
  exact Sub.refl _
set_option maxRecDepth 4000 in
theorem unpinNone_c (l : List Pn) (c : Int) (hl : l.length ≤ 1000000000) (hF : pinF l c = 0) (hm : mlook (pinM l) c = none) : Pure Tryz.prog 42 [LP l, I c] (.tup [LP [], I 4]) := by
  intro s
  refine CallC_ofD Tryz.func42 rfl (by rfl) Tryz.ntmps42 (by simp) ?_
  refine W_seq (W_reg ?_)
  simp [go_sem]
  refine WL_alloc tzero_84 (by simp) fun b4 hb4 => WL_run _ _ _ ?_
  simp [go_sem]
  refine WL_alloc tzero_30 (by simp) fun b5 hb5 => WL_run _ _ _ ?_
  have h54 : b5 ≠ b4 := fun e => by subst e; simpa [VS.look] using hb5.1
  simp [go_sem]
  refine W_seq (W_reg ?_)
  simp [go_sem]
  refine WL_defer (k := 43) (first := #[]) (captured := #[]) (l := [.pointer (some ⟨b5, 0, none⟩), .func (.func 93) #[] #[.pointer (some ⟨b4, 0, none⟩)]]) rfl (by simp [go_sem]) (by simp [go_sem]) (WL_run _ _ _ ?_)
  have hv4 : VS.look ({ s with objs := (b5, [C.v (.int .i64 0)]) :: (b4, [C.v (.slice none 0 0)]) :: s.objs } : St).objs b4 = some [.v (.slice none 0 0)] := by simp [VS.look, h54]
  have hv5 : VS.look ({ s with objs := (b5, [C.v (.int .i64 0)]) :: (b4, [C.v (.slice none 0 0)]) :: s.objs } : St).objs b5 = some [I 0] := by simp [VS.look]
  have hsub : Sub { s with objs := (b5, [C.v (.int .i64 0)]) :: (b4, [C.v (.slice none 0 0)]) :: s.objs } s := ⟨fun k x hk => lookCons hb5.1 (lookCons hb4.1 hk), fun _ _ h => h, fun _ _ h => h, fun _ _ h => h⟩
  have hn4 : VS.look s.objs b4 = none := hb4.1
  have hn5 : VS.look s.objs b5 = none := by
    cases hq : VS.look s.objs b5 with
    | none => rfl
    | some q => have := lookCons (a := [C.v (.slice none 0 0)]) hb4.1 hq; rw [hb5.1] at this; cases this
  generalize (St.mk _ _ _ _) = s1 at hv4 hv5 hsub ⊢
  simp [go_sem]
  refine W_seq (W_reg ?_)
  simp [go_sem]
  refine (pinned_c l c hl s1).use (fun r s2 hc => ?_) (fun ch s2 hc => absurd hF hc.1)
  obtain ⟨_, b, hb, rfl, rfl⟩ := hc
  simp [go_sem]
  refine W_seq (W_reg ?_)
  simp [go_sem]
  refine WL_lookup (b := b) (m := pinM l) (x := c) (by simp [go_sem]) (by simp [go_sem]) tmapi_162 tzv_3 (by simp [VS.look]) (by simp) (WL_run _ _ _ ?_)
  simp [go_sem, hm]
  refine (need_c _ _ _).use (fun r s2 hc => ?_) (fun ch s2 hc => ?_)
  · exact absurd hc.1 (by simp)
  · obtain ⟨_, rfl, rfl⟩ := hc
    simp only [nextQ_panic, retD, env0_ds, set_ds]
    refine leave_pan (fun O => putAt O b4 [.v (.slice none 0 0)]) (fun s1 h1 => unpin1_c b4 s1 (.v (.slice none 0 0)) (h1 _ _ hv4)) (fun b c hO q x hq => ?_) (fun b c hO => ?_) (I 0) (by rw [look_putAt, if_neg h54]; exact hv5) ?_
    · have hne : b ≠ b4 := fun e => by subst e; have hO' : VS.look s1.objs b = none := hO; rw [hv4] at hO'; cases hO'
      show VS.look (putAt ((b, c) :: s1.objs) b4 _) q = some x
      rw [putAt_cons _ _ _ _ _ hne]
      exact lookCons (by rw [look_putAt, if_neg hne]; exact hO) hq
    · have hne : b ≠ b4 := fun e => by subst e; have hO' : VS.look s1.objs b = none := hO; rw [hv4] at hO'; cases hO'
      show VS.look (putAt ((b, c) :: s1.objs) b4 _) b = some c
      rw [putAt_cons _ _ _ _ _ hne]
      simp [VS.look]
    · refine ⟨.tup [.v (.slice none 0 0), I 4], by simp [go_sem, look_putAt, h54, h54.symm, hv4, hv5], s, ⟨fun k x hk => ?_, hsub.rows, hsub.toks, fun k x hk => lookCons hb (hsub.maps _ _ hk)⟩, by simp [go_sem, pnsE], rfl⟩
      have hk4 : k ≠ b4 := fun e => by subst e; rw [hn4] at hk; cases hk
      have hk5 : k ≠ b5 := fun e => by subst e; rw [hn5] at hk; cases hk
      show VS.look (putAt (putAt s1.objs b4 _) b5 _) k = some x
      rw [look_putAt, if_neg hk5, look_putAt, if_neg hk4]
      exact hsub.objs _ _ hk
end Go.Proofs.YtpmknffollpnaaaGreat
namespace Go.Proofs.YtpmknffollpnaaaGreat
open Go Go.VS
/-- How often numbers have been met. -/
def cntE (N : Nat) (ns : List Int) : List (List C) := (List.range N).map fun i : Nat => [I (ns.count (i : Int) : Nat)]
theorem cntE_len (N : Nat) (ns : List Int) : (cntE N ns).length = N := by simp [cntE]
theorem cntE_get (N : Nat) (ns : List Int) (i : Nat) (h : i < N) : (cntE N ns)[i]? = some [I (ns.count (i : Int) : Nat)] := by simp [cntE, h]
theorem cntE_nil (N : Nat) : cntE N [] = List.replicate N [I 0] := by
  refine List.ext_getElem? fun i => ?_
  by_cases h : i < N
  · rw [cntE_get N [] i h, List.getElem?_replicate, if_pos h]; simp
  · rw [List.getElem?_eq_none (by rw [cntE_len]; omega), List.getElem?_eq_none (by simp; omega)]
theorem cntE_set (N : Nat) (ns : List Int) (m : Int) (h0 : 0 ≤ m) (h1 : m < N) : (cntE N ns).set m.toNat [I ((ns.count m : Nat) + 1)] = cntE N (ns ++ [m]) := by
  refine List.ext_getElem? fun i => ?_
  by_cases h : i < N
  · rw [cntE_get N _ i h]
    by_cases e : m.toNat = i
    · subst e
      rw [List.getElem?_set_self (by rw [cntE_len]; exact h)]
      simp [Int.toNat_of_nonneg h0]
    · rw [List.getElem?_set_ne e, cntE_get N ns i h]
      have : ¬ m = (i : Int) := by omega
      simp [List.count_cons, this]
  · rw [List.getElem?_eq_none (by simp [cntE_len]; omega), List.getElem?_eq_none (by rw [cntE_len]; omega)]
/-- The first number from one on that is not met once. -/
def odd1 (ns : List Int) : Nat → Nat → Option Nat
  | 0, _ => none
  | f + 1, n => if ns.count (n : Int) = 1 then odd1 ns f (n + 1) else some n
def accP (pages : Int) (used : List Int) (l : List Fr) : Int × Int :=
  if checkE l pages = 0 then (if incr used pages then (match odd1 (used ++ nums l) (pages.toNat - 2) 2 with | some n => (9, (n : Int)) | none => (0, 0)) else (1, 0)) else (checkE l pages, 0)
structure CntI (O : List (Nat × List C)) (R : VS.Rows) (s : St) (b9 bm N : Nat) (ns : List Int) : Prop where
  v9 : VS.look O b9 = some [.rs bm N]
  row : VS.look R bm = some (1, cntE N ns)
  o : ∀ k x, VS.look s.objs k = some x → VS.look O k = some x
  r : ∀ k x, VS.look s.rows k = some x → VS.look R k = some x
theorem CntI.put {O : List (Nat × List C)} {R : VS.Rows} {s : St} {b9 bm N : Nat} {ns ms : List Int} (h : CntI O R s b9 bm N ns) (hn : VS.look s.rows bm = none) : CntI O (putAt R bm (1, cntE N ms)) s b9 bm N ms :=
  ⟨h.v9, by rw [look_putAt, if_pos rfl, h.row]; rfl, h.o, fun k x hk => by
    have : k ≠ bm := fun e => by subst e; rw [hn] at hk; cases hk
    rw [look_putAt, if_neg this]
    exact h.r k x hk⟩
theorem nums_len_pairs (l : List Fr) : (nums l).length = (pairs l).length := by simp [nums]
set_option maxRecDepth 4000 in
theorem account_c (n : Nat) (pages : Int) (used : List Int) (l : List Fr) (hs : Sz n l) (hn : n ≤ 100000000) (hu : used.length ≤ 100000000) (ht : (nums l).length ≤ 100000000) (hp0 : -1000000000 ≤ pages) (hp1 : pages ≤ 1000000000) :
    Pure Tryz.prog 22 [I pages, LI used, LF l] (.tup [I (accP pages used l).1, I (accP pages used l).2]) := by
  intro s
  refine CallC_ofM Tryz.func22 rfl (by rfl) Tryz.ntmps22 (by simp) ?_
  refine W_seq (W_reg ?_)
  simp [go_sem]
  refine W_seq (W_seq (W_reg ?_))
  simp [go_sem]
  refine Pure.use (check_c _ _ hp0 hp1) ?_
  have hA : accP pages used l = if checkE l pages = 0 then (if incr used pages then (match odd1 (used ++ nums l) (pages.toNat - 2) 2 with | some n => (9, (n : Int)) | none => (0, 0)) else (1, 0)) else (checkE l pages, 0) := rfl
  have hval : checkE l pages = 0 → 2 ≤ pages ∧ pages ≤ 4096 ∧ Good l pages := fun h => by
    unfold checkE at h
    split at h
    · rename_i h1
      simp at h1
      split at h
      · rename_i h2
        rw [validB_isB] at h2
        simp at h2
        exact ⟨h1.1, h1.2, (isB_iff _ _).1 h2.2⟩
      · cases h
    · cases h
  generalize checkE l pages = e at hA hval ⊢
  simp [go_sem]
  refine W_seq (W_reg ?_)
  simp [go_sem]
  by_cases he : e = 0
  · obtain ⟨hp2, hp3, hgood⟩ := hval he
    rw [if_pos he] at hA
    refine W_ifs false (by simp [go_sem, he]) (fun h => by cases h) (fun _ => W_skip ?_)
    simp only [go_sem]
    refine W_seq (W_seq (W_reg ?_))
    simp [go_sem]
    refine Pure.use (increasing_c _ _ hp0 hp1) ?_
    simp [go_sem]
    have hinc := fun h : incr used pages = true => ((incr_iff used pages).1 h).2
    generalize incr used pages = ib at hA hinc ⊢
    cases ib
    · refine W_ifs true (by simp [go_sem]) (fun _ => W_seq (W_reg ?_)) (fun h => by cases h)
      simp [go_sem]
      refine W_ret ?_
      simp only [go_sem]
      exact .inl ⟨trivial, _, rfl, s, Sub.refl _, by simp [go_sem, hA], rfl⟩
    · have hinc := hinc rfl
      simp only [if_true] at hA
      refine W_ifs false (by simp [go_sem]) (fun h => by cases h) (fun _ => W_skip ?_)
      simp only [go_sem]
      refine W_seq (W_reg ?_)
      simp [go_sem]
      obtain ⟨N, hN⟩ : ∃ N : Nat, pages = (N : Int) := ⟨pages.toNat, by omega⟩
      subst hN
      refine WL_makeSlice (n := N) (k := .i64) (by simp [go_sem]) (by simp [go_sem]) tel_23 tzero_3 (by simp [go_sem]) (by simp [go_sem]) (by simp [go_sem]; omega) (by unfold maxLen; omega) (by simp) fun bm hb1 hb2 => WL_run _ _ _ ?_
      simp [go_sem]
      refine WL_alloc tzero_23 (by simp) fun b9 hb9 => WL_run _ _ _ ?_
      simp [go_sem]
      have hC : CntI ((b9, [C.rs bm N]) :: s.objs) ((bm, (1, List.replicate N [C.v (.int .i64 0)])) :: s.rows) s b9 bm N (used.take 0) := by
        refine ⟨by simp [VS.look], by simp [VS.look, cntE_nil], fun k x hk => lookCons hb9.1 hk, fun k x hk => lookCons hb1 hk⟩
      have hb9s := hb9.1
      refine (fun (h : ∀ s2 : St, CntI s2.objs s2.rows s b9 bm N (used.take 0) → s2.toks = s.toks → s2.maps = s.maps → W Tryz.prog ⟨61, none⟩ _ _ s2 _) => h _ (by exact hC) (by rfl) (by rfl)) ?_
      clear hC
      intro s2 hC2 htk2 hmp2
      refine W_seq_k fun K hK => W_seq (W_reg ?_)
      simp [go_sem, intsE_length]
      have hwc : ∀ q : Nat, q ≤ 1000000000 → IntKind.i64.wrap ((q : Int) + 1) = (q : Int) + 1 := fun q hq => wrap_in (by omega) (by omega)
      refine W_range used.length (fun k L s' => L = [(27, LI used), (0, I N), (2, LF l), (9, .v (.pointer (some ⟨b9, 0, none⟩)))] ∧ CntI s'.objs s'.rows s b9 bm N (used.take k) ∧ s'.toks = s.toks ∧ s'.maps = s.maps)
        (l0 := [(27, LI used), (0, I N), (2, LF l), (9, .v (.pointer (some ⟨b9, 0, none⟩)))]) (ds := []) (by omega) (by decide) ⟨rfl, hC2, htk2, hmp2⟩ (by simp [go_sem]) rfl (by rintro k _ _ ⟨rfl, _⟩; simp [notIn]) ?_ ?_
      · rintro k _ s3 hk ⟨rfl, hC3, htk3, hmp3⟩
        have hr := hinc _ (List.getElem_mem hk)
        have hnn : 0 ≤ used[k] := by omega
        have hlt : used[k] < (N : Int) := by omega
        have hlt2 : used[k].toNat < N := by omega
        have htn : ((used[k].toNat : Nat) : Int) = used[k] := Int.toNat_of_nonneg hnn
        have hget := cntE_get N (used.take k) _ hlt2
        rw [htn] at hget
        have hcl : (used.take k).count used[k] ≤ 1000000000 := by have := List.count_le_length (a := used[k]) (l := used.take k); simp at this; omega
        have hset := cntE_set N (used.take k) used[k] hnn hlt
        rw [← List.take_succ_eq_append_getElem hk] at hset
        have v9 := hC3.v9
        have vr := hC3.row
        refine W_seq (W_reg ?_)
        simp [go_sem, intsE_get, hk]
        refine W_reg ?_
        simp [go_sem, v9, vr, hnn, hlt, hget, hwc _ hcl]
        rw [hset]
        exact ⟨_, ⟨rfl, hC3.put hb1, htk3, hmp3⟩, by simp [go_sem]⟩
      · rintro _ s3 x ⟨rfl, hC3, htk3, hmp3⟩
        rw [List.take_length] at hC3
        simp only [go_sem]
        refine hK _ _ ?_
        have hrange : ∀ m ∈ nums l, 2 ≤ m ∧ m ≤ (N : Int) - 1 := nums_range ((bad_iff _ _).2 ⟨hgood.v, hgood.ok⟩)
        refine W_seq (W_seq (W_reg ?_))
        simp [go_sem]
        refine CallC.use (each_c l s3) ?_ (fun _ _ h => h.elim)
        rintro c s4 ⟨be, hbe, rfl, rfl⟩
        simp [go_sem]
        have hne : ∀ k x, VS.look s3.objs k = some x → VS.look ((be, [LF l]) :: s3.objs) k = some x := fun k x hk => lookCons hbe.1 hk
        refine W_block (W_rangeFunc (m := (pairs l).length) (x1 := fun i => I ((pairs l).getD i (0, 0)).1) (x2 := fun i => I ((pairs l).getD i (0, 0)).2) rfl (by simp [go_sem]) (by simp) (by simp) (fun s5 h5 => each_it l be s5 (by rw [h5]; simp [VS.look]))
          (fun i O R => CntI O R s b9 bm N (used ++ (nums l).take i)) (fun O R => False)
          (fun i O O' R h ho => ⟨ho _ _ h.v9, h.row, fun k x hk => ho _ _ (h.o k x hk), h.r⟩)
          ⟨hne _ _ hC3.v9, by simpa using hC3.row, fun k x hk => hne _ _ (hC3.o k x hk), hC3.r⟩ ?_ ?_ ?_)
        · rintro i lp s5 hi hC5
          refine W_reg ?_
          simp [go_sem, roundE]
          intro s6 ho hrw
          have hil : i < (nums l).length := by rw [nums_len_pairs]; exact hi
          have hn' : ((pairs l)[i]?.getD (0, 0)).snd = (nums l)[i] := by simp [nums, show i < (pairs l).length from hi]
          rw [hn']
          have hr := hrange _ (List.getElem_mem hil)
          have hnn : 0 ≤ (nums l)[i] := by omega
          have hlt : (nums l)[i] < (N : Int) := by omega
          have hlt2 : (nums l)[i].toNat < N := by omega
          have htn : (((nums l)[i].toNat : Nat) : Int) = (nums l)[i] := Int.toNat_of_nonneg hnn
          have hget := cntE_get N (used ++ (nums l).take i) _ hlt2
          rw [htn] at hget
          have hcl : (used ++ (nums l).take i).count (nums l)[i] ≤ 1000000000 := by have := List.count_le_length (a := (nums l)[i]) (l := used ++ (nums l).take i); simp at this; simp; omega
          have hset := cntE_set N (used ++ (nums l).take i) (nums l)[i] hnn hlt
          rw [List.append_assoc, ← List.take_succ_eq_append_getElem hil] at hset
          have v9 := hC5.v9
          have vr := hC5.row
          generalize hcq : (used ++ (nums l).take i).count (nums l)[i] = cq at hget hset hcl
          refine W_keep [(13, I (nums l)[i]), (9, .v (.pointer (some ⟨b9, 0, none⟩)))] (by simp [go_sem, vOnly]) ?_
          refine W_block (W_reg ?_)
          simp [go_sem, ho, hrw, v9, vr, hnn, hlt, hget, hwc _ hcl, roundQ]
          rw [hset]
          have := hC5.put (ms := used ++ (nums l).take (i + 1)) hb1
          exact ⟨this, fun k cs hk hk' => hk', fun k hk => hk⟩
        · rintro s5 D hC5 hD hDn htk hmp
          rw [List.take_of_length_le (by rw [nums_len_pairs]; exact Nat.le_refl _)] at hC5
          simp only [go_sem]
          refine W_keep [(9, .v (.pointer (some ⟨b9, 0, none⟩))), (0, I N)] (by simp [go_sem]) ?_
          refine W_seq_k fun K2 hK2 => W_seq (W_reg ?_)
          simp [go_sem]
          have v9 := hC5.v9
          have vr := hC5.row
          have hsubS : Sub { s5 with maps := putAt s5.maps D (.raw (.deferred none)) } s := by
            refine ⟨fun k x hk => hC5.o k x hk, fun k x hk => hC5.r k x hk, fun k x hk => htk k x ?_, fun k x hk => ?_⟩
            · show VS.look s3.toks k = some x; rw [htk3]; exact hk
            · have hk' : VS.look s3.maps k = some x := by rw [hmp3]; exact hk
              have hDn' : VS.look s3.maps D = none := hDn
              have hne2 : k ≠ D := fun e => by subst e; rw [hDn'] at hk'; cases hk'
              show VS.look (putAt s5.maps D _) k = some x
              rw [look_putAt, if_neg hne2]
              exact hmp k x hk'
          refine W_for (N - 2) (fun k L s' => L = [(9, .v (.pointer (some ⟨b9, 0, none⟩))), (0, I N), (14, I ((2 + k : Nat) : Int))] ∧ s' = s5 ∧ odd1 (used ++ nums l) (N - 2) 2 = odd1 (used ++ nums l) (N - 2 - k) (2 + k))
            (l0 := [(9, .v (.pointer (some ⟨b9, 0, none⟩))), (0, I N), (14, I ((2 + 0 : Nat) : Int))]) (ds := [{ target := .collected D, args := #[] }]) ⟨rfl, rfl, rfl⟩ (by simp [go_sem]) (by simp [go_sem]) ?_
          rintro k _ s6 hk ⟨rfl, rfl, hodd⟩ K3 hK3
          refine W_reg ?_
          simp [go_sem]
          refine hK3 _ _ (decide (2 + k < N)) [(9, .v (.pointer (some ⟨b9, 0, none⟩))), (0, I N), (14, I ((2 + k : Nat) : Int))] (by simp [go_sem]) (by simp [go_sem]; omega) (by simp [go_sem]) (fun hlt => ?_) (fun hge => ?_)
          · simp only [decide_eq_true_eq] at hlt
            have hget := cntE_get N (used ++ nums l) (2 + k) hlt
            have hf : N - 2 - k = (N - 2 - (k + 1)) + 1 := by omega
            rw [hf] at hodd
            simp only [odd1] at hodd
            have hw2 : IntKind.i64.wrap (((2 + k : Nat) : Int) + 1) = ((2 + (k + 1) : Nat) : Int) := by rw [wrap_in (by omega) (by omega)]; omega
            generalize (used ++ nums l).count ((2 + k : Nat) : Int) = cq at hget hodd
            refine ⟨by omega, W_seq (W_reg ?_)⟩
            have hcast : (2 : Int) + (k : Int) = ((2 + k : Nat) : Int) := by omega
            have hlt3 : ((2 + k : Nat) : Int) < (N : Int) := by omega
            have hnn3 : (0 : Int) ≤ ((2 + k : Nat) : Int) := by omega
            generalize hq : 2 + k = q at *
            simp [go_sem, v9, vr, hlt3, hlt, hget]
            by_cases hc1 : cq = 1
            · rw [if_pos hc1] at hodd
              refine W_ifs false (by simp [go_sem, hc1]) (fun h => by cases h) (fun _ => W_skip ?_)
              simp only [go_sem]
              refine W_reg ?_
              simp [go_sem, hw2]
              exact ⟨_, ⟨rfl, by rw [hodd]; congr 1; omega⟩, by simp [go_sem]⟩
            · rw [if_neg hc1] at hodd
              rw [show (((N : Int).toNat) - 2) = N - 2 by simp, hodd] at hA
              have hcb : ((cq : Int) == 1) = false := by rw [beq_eq_false_iff_ne]; omega
              refine W_ifs true (by simp [go_sem, hcb, bne]) (fun _ => W_seq (W_reg ?_)) (fun h => by cases h)
              simp [go_sem]
              refine W_ret ?_
              simp only [go_sem]
              refine .inr ⟨D, by simp [go_sem, markOf], hD, .tup [I 9, I q], by simp [go_sem], s, hsubS, by simp [go_sem, hA], rfl⟩
          · simp only [decide_eq_false_iff_not] at hge
            have hf : N - 2 - k = 0 := by omega
            rw [hf] at hodd
            simp only [odd1] at hodd
            rw [show (((N : Int).toNat) - 2) = N - 2 by simp, hodd] at hA
            simp only [go_sem]
            refine hK2 _ _ ?_
            refine W_seq (W_reg ?_)
            simp [go_sem]
            refine W_ret ?_
            simp only [go_sem]
            refine .inr ⟨D, by simp [go_sem, markOf], hD, .tup [I 0, I 0], by simp [go_sem], s, hsubS, by simp [go_sem, hA], rfl⟩
        · rintro s5 D hf
          exact hf.elim
  · rw [if_neg he] at hA
    refine W_ifs true (by simp [go_sem, he]) (fun _ => W_seq (W_reg ?_)) (fun h => by cases h)
    simp [go_sem]
    refine W_ret ?_
    simp only [go_sem]
    exact .inl ⟨trivial, _, rfl, s, Sub.refl _, by simp [go_sem, hA], rfl⟩
end Go.Proofs.YtpmknffollpnaaaGreat
namespace Go.Proofs.YtpmknffollpnaaaGreat
open Go Go.VS
theorem pwithin_c (n lo hi : Int) : Pure Tryz.prog 118 [I n, I lo, I hi] (Bo (decide (lo ≤ n) && decide (n ≤ hi))) := by
  intro s
  refine CallC_of Tryz.func118 rfl (by rfl) Tryz.ntmps118 (by simp) ?_
  by_cases h1 : lo ≤ n
  all_goals
    refine W_seq (W_reg ?_)
    simp [go_sem]
    refine W_seq (W_reg ?_)
    simp [go_sem, h1]
    refine W_ret ?_
    simp only [go_sem]
    exact ⟨trivial, _, rfl, _, Sub.refl _, by simp, rfl⟩
def numB (n : Int) : Bool := decide (2 ≤ n) && decide (n ≤ 4095)
theorem numbered_c (n : Int) : Pure Tryz.prog 119 [I n] (Bo (numB n)) := by
  intro s
  refine CallC_of Tryz.func119 rfl (by rfl) Tryz.ntmps119 (by simp) ?_
  refine W_seq (W_reg ?_)
  simp [go_sem]
  refine W_seq (W_reg ?_)
  simp [go_sem]
  refine Pure.use (pwithin_c _ _ _) ?_
  simp [go_sem]
  refine W_ret ?_
  simp only [go_sem]
  exact ⟨trivial, _, rfl, _, Sub.refl _, by simp [numB], rfl⟩
theorem more_c (l : List Fr) : Pure Tryz.prog 121 [LF l] (Bo (decide (0 < l.length))) := by
  intro s
  refine CallC_of Tryz.func121 rfl (by rfl) Tryz.ntmps121 (by simp) ?_
  refine W_seq (W_reg ?_)
  simp [go_sem]
  refine W_seq (W_reg ?_)
  simp [go_sem, frsE_length]
  refine W_ret ?_
  simp only [go_sem]
  exact ⟨trivial, _, rfl, _, Sub.refl _, by simp, rfl⟩
def freedB (l : List Fr) : Bool := (List.range l.length).all fun i => !badF l 4096 i
theorem freedB_bad {l : List Fr} {k : Nat} (hk : k < l.length) (h : badF l 4096 k = true) : freedB l = false := by
  unfold freedB
  rw [List.all_eq_false]
  exact ⟨k, by simpa using hk, by simp [h]⟩
theorem freedB_ok {l : List Fr} (h : ∀ j, j < l.length → badF l 4096 j = false) : freedB l = true := by
  unfold freedB
  rw [List.all_eq_true]
  intro k hk
  simp [h k (by simpa using hk)]
set_option maxRecDepth 4000 in
theorem freed_c (n : Nat) (l : List Fr) (hs : Sz n l) (hn : n ≤ 1000000000) : Pure Tryz.prog 75 [LF l] (Bo (freedB l)) := by
  intro s
  refine CallC_of Tryz.func75 rfl (by rfl) Tryz.ntmps75 (by simp) ?_
  refine W_seq (W_reg ?_)
  simp [go_sem]
  refine W_seq_k fun K hK => W_seq (W_reg ?_)
  simp [go_sem, frsE_length]
  have hsl := hs.len
  refine W_range l.length (fun k l' s' => l' = [(0, LF l), (7, LF l)] ∧ Sub s' s ∧ ∀ j, j < k → badF l 4096 j = false) (ds := []) (l0 := [(0, LF l), (7, LF l)])
    (by omega) (by decide) ⟨rfl, Sub.refl _, fun j hj => by omega⟩ (by simp [go_sem]) rfl (by rintro k _ _ ⟨rfl, _⟩; simp [notIn]) ?_ ?_
  · rintro k _ s1 hk ⟨rfl, hsub, hall⟩
    refine W_seq (W_reg ?_)
    simp [go_sem, frsE_get, hk, frC]
    refine WL_alloc tzero_64 (by simp) fun bx hbx => WL_run _ _ _ ?_
    simp [go_sem]
    have hs3 := Sub.trans (sub_obj hbx [I l[k].v, LI l[k].p]) hsub
    have hlb : VS.look ({ s1 with objs := (bx, [I l[k].v, LI l[k].p]) :: s1.objs } : St).objs bx = some [I l[k].v, LI l[k].p] := by simp [VS.look]
    generalize ({ s1 with objs := (bx, [I l[k].v, LI l[k].p]) :: s1.objs } : St) = s3 at hs3 hlb ⊢
    have hkl : l.getD k ⟨0, []⟩ = l[k] := by simp [List.getD, hk]
    have hpl := hs.p _ (List.getElem_mem hk)
    refine W_seq (W_seq_k fun K3 hK3 => W_drawr 25 Tryz.mixed (by kernel_rfl) ?_)
    have key : ∀ E', Has E' [(38, Bo (badH l k)), (9, I k), (8, I l.length), (0, LF l), (7, LF l), (4, .v (.pointer (some ⟨bx, 0, none⟩)))] → E'.ds = [] → K3 E' s3 := fun E' h1 h2 => hK3 _ _ (W_keep _ h1 (by
      rw [h2]
      refine W_ifs (badH l k) (by simp [go_sem]) (fun h => W_seq (W_reg ?_)) (fun h => W_skip ?_)
      · simp [go_sem]
        refine W_ret ?_
        simp only [go_sem]
        refine ⟨trivial, _, rfl, s, hs3, ?_, rfl⟩
        rw [freedB_bad hk (by rw [badF_H hk, h]; rfl)]
        simp [go_sem]
      · simp only [go_sem]
        refine W_seq (W_reg ?_)
        simp [go_sem, hlb, intsE_length]
        refine W_range l[k].p.length (fun j l' s' => l' = [(40, LI l[k].p), (0, LF l), (7, LF l), (4, .v (.pointer (some ⟨bx, 0, none⟩))), (9, I k), (8, I l.length)] ∧ s' = s3 ∧ ∀ i, i < j → badI l[k].p 4096 i = false) (ds := [])
          (l0 := [(40, LI l[k].p), (0, LF l), (7, LF l), (4, .v (.pointer (some ⟨bx, 0, none⟩))), (9, I k), (8, I l.length)]) (by omega) (by decide) ⟨rfl, rfl, fun i hi => by omega⟩ (by simp [go_sem]) rfl (by rintro k _ _ ⟨rfl, _⟩; simp [notIn]) ?_ ?_
        · rintro j _ s4 hj ⟨rfl, rfl, hall4⟩
          refine W_seq (W_reg ?_)
          simp [go_sem, intsE_get, hj]
          have hpj : l[k].p.getD j 0 = l[k].p[j] := by simp [List.getD, hj]
          have hbI : badI l[k].p 4096 j = (!(numB l[k].p[j]) || (decide (0 < j) && decide (l[k].p.getD (j - 1) 0 ≥ l[k].p[j]))) := by simp only [badI, hpj, numB]; rfl
          refine W_seq_k fun K6 hK6 => W_reg ?_
          have key2 : ∀ E', Has E' [(63, Bo (badI l[k].p 4096 j)), (42, I j), (41, I l[k].p.length), (40, LI l[k].p), (0, LF l), (7, LF l), (4, .v (.pointer (some ⟨bx, 0, none⟩))), (9, I k), (8, I l.length)] → E'.ds = [] → K6 E' s4 := fun E' h1 h2 => hK6 _ _ (W_keep _ h1 (by
            rw [h2]
            refine W_ifs (badI l[k].p 4096 j) (by simp [go_sem]) (fun hb => W_seq (W_reg ?_)) (fun hb => W_skip ?_)
            · simp [go_sem]
              refine W_ret ?_
              simp only [go_sem]
              refine ⟨trivial, _, rfl, s, hs3, ?_, rfl⟩
              rw [freedB_bad hk (by rw [badF_H hk, incr_false hj hb]; simp)]
              simp [go_sem]
            · simp [go_sem]
              refine ⟨_, ⟨rfl, fun i hi => ?_⟩, by simp [go_sem]⟩
              rcases Nat.lt_succ_iff_lt_or_eq.1 hi with hi | hi
              · exact hall4 i hi
              · rw [hi]; exact hb))
          simp [go_sem]
          refine Pure.use (numbered_c _) ?_
          generalize numB l[k].p[j] = nb at hbI ⊢
          cases nb
          · simp [go_sem]
            exact key2 _ (by simp [go_sem, hbI]) (by simp [go_sem])
          · by_cases c4 : 0 < j
            · have e1 : IntKind.i64.wrap ((j : Int) - 1) = ((j - 1 : Nat) : Int) := by rw [wrap_in (by omega) (by omega)]; omega
              have hj1 : j - 1 < l[k].p.length := by omega
              have hp1 : l[k].p.getD (j - 1) 0 = l[k].p[j - 1] := by simp [List.getD, hj1]
              rw [hp1] at hbI
              simp [go_sem, c4, hlb, e1, intsE_get, hj1]
              exact key2 _ (by simp [go_sem, hbI, c4]) (by simp [go_sem])
            · simp [go_sem, c4]
              exact key2 _ (by simp [go_sem, hbI, c4]) (by simp [go_sem])
        · rintro _ s4 x ⟨rfl, rfl, hall4⟩
          simp [go_sem]
          refine ⟨_, ⟨rfl, hs3, fun j hj => ?_⟩, by simp [go_sem]⟩
          rcases Nat.lt_succ_iff_lt_or_eq.1 hj with hj | hj
          · exact hall j hj
          · rw [hj, badF_H hk, h, incr_true hall4]; rfl))
    have hbH : badH l k = (!(decide (0 ≤ l[k].v) && decide (l[k].v ≤ 1099511627776)) || (decide (0 < k) && decide ((l.getD (k - 1) ⟨0, []⟩).v ≥ l[k].v)) || decide (l[k].p.length = 0)) := by simp only [badH, hkl]
    simp [go_sem, hlb]
    refine ⟨_, pwithin_c _ _ _, ?_⟩
    generalize (decide (0 ≤ l[k].v) && decide (l[k].v ≤ 1099511627776)) = wb at hbH ⊢
    cases wb
    · simp [go_sem]
      exact key _ (by simp [go_sem, hbH]) (by simp [go_sem])
    · by_cases c2 : l[k].p.length = 0
      · simp [go_sem, hlb, intsE_length, c2]
        exact key _ (by simp [go_sem, hbH, c2]) (by simp [go_sem])
      · have hz' : ((l[k].p.length : Int) == 0) = false := by simpa using c2
        by_cases c3 : 0 < k
        · have e1 : IntKind.i64.wrap ((k : Int) - 1) = ((k - 1 : Nat) : Int) := by rw [wrap_in (by omega) (by omega)]; omega
          have hk1 : k - 1 < l.length := by omega
          have hkl1 : l.getD (k - 1) ⟨0, []⟩ = l[k - 1] := by simp [List.getD, hk1]
          rw [hkl1] at hbH
          simp [go_sem, hlb, intsE_length, hz', c3, e1, frsE_get, hk1, frC]
          exact key _ (by simp [go_sem, hbH, c2, c3]) (by simp [go_sem])
        · simp [go_sem, hlb, intsE_length, hz', c3]
          exact key _ (by simp [go_sem, hbH, c2, c3]) (by simp [go_sem])
  · rintro _ s1 x ⟨rfl, hsub, hall⟩
    simp only [go_sem]
    refine hK _ _ ?_
    refine W_seq (W_reg ?_)
    simp [go_sem]
    refine W_ret ?_
    simp only [go_sem]
    refine ⟨trivial, _, rfl, s, hsub, ?_, rfl⟩
    rw [freedB_ok hall]
    simp [go_sem]
end Go.Proofs.YtpmknffollpnaaaGreat
namespace Go.Proofs.YtpmknffollpnaaaGreat
open Go Go.VS
/-- What fits in a page, with so much room, and the rest. -/
def cutP : Nat → List Fr → List Fr × List Fr
  | _, [] => ([], [])
  | room, f :: l =>
    if room < 12 ∨ min ((room - 8) / 4) f.p.length < 1 then ([], f :: l)
    else if min ((room - 8) / 4) f.p.length < f.p.length then ([⟨f.v, f.p.take (min ((room - 8) / 4) f.p.length)⟩], ⟨f.v, f.p.drop (min ((room - 8) / 4) f.p.length)⟩ :: l)
    else (f :: (cutP (room - (8 + 4 * f.p.length)) l).1, (cutP (room - (8 + 4 * f.p.length)) l).2)
theorem intsE_all (l : List Int) : ((intsE l).all fun x => x.length == 1) = true := by
  rw [List.all_eq_true]
  intro e he
  simpa using intsE_len l e he
theorem frsE_all (l : List Fr) : ((frsE l).all fun x => x.length == 2) = true := by
  rw [List.all_eq_true]
  intro e he
  simpa using frsE_len l e he
theorem frsE_slice (l : List Fr) (k : Nat) : List.drop k (List.take l.length (frsE l)) = frsE (l.drop k) := by
  rw [List.take_of_length_le (by rw [frsE_length]; exact Nat.le_refl _)]
  simp [frsE, List.map_drop]
theorem intsE_slice (l : List Int) (k : Nat) : List.drop k (List.take l.length (intsE l)) = intsE (l.drop k) := by
  rw [List.take_of_length_le (by rw [intsE_length]; exact Nat.le_refl _)]
  simp [intsE, List.map_drop]
theorem intsE_takeE (l : List Int) (k : Nat) : List.take k (intsE l) = intsE (l.take k) := by simp [intsE, List.map_take]
structure CutS (s s' : St) (r r2 m : Nat) : Prop where
  tk : TokI s s' r 2 m
  t2 : VS.look s'.toks r2 = some (2, 0)
  ne : r2 ≠ r
  n2 : VS.look s.toks r2 = none
theorem CutS.obj {s s1 : St} {r r2 m b : Nat} (h : CutS s s1 r r2 m) (hb : Fresh b s1) (cs : List C) : CutS s { s1 with objs := (b, cs) :: s1.objs } r r2 m := ⟨h.tk.obj hb cs, h.t2, h.ne, h.n2⟩
theorem CutS.lit {s s1 : St} {r r2 m q : Nat} (h : CutS s s1 r r2 m) (hq : VS.look s1.toks q = none) (x : Nat × Nat) : CutS s { s1 with toks := (q, x) :: s1.toks } r r2 m := ⟨h.tk.lit hq x, lookCons hq h.t2, h.ne, h.n2⟩
theorem CutS.put {s s1 : St} {r r2 m : Nat} (h : CutS s s1 r r2 m) (m' : Nat) : CutS s { s1 with toks := putAt s1.toks r (2, m') } r r2 m' :=
  ⟨h.tk.put m', by
    show VS.look (putAt s1.toks r (2, m')) r2 = _
    rw [look_putAt, if_neg h.ne]
    exact h.t2, h.ne, h.n2⟩
theorem CutS.sub2 {s s1 : St} {r r2 m : Nat} (h : CutS s s1 r r2 m) (x : Nat × Nat) : Sub { s1 with toks := putAt s1.toks r2 x } s :=
  ⟨h.tk.sub.objs, h.tk.sub.rows, fun k y hk => by
    have : k ≠ r2 := fun e => by subst e; rw [h.n2] at hk; cases hk
    show VS.look (putAt s1.toks r2 x) k = some y
    rw [look_putAt, if_neg this]
    exact h.tk.sub.toks _ _ hk, h.tk.sub.maps⟩
def CutI (l : List Fr) (s : St) (r r2 : Nat) (k : Nat) (L : List (Nat × C)) (s' : St) : Prop :=
  ∃ (part : List Fr) (room : Nat), L = [(0, LF l), (8, LF l), (2, .li (some r) (frsE part)), (3, .li (some r2) []), (4, I room)] ∧ CutS s s' r r2 part.length ∧ part.length ≤ k ∧ room ≤ 490 ∧
    (cutP 490 l).1 = part ++ (cutP room (l.drop k)).1 ∧ (cutP 490 l).2 = (cutP room (l.drop k)).2
set_option maxRecDepth 4000 in
theorem cut_c (n : Nat) (l : List Fr) (hs : Sz n l) (hn : n ≤ 100000000) : Pure Tryz.prog 122 [LF l] (.tup [LF (cutP 490 l).1, LF (cutP 490 l).2]) := by
  intro s
  refine CallC_of Tryz.func122 rfl (by rfl) Tryz.ntmps122 (by simp) ?_
  refine W_seq (W_reg ?_)
  simp [go_sem]
  refine W_tok 2 2 (by simp [go_sem]) fun r hr => ?_
  refine W_tok 3 2 (by simp [go_sem]) fun r2 hr2 => ?_
  have hne : r2 ≠ r := fun e => by subst e; simp [VS.look] at hr2
  have hn2 : VS.look s.toks r2 = none := by
    cases hq : VS.look s.toks r2 with
    | none => rfl
    | some q => have := lookCons (a := (2, 0)) hr hq; rw [hr2] at this; cases this
  have hC : CutS s { s with toks := (r2, (2, 0)) :: (r, (2, 0)) :: s.toks } r r2 0 :=
    ⟨⟨⟨fun _ _ h => h, fun _ _ h => h, fun k x hk => lookCons hr2 (lookCons hr hk), fun _ _ h => h⟩, by simp [VS.look, hne], hr⟩, by simp [VS.look], hne, hn2⟩
  generalize ({ s with toks := (r2, (2, 0)) :: (r, (2, 0)) :: s.toks } : St) = s1 at hC ⊢
  refine W_seq (W_reg ?_)
  simp [go_sem]
  refine W_seq_k fun K hK => W_seq (W_reg ?_)
  simp [go_sem, frsE_length]
  have hsl := hs.len
  refine W_range l.length (CutI l s r r2) (ds := []) (l0 := [(0, LF l), (8, LF l), (2, .li (some r) []), (3, .li (some r2) []), (4, I 490)])
    (by omega) (by decide) ⟨[], 490, rfl, hC, by simp, by omega, by simp, by simp⟩ (by simp [go_sem]) rfl (by rintro k _ _ ⟨_, _, rfl, _⟩; simp [notIn]) ?_ ?_
  · rintro k _ s2 hk ⟨part, room, rfl, hC2, hpk, hroom, hc1, hc2⟩
    have hdrop : l.drop k = l[k] :: l.drop (k + 1) := List.drop_eq_getElem_cons hk
    have hpl := hs.p _ (List.getElem_mem hk)
    rw [hdrop] at hc1 hc2
    refine W_seq (W_reg ?_)
    simp [go_sem, frsE_get, hk, frC]
    have hgk : l[k] = l[k] := rfl
    refine WL_alloc tzero_64 (by simp) fun bx hbx => WL_run _ _ _ ?_
    simp [go_sem]
    have hC3 := hC2.obj hbx [I l[k].v, LI l[k].p]
    have hlb : VS.look ({ s2 with objs := (bx, [I l[k].v, LI l[k].p]) :: s2.objs } : St).objs bx = some [I l[k].v, LI l[k].p] := by simp [VS.look]
    generalize ({ s2 with objs := (bx, [I l[k].v, LI l[k].p]) :: s2.objs } : St) = s3 at hC3 hlb ⊢
    generalize hx : l[k] = x at hdrop hpl hlb hc1 hc2 ⊢
    have hw8 : IntKind.i64.wrap ((room : Int) - 8) = (room : Int) - 8 := wrap_in (by omega) (by omega)
    obtain ⟨q, hq, hq2⟩ : ∃ q : Int, IntKind.i64.wrap (((room : Int) - 8).tdiv 4) = q ∧ (12 ≤ room → q = (((room - 8) / 4 : Nat) : Int)) := by
      refine ⟨_, rfl, fun h => ?_⟩
      have e1 : (room : Int) - 8 = ((room - 8 : Nat) : Int) := by omega
      have e2 : ((room - 8 : Nat) : Int).tdiv 4 = (((room - 8) / 4 : Nat) : Int) := rfl
      rw [e1, e2, wrap_in (by omega) (by omega)]
    refine W_seq (W_reg ?_)
    simp [go_sem, hlb, intsE_length, hw8, hq]
    have hm0 : ∃ m : Int, (if (x.p.length : Int) < q then (x.p.length : Int) else q) = m ∧ (12 ≤ room → m = (min ((room - 8) / 4) x.p.length : Nat)) := by
      refine ⟨_, rfl, fun h => ?_⟩
      rw [hq2 h]
      split <;> omega
    obtain ⟨m, hm, hm2⟩ := hm0
    rw [hm]
    refine W_seq (W_seq_k fun K2 hK2 => W_reg ?_)
    have key : ∀ (E' : Env) (t : Bool), Has E' [(27, Bo t), (0, LF l), (8, LF l), (2, .li (some r) (frsE part)), (3, .li (some r2) []), (4, I room), (5, I k), (6, .v (.pointer (some ⟨bx, 0, none⟩))), (7, I m), (10, I k), (9, I l.length)] → E'.ds = [] →
        (t = true → room < 12 ∨ min ((room - 8) / 4) x.p.length < 1) → (t = false → ¬ (room < 12 ∨ min ((room - 8) / 4) x.p.length < 1)) → K2 E' s3 := fun E' t h1 h2 ht hf => hK2 _ _ (W_keep _ h1 (by
      rw [h2]
      have hkl : (k : Int) ≤ (l.length : Int) := by omega
      refine W_ifs t (by simp [go_sem]) (fun h => W_seq (W_reg ?_)) (fun h => W_skip ?_)
      · have hcut : cutP room (x :: l.drop (k + 1)) = ([], x :: l.drop (k + 1)) := by rw [cutP, if_pos (ht h)]
        rw [hcut] at hc1 hc2
        rw [← hdrop] at hc2
        simp [go_sem, frsE_length, hkl, frsE_all, frsE_slice]
        refine WL_append (r := r2) (z := 2) (es := []) (es2 := frsE (l.drop k)) tel_26 (by simp [go_sem]) (by simp [go_sem]) (by simpa using hC3.t2) (by simp [go_sem]) (by simp [go_sem]) (by simp [go_sem, elsC]) (fun q hq => frsE_len _ q hq) (by simp [go_sem, frsE_length]; omega) (by simp [go_sem]) (by simp) (WL_run _ _ _ ?_)
        simp [go_sem]
        refine W_ret ?_
        simp only [go_sem]
        refine ⟨trivial, .tup [.li (some r) (frsE part), .li (some r2) (frsE (l.drop k))], by simp [go_sem], s, hC3.sub2 _, ?_, rfl⟩
        rw [hc1, hc2]
        simp [go_sem]
      · have hno := hf h
        have h12 : 12 ≤ room := by omega
        have hmm := hm2 h12
        generalize hnk : min ((room - 8) / 4) x.p.length = nk at *
        have hnk1 : 1 ≤ nk := by omega
        have hnkl : nk ≤ x.p.length := by omega
        have hnkr : 8 + 4 * nk ≤ room := by omega
        subst hmm
        have hle1 : (nk : Int) ≤ (x.p.length : Int) := by omega
        simp only [go_sem]
        refine W_seq ?_
        refine W_draws (Ef := ?_) 11 [7, 8, 9, 10] (fun s' => VS.look s'.objs bx = some [I x.v, LI x.p]) Tryz.mixed (by kernel_rfl) hlb (fun s' hs' => ?_) ?_
        rotate_left
        · simp [go_sem, hs', intsE_length, hle1, intsE_all, intsE_takeE]
          rfl
        · refine LL_cons fun Q' hQ => ?_
          refine WL_callP (k := 96) (first := #[]) (captured := #[]) (xs := [LI (x.p.take nk)]) (by simp [go_sem]) (by simp [go_sem]) (by simp [go_sem]) (clonI_c _ (by simp; omega)) (hQ _ _ hlb ?_)
          refine LL_cons fun Q' hQ => WL_rd (c := .agg (frC ⟨x.v, x.p.take nk⟩)) (by simp [go_sem, frC]) (by simp [go_sem]) (hQ _ _ hlb ?_)
          refine LL_cons fun Q' hQ => ?_
          refine WL_buildSlice tel_26 (by simp [go_sem]) (by rfl) (by rfl) (by simp [partsC, go_sem, frC]) (by simp [partsC, go_sem, frC]) (by simp [go_sem]) (by simp) (by simp) fun r3 hr3 => hQ _ _ hlb ?_
          refine LL_cons fun Q' hQ => ?_
          refine WL_append (r := r) (z := 2) (es := frsE part) (es2 := [frC ⟨x.v, x.p.take nk⟩]) tel_26 (by simp [go_sem]) (by simp [go_sem]) (by rw [frsE_length]; exact (hC3.lit hr3 _).tk.tok) (by simp [go_sem]) (by simp [go_sem]) (by simp [go_sem, elsC, partsC, frC]) (by simp [frC]) (by simp [go_sem, frsE_length]; omega) (by simp [go_sem]) (by simp) (hQ _ _ hlb ?_)
          have hC4 := (hC3.lit hr3 (tsz Tryz.prog 64, 1)).put (part ++ [(⟨x.v, x.p.take nk⟩ : Fr)]).length
          have he : frsE part ++ [frC ⟨x.v, x.p.take nk⟩] = frsE (part ++ [⟨x.v, x.p.take nk⟩]) := by simp [frsE]
          rw [he]
          rw [frsE_length]
          refine LL_nil ?_
          refine (fun (h : ∀ s4 : St, CutS s s4 r r2 (part ++ [(⟨x.v, x.p.take nk⟩ : Fr)]).length → VS.look s4.objs bx = some [I x.v, LI x.p] → WL Tryz.prog ⟨72, none⟩ _ _ s4 _) => h _ (by exact hC4) (by exact hlb)) ?_
          clear hC4
          intro s4 hC4 hlb4
          refine WL_run _ _ _ ?_
          have hw4 : IntKind.i64.wrap (4 * (nk : Int)) = 4 * (nk : Int) := wrap_in (by omega) (by omega)
          have hw84 : IntKind.i64.wrap (8 + 4 * (nk : Int)) = 8 + 4 * (nk : Int) := wrap_in (by omega) (by omega)
          have hwr : IntKind.i64.wrap ((room : Int) - (8 + 4 * (nk : Int))) = ((room - (8 + 4 * nk) : Nat) : Int) := by rw [wrap_in (by omega) (by omega)]; omega
          simp [go_sem]
          refine W_keep [(0, LF l), (8, LF l), (2, .li (some r) (frsE (part ++ [⟨x.v, x.p.take nk⟩]))), (3, .li (some r2) []), (4, I room), (5, I k), (6, .v (.pointer (some ⟨bx, 0, none⟩))), (7, I nk), (10, I k), (9, I l.length)] (by simp [go_sem]) ?_
          refine W_seq (W_reg ?_)
          simp [go_sem, hw4, hw84, hwr]
          refine W_seq (W_reg ?_)
          simp [go_sem, hlb4, intsE_length]
          by_cases hlt : nk < x.p.length
          · have hcut : cutP room (x :: l.drop (k + 1)) = ([⟨x.v, x.p.take nk⟩], ⟨x.v, x.p.drop nk⟩ :: l.drop (k + 1)) := by
              rw [cutP, hnk, if_neg (by omega), if_pos hlt]
            rw [hcut] at hc1 hc2
            refine W_ifs true (by simp [go_sem, hlt]) (fun _ => W_seq ?_) (fun h => by cases h)
            refine W_draws (Ef := ?_) 8 [7] (fun s' => VS.look s'.objs bx = some [I x.v, LI x.p]) Tryz.mixed (by kernel_rfl) hlb4 (fun s' hs' => ?_) ?_
            rotate_left
            · simp [go_sem, hs', intsE_length, hle1, intsE_all, intsE_slice]
              rfl
            · refine LL_cons fun Q' hQ => ?_
              refine WL_buildSlice tel_26 (by simp [go_sem]) (by rfl) (by rfl) (by simp [partsC, go_sem]) (by simp [partsC, go_sem]) (by simp [go_sem]) (by simp) (by simp) fun r4 hr4 => hQ _ _ hlb4 ?_
              refine LL_nil (WL_run _ _ _ ?_)
              have hkl1 : (k : Int) + 1 ≤ (l.length : Int) := by omega
              have h0k : (0 : Int) ≤ (k : Int) + 1 := by omega
              have htk1 : ((k : Int) + 1).toNat = k + 1 := by omega
              have hwk : IntKind.i64.wrap ((k : Int) + 1) = (k : Int) + 1 := wrap_in (by omega) (by omega)
              have hC5 := hC4.lit hr4 (tsz Tryz.prog 64, 1)
              have h4 : VS.look ({ s4 with toks := (r4, (tsz Tryz.prog 64, 1)) :: s4.toks } : St).toks r4 = some (2, 1) := by simp [VS.look, go_sem]
              simp [go_sem, partsC]
              refine W_seq (W_reg ?_)
              simp [go_sem, frsE_length, hwk, hkl1, h0k, htk1, frsE_all, frsE_slice]
              refine WL_append (r := r4) (z := 2) (es := [frC ⟨x.v, x.p.drop nk⟩]) (es2 := frsE (l.drop (k + 1))) tel_26 (by simp [go_sem]) (by simp [go_sem, frC]) (by simp [VS.look]) (by simp [go_sem]) (by simp [go_sem]) (by simp [go_sem, elsC]) (fun q hq => frsE_len _ q hq) (by simp [go_sem, frsE_length]; omega) (by simp [go_sem]) (by simp) (WL_run _ _ _ ?_)
              simp [go_sem]
              refine W_ret ?_
              simp only [go_sem]
              have hnr4 : VS.look s.toks r4 = none := by
                cases hq : VS.look s.toks r4 with
                | none => rfl
                | some q => have := hC4.tk.sub.toks _ _ hq; rw [hr4] at this; cases this
              refine ⟨trivial, .tup [.li (some r) (frsE (part ++ [⟨x.v, x.p.take nk⟩])), .li (some r4) (frsE (⟨x.v, x.p.drop nk⟩ :: l.drop (k + 1)))], by simp [go_sem, frsE], s, ⟨hC4.tk.sub.objs, hC4.tk.sub.rows, fun q y hq => ?_, hC4.tk.sub.maps⟩, ?_, rfl⟩
              · have hne4 : r4 ≠ q := fun e => by subst e; rw [hnr4] at hq; cases hq
                simp only [putAt, if_true, VS.look, if_neg hne4]
                exact hC4.tk.sub.toks _ _ hq
              · rw [hc1, hc2]
                simp [go_sem]
          · have hnl : nk = x.p.length := by omega
            have hcut : cutP room (x :: l.drop (k + 1)) = (x :: (cutP (room - (8 + 4 * nk)) (l.drop (k + 1))).1, (cutP (room - (8 + 4 * nk)) (l.drop (k + 1))).2) := by
              rw [cutP, hnk, if_neg (by omega), if_neg hlt, hnl]
            rw [hcut] at hc1 hc2
            have htk : x.p.take nk = x.p := List.take_of_length_le (by omega)
            rw [htk] at hC4 ⊢
            refine W_ifs false (by simp [go_sem, hlt]) (fun h => by cases h) (fun _ => W_skip ?_)
            simp [go_sem]
            exact ⟨_, ⟨part ++ [x], room - (8 + 4 * nk), rfl, hC4, by simp; omega, by omega, by rw [hc1]; simp, hc2⟩, by simp [go_sem]⟩))
    by_cases h12 : room < 12
    · have h12' : (room : Int) < 12 := by omega
      simp [go_sem, h12']
      exact key _ true (by simp [go_sem]) (by simp [go_sem]) (fun _ => .inl h12) (fun h => by cases h)
    · have h12' : ¬ (room : Int) < 12 := by omega
      have hmm := hm2 (by omega)
      simp [go_sem, h12']
      refine key _ (decide (m < 1)) (by simp [go_sem]) (by simp [go_sem]) (fun h => .inr (by simp at h; omega)) (fun h => by simp at h; omega)
  · rintro _ s2 x ⟨part, room, rfl, hC2, hpk, hroom, hc1, hc2⟩
    rw [List.drop_length] at hc1 hc2
    simp only [go_sem]
    refine hK _ _ ?_
    refine W_seq (W_reg ?_)
    simp [go_sem]
    refine W_ret ?_
    simp only [go_sem]
    refine ⟨trivial, _, rfl, s, hC2.tk.sub, ?_, rfl⟩
    rw [hc1, hc2]
    simp [go_sem, cutP, frsE]
end Go.Proofs.YtpmknffollpnaaaGreat
namespace Go.Proofs.YtpmknffollpnaaaGreat
open Go Go.VS
def partsF : Nat → List Fr → List (List Fr)
  | 0, _ => []
  | f + 1, l => if l.length = 0 then [] else (cutP 490 l).1 :: partsF f (cutP 490 l).2
def partsP (l : List Fr) : List (List Fr) := partsF (nums l).length l
theorem cut_ok (n : Nat) (l : List Fr) : ∀ (room : Nat), Sz n l → (∀ f ∈ l, f.p ≠ []) → nums (cutP room l).1 ++ nums (cutP room l).2 = nums l ∧ Sz n (cutP room l).2 ∧ (∀ f ∈ (cutP room l).2, f.p ≠ []) ∧ (12 ≤ room → l ≠ [] → 0 < (nums (cutP room l).1).length) := by
  induction l with
  | nil => intro room hs hne; exact ⟨by simp [cutP, nums_nil], by simpa [cutP] using hs, by simp [cutP], fun _ h => absurd rfl h⟩
  | cons f l ih =>
    intro room hs hne
    have hf := hne f (by simp)
    have hfl : 0 < f.p.length := List.length_pos_iff.2 hf
    have hs' : Sz n l := ⟨by have := hs.len; simp at this; omega, fun g hg => hs.p g (by simp [hg])⟩
    have hne' : ∀ g ∈ l, g.p ≠ [] := fun g hg => hne g (by simp [hg])
    unfold cutP
    split
    · rename_i h
      refine ⟨by simp [nums_nil], hs, hne, fun h12 _ => ?_⟩
      omega
    · rename_i h
      generalize hk : min ((room - 8) / 4) f.p.length = k at h ⊢
      split
      · rename_i h2
        refine ⟨by simp [nums_cons, nums_nil]; rw [← List.append_assoc, List.take_append_drop], ⟨by have := hs.len; simpa using this, fun g hg => ?_⟩, fun g hg => ?_, fun _ _ => ?_⟩
        · rcases List.mem_cons.1 hg with rfl | hg
          · have := hs.p f (by simp); simp; omega
          · exact hs.p g (by simp [hg])
        · rcases List.mem_cons.1 hg with rfl | hg
          · intro e
            have := congrArg List.length e
            simp at this
            omega
          · exact hne' g hg
        · simp [nums_cons, nums_nil]; omega
      · obtain ⟨q1, q2, q3, _⟩ := ih (room - (8 + 4 * f.p.length)) hs' hne'
        refine ⟨by simp only [nums_cons, List.append_assoc]; rw [q1], q2, q3, fun _ _ => by simp only [nums_cons, List.length_append]; omega⟩
theorem partsF_mono (n : Nat) : ∀ (m : Nat) (l : List Fr), Sz n l → (∀ f ∈ l, f.p ≠ []) → (nums l).length ≤ m → partsF m l = partsF (nums l).length l := by
  intro m
  induction m using Nat.strongRecOn with
  | _ m ih =>
    intro l hs hne hm
    cases l with
    | nil =>
      cases m with
      | zero => rfl
      | succ m => rfl
    | cons f l =>
      obtain ⟨q1, q2, q3, q4⟩ := cut_ok n (f :: l) 490 hs hne
      have h4 := q4 (by omega) (by simp)
      have hl := congrArg List.length q1
      rw [List.length_append] at hl
      obtain ⟨m', rfl⟩ : ∃ m', m = m' + 1 := ⟨m - 1, by omega⟩
      obtain ⟨k, hk⟩ : ∃ k, (nums (f :: l)).length = k + 1 := ⟨(nums (f :: l)).length - 1, by omega⟩
      rw [hk]
      simp only [partsF, List.length_cons, Nat.add_eq_zero_iff, Nat.one_ne_zero, and_false, if_false, List.cons.injEq, true_and]
      rw [ih m' (by omega) _ q2 q3 (by omega)]
      by_cases hkm : k < m' + 1
      · rw [ih k hkm _ q2 q3 (by omega)]
      · omega
def lpE (l : List (List Fr)) : List (List C) := l.map fun p => [LF p]
theorem lpE_length (l : List (List Fr)) : (lpE l).length = l.length := by simp [lpE]
theorem lpE_get (l : List (List Fr)) (i : Nat) : (lpE l)[i]? = (l[i]?).map fun p => [LF p] := by simp [lpE]
set_option maxRecDepth 4000 in
theorem divided_c (n : Nat) (l : List Fr) (hs : Sz n l) (hn : n ≤ 100000000) (hne : ∀ f ∈ l, f.p ≠ []) (ht : (nums l).length ≤ 100000000) : Pure Tryz.prog 120 [LF l, fnC 121, fnC 122] (.li none (lpE (partsP l))) := by
  intro s
  refine CallC_of Tryz.func120 rfl (by rfl) Tryz.ntmps120 (by simp) ?_
  refine W_seq (W_reg ?_)
  simp [go_sem]
  refine W_seq (W_reg ?_)
  simp [go_sem]
  refine W_tok 7 1 (by simp [go_sem]) fun r hr => ?_
  have hT := TokI.init (z := 1) hr
  generalize ({ s with toks := (r, (1, 0)) :: s.toks } : St) = s1 at hT ⊢
  refine W_seq_k fun K hK => ?_
  refine W_while (nums l).length (fun m L s' => ∃ out rest, L = [(0, LF rest), (1, fnC 121), (2, fnC 122), (7, .li (some r) (lpE out))] ∧ TokI s s' r 1 out.length ∧ m = (nums rest).length ∧ out ++ partsP rest = partsP l ∧ Sz n rest ∧ (∀ f ∈ rest, f.p ≠ []) ∧ out.length + (nums rest).length ≤ (nums l).length)
    (l0 := [(0, LF l), (1, fnC 121), (2, fnC 122), (7, .li (some r) [])]) (ds := []) ⟨[], l, rfl, hT, rfl, rfl, hs, hne, by simp⟩ (by simp [go_sem]) rfl ?_
  rintro m _ s2 ⟨out, rest, rfl, hT2, rfl, heq, hsr, hner, hlen⟩ K2 hK2
  refine W_reg ?_
  simp [go_sem]
  refine Pure.use (more_c _) ?_
  simp [go_sem]
  refine hK2 _ _ (decide (0 < rest.length)) [(0, LF rest), (1, fnC 121), (2, fnC 122), (7, .li (some r) (lpE out))] (by simp [go_sem]) (by simp [go_sem]) (by simp [go_sem]) (fun htrue K3 hK3 => ?_) (fun hfalse => ?_)
  · simp only [decide_eq_true_eq] at htrue
    have hrn : rest ≠ [] := fun e => by subst e; simp at htrue
    obtain ⟨q1, q2, q3, q4⟩ := cut_ok n rest 490 hsr hner
    have h4 := q4 (by omega) hrn
    have hl := congrArg List.length q1
    rw [List.length_append] at hl
    have hpp : partsP rest = (cutP 490 rest).1 :: partsP (cutP 490 rest).2 := by
      obtain ⟨k, hk⟩ : ∃ k, (nums rest).length = k + 1 := ⟨(nums rest).length - 1, by omega⟩
      unfold partsP
      rw [hk]
      simp only [partsF]
      rw [if_neg (by omega), partsF_mono n k _ q2 q3 (by omega)]
    refine W_seq (W_reg ?_)
    simp [go_sem]
    refine Pure.use (cut_c n _ hsr hn) ?_
    generalize (cutP 490 rest).1 = p1 at *
    generalize (cutP 490 rest).2 = p2 at *
    simp [go_sem]
    refine W_seq (W_reg ?_)
    simp [go_sem]
    refine WL_buildSlice tel_90 (by simp [go_sem]) (by rfl) (by rfl) (by simp [partsC, go_sem]) (by simp [partsC, go_sem]) (by simp [go_sem]) (by simp) (by simp) fun r2 hr2 => ?_
    refine WL_append (r := r) (z := 1) (es := lpE out) (es2 := [[LF p1]]) tel_90 (by simp [go_sem]) (by simp [go_sem]) (by rw [lpE_length]; exact (hT2.lit hr2 _).tok) (by simp [go_sem]) (by simp [go_sem]) (by simp [go_sem, elsC, partsC]) (by simp) (by rw [lpE_length]; simp [go_sem]; omega) (by simp [go_sem]) (by simp) (WL_run _ _ _ ?_)
    have hT3 := (hT2.lit hr2 (tsz Tryz.prog 26, 1)).put (out ++ [p1]).length
    have he : lpE out ++ [[LF p1]] = lpE (out ++ [p1]) := by simp [lpE]
    rw [he]
    rw [lpE_length]
    generalize (St.mk _ _ _ _) = s3 at hT3 ⊢
    simp [go_sem]
    refine W_reg ?_
    simp [go_sem]
    exact hK3 _ _ (nums p2).length [(0, LF p2), (1, fnC 121), (2, fnC 122), (7, .li (some r) (lpE (out ++ [p1])))] (by omega) ⟨out ++ [p1], p2, rfl, hT3, rfl, by rw [← heq, hpp]; simp, q2, q3, by simp; omega⟩ (by simp [go_sem]) (by simp [go_sem])
  · have hr0 : rest = [] := by
      cases rest with
      | nil => rfl
      | cons _ _ => simp at hfalse
    subst hr0
    simp only [go_sem]
    refine hK _ _ ?_
    refine W_seq (W_reg ?_)
    simp [go_sem]
    refine W_ret ?_
    simp only [go_sem]
    refine ⟨trivial, .li (some r) (lpE out), by simp [go_sem], s, hT2.sub, ?_, rfl⟩
    have : partsP ([] : List Fr) = [] := rfl
    rw [this, List.append_nil] at heq
    simp [go_sem, heq]
theorem listParts_c (n : Nat) (l : List Fr) (hs : Sz n l) (hn : n ≤ 100000000) (hne : ∀ f ∈ l, f.p ≠ []) (ht : (nums l).length ≤ 100000000) : Pure Tryz.prog 76 [LF l] (.li none (lpE (partsP l))) := by
  intro s
  refine CallC_of Tryz.func76 rfl (by rfl) Tryz.ntmps76 (by simp) ?_
  refine W_seq (W_reg ?_)
  simp [go_sem]
  refine W_seq (W_reg ?_)
  simp [go_sem]
  refine Pure.use (divided_c n l hs hn hne ht) ?_
  simp [go_sem]
  refine W_ret ?_
  simp only [go_sem]
  exact ⟨trivial, _, rfl, s, Sub.refl _, by simp [go_sem], rfl⟩
theorem freedB_ne {l : List Fr} (h : freedB l = true) : ∀ f ∈ l, f.p ≠ [] := fun f hf => by
  have hall : ∀ j, j < l.length → badF l 4096 j = false := fun j hj => by
    cases hq : badF l 4096 j with
    | false => rfl
    | true => rw [freedB_bad hj hq] at h; cases h
  exact (((bad_iff l 4096).1 hall).2 f hf).2.2.1
theorem listNeeds_c (n : Nat) (l : List Fr) (hs : Sz n l) (hn : n ≤ 100000000) (ht : (nums l).length ≤ 100000000) : Pure Tryz.prog 33 [LF l] (.tup [I (if freedB l then ((partsP l).length : Nat) else 0), I (if freedB l then 0 else 2)]) := by
  intro s
  refine CallC_of Tryz.func33 rfl (by rfl) Tryz.ntmps33 (by simp) ?_
  refine W_seq (W_reg ?_)
  simp [go_sem]
  refine W_seq (W_seq (W_reg ?_))
  simp [go_sem]
  refine Pure.use (freed_c n l hs (by omega)) ?_
  have hfn := @freedB_ne l
  generalize freedB l = fb at hfn ⊢
  simp [go_sem]
  cases fb
  · refine W_ifs true (by simp [go_sem]) (fun _ => W_seq (W_reg ?_)) (fun h => by cases h)
    simp [go_sem]
    refine W_ret ?_
    simp only [go_sem]
    exact ⟨trivial, _, rfl, s, Sub.refl _, by simp [go_sem], rfl⟩
  · refine W_ifs false (by simp [go_sem]) (fun h => by cases h) (fun _ => W_skip ?_)
    simp only [go_sem]
    refine W_seq (W_reg ?_)
    simp [go_sem]
    refine Pure.use (listParts_c n l hs hn (hfn rfl) ht) ?_
    simp [go_sem, lpE_length]
    refine W_ret ?_
    simp only [go_sem]
    exact ⟨trivial, _, rfl, s, Sub.refl _, by simp [go_sem], rfl⟩
end Go.Proofs.YtpmknffollpnaaaGreat
namespace Go.Proofs.YtpmknffollpnaaaGreat
open Go Go.VS
/-- What a function that asks of numbers answers, and nothing else. -/
def AskC (k : Nat) (caps : Array Value) (pred : Int → Bool) (s : St) : Prop := ∀ n : Int, CallC Tryz.prog k (I n :: caps.toList.map .v) s (fun c s' => c = Bo (pred n) ∧ s' = s) (fun _ _ => False)
def IdxK (l : List Int) (pred : Int → Bool) (c : C) : Prop := (c = I (-1) ∧ ∀ x ∈ l, pred x = false) ∨ ∃ i : Nat, ∃ h : i < l.length, c = I i ∧ pred l[i] = true ∧ ∀ j (hj : j < i), pred (l[j]'(by omega)) = false
set_option maxRecDepth 4000 in
theorem indexL_c (l : List Int) (k : Nat) (caps : Array Value) (pred : Int → Bool) (s : St) (hl : l.length ≤ 1000000000) (hp : AskC k caps pred s) :
    CallC Tryz.prog 140 [LI l, .v (.func (.func k) #[] caps)] s (fun c s' => s' = s ∧ IdxK l pred c) (fun _ _ => False) := by
  refine CallC_of Tryz.func140 rfl (by rfl) Tryz.ntmps140 (by simp) ?_
  refine W_seq (W_reg ?_)
  simp [go_sem]
  refine W_seq_k fun K hK => W_seq (W_reg ?_)
  simp [go_sem, intsE_length]
  refine W_range l.length (fun i L s' => L = [(0, LI l), (1, .v (.func (.func k) #[] caps))] ∧ s' = s ∧ ∀ j (hj : j < i) (hj2 : j < l.length), pred l[j] = false) (ds := []) (l0 := [(0, LI l), (1, .v (.func (.func k) #[] caps))])
    (by omega) (by decide) ⟨rfl, rfl, fun j hj => by omega⟩ (by simp [go_sem]) rfl (by rintro k _ _ ⟨rfl, _⟩; simp [notIn]) ?_ ?_
  · rintro i _ s1 hi ⟨rfl, rfl, hall⟩
    refine W_seq (W_reg ?_)
    simp [go_sem]
    refine W_seq (W_reg ?_)
    simp [go_sem, intsE_get, hi]
    refine (hp l[i]).use (fun c s2 hc => ?_) (fun _ _ h => h.elim)
    obtain ⟨rfl, rfl⟩ := hc
    simp [go_sem]
    refine W_ifs (pred l[i]) (by simp [go_sem]) (fun h => W_seq (W_reg ?_)) (fun h => W_skip ?_)
    · simp [go_sem]
      refine W_ret ?_
      simp only [go_sem]
      exact ⟨trivial, .v (.int .i64 i), by simp [go_sem], s2, Sub.refl _, rfl, .inr ⟨i, hi, by simp [go_sem], h, fun j hj => hall j hj (by omega)⟩⟩
    · simp [go_sem]
      refine ⟨_, ⟨rfl, fun j hj hj2 => ?_⟩, by simp [go_sem]⟩
      rcases Nat.lt_succ_iff_lt_or_eq.1 hj with hj | hj
      · exact hall j hj hj2
      · subst hj; exact h
  · rintro _ s1 x ⟨rfl, rfl, hall⟩
    simp only [go_sem]
    refine hK _ _ ?_
    refine W_seq (W_reg ?_)
    simp [go_sem]
    refine W_ret ?_
    simp only [go_sem]
    refine ⟨trivial, .v (.int .i64 (-1)), by simp [go_sem], s1, Sub.refl _, rfl, .inl ⟨by simp [go_sem], fun x hx => ?_⟩⟩
    obtain ⟨j, hj, rfl⟩ := List.getElem_of_mem hx
    exact hall j hj hj
set_option maxRecDepth 4000 in
theorem indexR_c (b : Nat) (l : List Int) (k : Nat) (caps : Array Value) (pred : Int → Bool) (s : St) (hl : l.length ≤ 1000000000) (hrow : VS.look s.rows b = some (1, intsE l)) (hp : AskC k caps pred s) :
    CallC Tryz.prog 140 [.rs b l.length, .v (.func (.func k) #[] caps)] s (fun c s' => s' = s ∧ IdxK l pred c) (fun _ _ => False) := by
  refine CallC_of Tryz.func140 rfl (by rfl) Tryz.ntmps140 (by simp) ?_
  refine W_seq (W_reg ?_)
  simp [go_sem]
  refine W_seq_k fun K hK => W_seq (W_reg ?_)
  simp [go_sem, intsE_length]
  refine W_range l.length (fun i L s' => L = [(0, .rs b l.length), (1, .v (.func (.func k) #[] caps))] ∧ s' = s ∧ ∀ j (hj : j < i) (hj2 : j < l.length), pred l[j] = false) (ds := []) (l0 := [(0, .rs b l.length), (1, .v (.func (.func k) #[] caps))])
    (by omega) (by decide) ⟨rfl, rfl, fun j hj => by omega⟩ (by simp [go_sem]) rfl (by rintro k _ _ ⟨rfl, _⟩; simp [notIn]) ?_ ?_
  · rintro i _ s1 hi ⟨rfl, rfl, hall⟩
    refine W_seq (W_reg ?_)
    simp [go_sem]
    refine W_seq (W_reg ?_)
    simp [go_sem, hrow, intsE_get, hi]
    refine (hp l[i]).use (fun c s2 hc => ?_) (fun _ _ h => h.elim)
    obtain ⟨rfl, rfl⟩ := hc
    simp [go_sem]
    refine W_ifs (pred l[i]) (by simp [go_sem]) (fun h => W_seq (W_reg ?_)) (fun h => W_skip ?_)
    · simp [go_sem]
      refine W_ret ?_
      simp only [go_sem]
      exact ⟨trivial, .v (.int .i64 i), by simp [go_sem], s2, Sub.refl _, rfl, .inr ⟨i, hi, by simp [go_sem], h, fun j hj => hall j hj (by omega)⟩⟩
    · simp [go_sem]
      refine ⟨_, ⟨rfl, fun j hj hj2 => ?_⟩, by simp [go_sem]⟩
      rcases Nat.lt_succ_iff_lt_or_eq.1 hj with hj | hj
      · exact hall j hj hj2
      · subst hj; exact h
  · rintro _ s1 x ⟨rfl, rfl, hall⟩
    simp only [go_sem]
    refine hK _ _ ?_
    refine W_seq (W_reg ?_)
    simp [go_sem]
    refine W_ret ?_
    simp only [go_sem]
    refine ⟨trivial, .v (.int .i64 (-1)), by simp [go_sem], s1, Sub.refl _, rfl, .inl ⟨by simp [go_sem], fun x hx => ?_⟩⟩
    obtain ⟨j, hj, rfl⟩ := List.getElem_of_mem hx
    exact hall j hj hj
def containsB (l : List Int) (pred : Int → Bool) : Bool := l.any pred
theorem contains_c (l : List Int) (k : Nat) (caps : Array Value) (pred : Int → Bool) (s : St) (hl : l.length ≤ 1000000000) (hp : AskC k caps pred s) :
    CallC Tryz.prog 142 [LI l, .v (.func (.func k) #[] caps)] s (fun c s' => c = Bo (l.any pred) ∧ s' = s) (fun _ _ => False) := by
  refine CallC_of Tryz.func142 rfl (by rfl) Tryz.ntmps142 (by simp) ?_
  refine W_seq (W_reg ?_)
  simp [go_sem]
  refine W_seq (W_reg ?_)
  simp [go_sem]
  refine (indexL_c l k caps pred s hl hp).use (fun c s2 hc => ?_) (fun _ _ h => h.elim)
  obtain ⟨rfl, h | ⟨i, hi, rfl, h1, h2⟩⟩ := hc
  · obtain ⟨rfl, hall⟩ := h
    simp [go_sem]
    refine W_ret ?_
    simp only [go_sem]
    have : l.any pred = false := by rw [List.any_eq_false]; intro x hx; simp [hall x hx]
    exact ⟨trivial, _, rfl, s2, Sub.refl _, by simp [go_sem, this], rfl⟩
  · simp [go_sem]
    refine W_ret ?_
    simp only [go_sem]
    have : l.any pred = true := by rw [List.any_eq_true]; exact ⟨_, List.getElem_mem hi, h1⟩
    exact ⟨trivial, _, rfl, s2, Sub.refl _, by simp [go_sem, this], rfl⟩
theorem filter_take {l : List Int} {pred : Int → Bool} {i : Nat} (h : i < l.length) (h1 : ∀ j (hj : j < i), pred (l[j]'(by omega)) = false) (h2 : ∀ j (hj : j < l.length), i ≤ j → pred l[j] = true) : l.filter (fun x => !pred x) = l.take i := by
  conv => lhs; rw [← List.take_append_drop i l]
  rw [List.filter_append]
  have e1 : (l.take i).filter (fun x => !pred x) = l.take i := List.filter_eq_self.2 fun x hx => by
    obtain ⟨j, hj, rfl⟩ := List.getElem_of_mem hx
    simp only [List.length_take] at hj
    rw [List.getElem_take, h1 j (by omega)]
    rfl
  have e2 : (l.drop i).filter (fun x => !pred x) = [] := List.filter_eq_nil_iff.2 fun x hx => by
    obtain ⟨j, hj, rfl⟩ := List.getElem_of_mem hx
    simp only [List.length_drop] at hj
    rw [List.getElem_drop, h2 (i + j) (by omega) (by omega)]
    simp
  rw [e1, e2, List.append_nil]
set_option maxRecDepth 4000 in
theorem delete_c {R0 : VS.Rows} (b : Nat) (l : List Int) (k : Nat) (caps : Array Value) (pred : Int → Bool) (s : St) (hl : l.length ≤ 1000000000) (hR : RowIn R0 s.rows (.rs b l.length) 1 (intsE l)) (hp : AskC k caps pred s) (hp2 : ∀ i, AskC k caps pred { s with rows := putAt s.rows b (1, (intsE l).take i) } → True)
    (hmono : ∀ i j (hi : i < l.length) (hj : j < l.length), i < j → pred l[i] = true → pred l[j] = true) :
    CallC Tryz.prog 95 [.rs b l.length, .v (.func (.func k) #[] caps)] s (fun c s' => ∃ R', s' = { s with rows := R' } ∧ RowIn R0 R' c 1 (intsE (l.filter fun x => !pred x))) (fun _ _ => False) := by
  have hrow : VS.look s.rows b = some (1, intsE l) := by
    rcases hR.row with ⟨h, _⟩ | ⟨h, _⟩ | ⟨b', h, h'⟩
    · cases h
    · cases h
    · injection h with h1 h2; subst h1; exact h'
  have hbn := hR.new _ _ rfl
  refine CallC_of Tryz.func95 rfl (by rfl) Tryz.ntmps95 (by simp) ?_
  refine W_seq (W_reg ?_)
  simp [go_sem]
  refine W_seq (W_reg ?_)
  simp [go_sem]
  refine (indexR_c b l k caps pred s hl hrow hp).use (fun c s2 hc => ?_) (fun _ _ h => h.elim)
  obtain ⟨rfl, h | ⟨i, hi, rfl, h1, h2⟩⟩ := hc
  · obtain ⟨rfl, hall⟩ := h
    simp [go_sem]
    refine W_seq (W_seq (W_reg ?_))
    simp [go_sem]
    refine W_ifs true (by simp [go_sem]) (fun _ => W_seq (W_reg ?_)) (fun h => by cases h)
    simp [go_sem]
    refine W_ret ?_
    simp only [go_sem]
    have hf : l.filter (fun x => !pred x) = l := List.filter_eq_self.2 fun x hx => by rw [hall x hx]; rfl
    exact ⟨trivial, .rs b l.length, by simp [go_sem], s2, Sub.refl _, s2.rows, rfl, by rw [hf]; exact hR⟩
  · have hf : l.filter (fun x => !pred x) = l.take i := filter_take hi h2 (fun j hj hij => by
      rcases Nat.lt_or_ge i j with h | h
      · exact hmono i j hi hj h h1
      · have : i = j := by omega
        subst this; exact h1)
    have hw : ∀ q : Nat, q ≤ l.length → IntKind.i64.wrap ((q : Int) + 1) = (q : Int) + 1 := fun q hq => wrap_in (by omega) (by omega)
    have hne : ((i : Int) == -1) = false := by rw [beq_eq_false_iff_ne]; omega
    simp [go_sem]
    refine W_seq (W_seq (W_reg ?_))
    simp [go_sem, hne]
    refine W_ifs false (by simp [go_sem]) (fun h => by cases h) (fun _ => W_skip ?_)
    simp only [go_sem]
    refine W_seq_k fun K hK => W_seq (W_reg ?_)
    simp [go_sem, hw i (by omega)]
    refine W_for (l.length - (i + 1)) (fun q L s' => L = [(0, .rs b l.length), (1, .v (.func (.func k) #[] caps)), (5, I i), (6, I ((i + 1 + q : Nat) : Int))] ∧ s' = s2) (l0 := [(0, .rs b l.length), (1, .v (.func (.func k) #[] caps)), (5, I i), (6, I ((i + 1 + 0 : Nat) : Int))]) (ds := []) ⟨rfl, rfl⟩ (by simp [go_sem]) rfl ?_
    rintro q _ s3 hq ⟨rfl, rfl⟩ K3 hK3
    refine W_reg ?_
    simp [go_sem]
    refine hK3 _ _ (decide (i + 1 + q < l.length)) [(0, .rs b l.length), (1, .v (.func (.func k) #[] caps)), (5, I i), (6, I ((i + 1 + q : Nat) : Int))] (by simp [go_sem]) (by simp [go_sem]; omega) (by simp [go_sem]) (fun hlt => ?_) (fun hge => ?_)
    · simp only [decide_eq_true_eq] at hlt
      have hpt := hmono i (i + 1 + q) hi hlt (by omega) h1
      have hw2 : IntKind.i64.wrap (((i + 1 + q : Nat) : Int) + 1) = ((i + 1 + (q + 1) : Nat) : Int) := by rw [wrap_in (by omega) (by omega)]; omega
      refine ⟨by omega, W_seq (W_reg ?_)⟩
      have hlt3 : ((i + 1 + q : Nat) : Int) < (l.length : Int) := by omega
      generalize hqq : i + 1 + q = x at *
      simp [go_sem, hrow, intsE_get, hlt]
      refine W_seq (W_reg ?_)
      simp [go_sem]
      refine (hp l[x]).use (fun c s2 hc => ?_) (fun _ _ h => h.elim)
      obtain ⟨rfl, rfl⟩ := hc
      simp [go_sem, hpt]
      refine W_ifs false (by simp [go_sem]) (fun h => by cases h) (fun _ => W_skip ?_)
      simp only [go_sem]
      refine W_reg ?_
      simp [go_sem, hw2]
    · simp only [go_sem]
      refine hK _ _ ?_
      refine W_seq (W_region ?_)
      simp only [List.map, conv]
      refine WL_rd (c := .rs b l.length) (by simp [go_sem]) (by simp) ?_
      refine WL_rd (c := I i) (by simp [go_sem]) (by simp) ?_
      refine WL_sliceClear (b := b) (n := l.length) (i := i) (k := .i64) (es := intsE l) (by simp [go_sem]) (by simp [go_sem]) tel_23 (by simp [go_sem]) (by simp [go_sem]) tzv_3 hrow (intsE_length l) (by omega) (intsE_len l) (by simp) (WL_run _ _ _ ?_)
      have hil : (i : Int) ≤ (l.length : Int) := by omega
      simp [go_sem]
      refine W_seq (W_reg ?_)
      simp [go_sem, hil]
      refine W_ret ?_
      simp only [go_sem]
      refine ⟨trivial, .rs b i, by simp [go_sem], _, Sub.refl _, putAt s3.rows b (1, (intsE l).take i), rfl, ⟨.inr (.inr ⟨b, ?_, ?_⟩), fun y x hx => ?_, fun b' n hb' => ?_⟩⟩
      · rw [hf, intsE_length, List.length_take, Nat.min_eq_left (by omega)]; rfl
      · rw [look_putAt, if_pos rfl, hrow, hf, ← intsE_takeE]; rfl
      · have : y ≠ b := fun e => by subst e; rw [hbn] at hx; cases hx
        rw [look_putAt, if_neg this]
        exact hR.old y x hx
      · have hb2 : C.rs b i = C.rs b' n := hb'
        injection hb2 with e1 e2; subst e1; exact hbn
theorem keep1_c (b : Nat) (pages : Int) (s : St) (hb : VS.look s.objs b = some [I pages]) : AskC 97 #[.pointer (some ⟨b, 0, none⟩)] (fun n => decide (pages ≤ n)) s := by
  intro n
  refine CallC_of Tryz.func97 rfl (by rfl) Tryz.ntmps97 (by simp) ?_
  refine W_seq (W_reg ?_)
  simp [go_sem]
  refine W_seq (W_reg ?_)
  simp [go_sem, hb]
  refine W_ret ?_
  simp only [go_sem]
  exact ⟨trivial, _, rfl, s, Sub.refl _, by simp [go_sem], rfl⟩
theorem numbers1_c (s : St) : AskC 143 #[] (fun n => !numB n) s := by
  intro n
  refine CallC_of Tryz.func143 rfl (by rfl) Tryz.ntmps143 (by simp) ?_
  refine W_seq (W_reg ?_)
  simp [go_sem]
  refine W_seq (W_reg ?_)
  simp [go_sem]
  refine Pure.use (numbered_c _) ?_
  simp [go_sem]
  refine W_ret ?_
  simp only [go_sem]
  exact ⟨trivial, _, rfl, s, Sub.refl _, by simp [go_sem], rfl⟩
end Go.Proofs.YtpmknffollpnaaaGreat
namespace Go.Proofs.YtpmknffollpnaaaGreat
open Go Go.VS
abbrev ptr (b o : Nat) : C := .v (.pointer (some ⟨b, o, none⟩))
theorem sub_same {s : St} {b : Nat} {cs : List C} (h : VS.look s.objs b = some cs) : Sub s { s with objs := putAt s.objs b cs } :=
  ⟨fun k x hk => by
    have hk' : VS.look (putAt s.objs b cs) k = some x := hk
    rw [look_putAt] at hk'
    split at hk'
    · rename_i e; subst e; rw [h] at hk' ⊢; exact hk'
    · exact hk', fun _ _ h => h, fun _ _ h => h, fun _ _ h => h⟩
theorem putAt_putAt {α : Type} (l : List (Nat × α)) (b : Nat) (x y : α) : putAt (putAt l b x) b y = putAt l b y := by
  induction l with
  | nil => rfl
  | cons p l ih =>
    obtain ⟨q, z⟩ := p
    by_cases hq : q = b
    · subst hq; simp [putAt]
    · simp [putAt, hq, ih]
def putF (l : List Fr) (v : Int) (ps : List Int) : List Fr := if ps = [] then l else mergeF l [⟨v, ps⟩]
theorem put_m (b : Nat) (pg : C) (n m : Nat) (l : List Fr) (v : Int) (ps : List Int) (s : St) (hb : VS.look s.objs b = some [pg, LF l]) (hs : Sz n l) (hm : ps.length ≤ m) (hm1 : 1 ≤ m) (hn : n + m ≤ 1000000000) :
    CallC Tryz.prog 50 [ptr b 1, I v, LI ps] s (fun _ s' => s' = { s with objs := putAt s.objs b [pg, LF (putF l v ps)] }) (fun _ _ => False) := by
  refine CallC_of Tryz.func50 rfl (by rfl) Tryz.ntmps50 (by simp) ?_
  refine W_seq (W_reg ?_)
  simp [go_sem, intsE_length]
  by_cases hps : ps = []
  · refine W_ifs false (by simp [go_sem, hps]) (fun h => by cases h) (fun _ => W_skip ?_)
    simp only [go_sem]
    exact ⟨trivial, _, rfl, _, sub_same hb, by simp [putF, hps]⟩
  · have hl0 : 0 < ps.length := List.length_pos_iff.2 hps
    refine W_ifs true (by simp [go_sem, hps, hl0]) (fun _ => W_reg ?_) (fun h => by cases h)
    simp [go_sem, hb]
    refine WL_buildSlice tel_26 (by simp [go_sem]) (by rfl) (by rfl) (by simp [partsC, go_sem]) (by simp [partsC, go_sem]) (by simp [go_sem]) (by simp) (by simp) fun r hr => WL_run _ _ _ ?_
    simp [go_sem, partsC]
    have hz : Sz m [(⟨v, ps⟩ : Fr)] := ⟨by simpa using hm1, fun f hf => by simp at hf; subst hf; exact hm⟩
    have ht := together_c n m l [⟨v, ps⟩] hs hz hn
    refine Pure.use ht ?_
    simp [go_sem, hb]
    exact ⟨fun k x hk => by simpa [putF, hps] using hk, fun _ _ h => h, fun k x hk => lookCons hr hk, fun _ _ h => h⟩
def keepP (l : List Fr) (pages : Int) : List Fr := match l with
  | [] => []
  | f :: r => if f.v = 0 then (if f.p.filter (fun n => !decide (pages ≤ n)) = [] then r else ⟨0, f.p.filter fun n => !decide (pages ≤ n)⟩ :: r) else f :: r
def leastB (l : List Fr) : Bool := match l with
  | [] => false
  | f :: _ => decide (f.v = 0)
def leastN (l : List Fr) : Int := match l with
  | ⟨_, x :: _⟩ :: _ => x
  | _ => 0
def leastL (l : List Fr) : List Fr := match l with
  | ⟨v, x :: ps⟩ :: r => if ps = [] then r else ⟨v, ps⟩ :: r
  | l => l
set_option maxRecDepth 4000 in
theorem least_m (b : Nat) (pg : C) (n : Nat) (l : List Fr) (s : St) (hb : VS.look s.objs b = some [pg, LF l]) (hs : Sz n l) (hn : n ≤ 100000000) (hne : ∀ f ∈ l, f.p ≠ []) :
    CallC Tryz.prog 99 [ptr b 1] s (fun c s' => c = .tup [I (if leastB l then leastN l else 0), Bo (leastB l)] ∧ s' = { s with objs := putAt s.objs b [pg, LF (if leastB l then leastL l else l)] }) (fun _ _ => False) := by
  refine CallC_of Tryz.func99 rfl (by rfl) Tryz.ntmps99 (by simp) ?_
  refine W_seq (W_reg ?_)
  simp [go_sem]
  refine W_seq (W_seq_k fun K hK => W_reg ?_)
  cases l with
  | nil =>
    simp [go_sem, hb, frsE]
    refine hK _ _ ?_
    refine W_ifs true (by simp [go_sem]) (fun _ => W_seq (W_reg ?_)) (fun h => by cases h)
    simp [go_sem]
    refine W_ret ?_
    simp only [go_sem]
    exact ⟨trivial, _, rfl, _, sub_same hb, by simp [go_sem, leastB], by simp [leastB]⟩
  | cons f l =>
    have hz : ∀ q : Nat, (((q : Int) + 1) == 0) = false := fun q => by rw [beq_eq_false_iff_ne]; omega
    obtain ⟨v, p⟩ := f
    have hpne := hne ⟨v, p⟩ (by simp)
    cases p with
    | nil => exact absurd rfl hpne
    | cons x ps =>
      by_cases hv : v = 0
      · subst hv
        simp [go_sem, hb, frsE, hz, frC]
        refine hK _ _ ?_
        refine W_ifs false (by simp [go_sem]) (fun h => by cases h) (fun _ => W_skip ?_)
        simp only [go_sem]
        refine W_seq (W_reg ?_)
        simp [go_sem, hb, frsE, frC, intsE]
        refine W_seq (W_reg ?_)
        simp [go_sem, hb]
        refine (cloneF_c (⟨0, x :: ps⟩ :: l) (by have := hs.len; omega) s).use (fun c s2 hc => ?_) (fun _ _ h => h.elim)
        obtain ⟨R1, rfl, hR⟩ := hc
        rcases hR.row with ⟨_, h2⟩ | ⟨_, h2⟩ | ⟨bb, h1, h2⟩
        · simp [frsE] at h2
        · simp [frsE] at h2
        subst h1
        have hbn := hR.new _ _ rfl
        simp [go_sem, hb, frsE_length]
        refine (fun (h : ∀ s3 : St, VS.look s3.objs b = some [pg, .rs bb (l.length + 1)] → s3 = { s with objs := putAt s.objs b [pg, .rs bb (l.length + 1)], rows := R1 } → W Tryz.prog ⟨70, none⟩ _ _ s3 _) => h _ (by rw [look_putAt, if_pos rfl, hb]; rfl) (by rfl)) ?_
        intro s3 hb3 hs3
        have hr3 : VS.look s3.rows bb = some (2, frsE (⟨0, x :: ps⟩ :: l)) := by rw [hs3]; exact h2
        refine W_keep [(0, ptr b 1), (4, I x)] (by simp [go_sem]) ?_
        have h1l : (1 : Int) ≤ (ps.length : Int) + 1 := by omega
        have hil : (intsE (x :: ps)).length = ps.length + 1 := by rw [intsE_length]; rfl
        have hall1 := intsE_all (x :: ps)
        have hsl1 := intsE_slice (x :: ps) 1
        simp only [List.length_cons, List.drop_succ_cons, List.drop_zero] at hsl1
        refine W_seq (W_drawr 12 Tryz.mixed (by kernel_rfl) ?_)
        simp [go_sem, hb3, hr3, frsE, frC, hil, h1l, hall1, hsl1]
        have hbn' : ∀ y z, VS.look s.rows y = some z → y ≠ bb := fun y z hz e => by subst e; rw [hbn] at hz; cases hz
        refine W_freezec (b := b) (cs := [pg, .rs bb (l.length + 1)]) 1 2 (frsE (⟨0, ps⟩ :: l)) s.rows hb3 rfl ⟨.inr (.inr ⟨bb, by simp [frsE], by rw [look_putAt, if_pos rfl, hr3]; simp [frsE, frC]⟩), fun y z hz => by
          have e := hbn' y z hz
          rw [look_putAt, if_neg e, hs3]
          exact hR.old y z hz, fun b' n hb' => by injection hb' with e1 e2; subst e1; exact hbn⟩ (frsE_one _) ?_
        refine (fun (h : ∀ s4 : St, s4 = { s with objs := putAt s.objs b [pg, LF (⟨0, ps⟩ :: l)] } → W Tryz.prog ⟨70, none⟩ _ _ s4 _) => h _ (by rw [hs3]; simp [putAt_putAt])) ?_
        intro s4 hs4
        have hb4 : VS.look s4.objs b = some [pg, LF (⟨0, ps⟩ :: l)] := by rw [hs4, look_putAt, if_pos rfl, hb]; rfl
        refine W_keep [(0, ptr b 1), (4, I x)] (by simp [go_sem]) ?_
        refine W_seq (W_seq (W_reg ?_))
        simp [go_sem, hb4, frsE, frC, intsE_length]
        by_cases hps : ps = []
        · subst hps
          refine W_ifs true (by simp [go_sem]) (fun _ => W_reg ?_) (fun h => by cases h)
          have h1l2 : (1 : Int) ≤ (l.length : Int) + 1 := by omega
          have hfs := frsE_slice (⟨0, []⟩ :: l) 1
          have hfa := frsE_all (⟨0, []⟩ :: l)
          have hfl := frsE_length (⟨0, []⟩ :: l)
          simp only [List.length_cons, List.drop_succ_cons, List.drop_zero] at hfs hfl
          simp [go_sem, hb4, hfl, h1l2, hfa, hfs]
          refine W_seq (W_reg ?_)
          simp [go_sem]
          refine W_ret ?_
          simp only [go_sem]
          refine ⟨trivial, .tup [I x, Bo true], by simp [go_sem], { s with objs := putAt s.objs b [pg, LF l] }, ?_, by simp [go_sem, leastB, leastN], by simp [leastB, leastL]⟩
          rw [hs4]
          simp only [putAt_putAt]
          exact Sub.refl _
        · have hpl : ((ps.length : Int) == 0) = false := by simpa using hps
          refine W_ifs false (by simp [go_sem, hps]) (fun h => by cases h) (fun _ => W_skip ?_)
          simp only [go_sem]
          refine W_seq (W_reg ?_)
          simp [go_sem]
          refine W_ret ?_
          simp only [go_sem]
          refine ⟨trivial, .tup [I x, Bo true], by simp [go_sem], s4, Sub.refl _, by simp [go_sem, leastB, leastN], by rw [hs4]; simp [leastB, leastL, hps]⟩
      · simp [go_sem, hb, frsE, hz, frC]
        refine hK _ _ ?_
        refine W_ifs true (by simp [go_sem, hv]) (fun _ => W_seq (W_reg ?_)) (fun h => by cases h)
        simp [go_sem]
        refine W_ret ?_
        simp only [go_sem]
        exact ⟨trivial, _, rfl, _, sub_same hb, by simp [go_sem, leastB, hv], by simp [leastB, hv]⟩
end Go.Proofs.YtpmknffollpnaaaGreat
namespace Go.Proofs.YtpmknffollpnaaaGreat
open Go Go.VS
set_option maxRecDepth 4000 in
theorem keep_m (b : Nat) (pg : C) (n : Nat) (l : List Fr) (pages : Int) (s : St) (hb : VS.look s.objs b = some [pg, LF l]) (hs : Sz n l) (hn : n ≤ 100000000) (hne : ∀ f ∈ l, f.p ≠ []) (hinc : ∀ f ∈ l, f.p.Pairwise (· < ·)) :
    CallC Tryz.prog 52 [ptr b 1, I pages] s (fun _ s' => s' = { s with objs := putAt s.objs b [pg, LF (keepP l pages)] }) (fun _ _ => False) := by
  refine CallC_of Tryz.func52 rfl (by rfl) Tryz.ntmps52 (by simp) ?_
  refine W_seq (W_reg ?_)
  simp [go_sem]
  refine WL_box (by simp [go_sem]) (by simp) fun b3 hb3 => WL_run _ _ _ ?_
  have hne3 : b3 ≠ b := fun e => by subst e; rw [hb3.1] at hb; cases hb
  have hn3 := hb3.1
  have hbS : VS.look ({ s with objs := (b3, [I pages]) :: s.objs } : St).objs b = some [pg, LF l] := lookCons hb3.1 hb
  have hb3S : VS.look ({ s with objs := (b3, [I pages]) :: s.objs } : St).objs b3 = some [I pages] := by simp [VS.look]
  simp [go_sem]
  -- what is left when the list is one that 'l'' tells
  have hfin : ∀ l', Sub { s with objs := putAt ((b3, [I pages]) :: s.objs) b [pg, LF l'] } { s with objs := putAt s.objs b [pg, LF l'] } := fun l' => ⟨fun k x hk => by
    have hk' : VS.look (putAt s.objs b [pg, LF l']) k = some x := hk
    show VS.look (putAt ((b3, [I pages]) :: s.objs) b [pg, LF l']) k = some x
    rw [putAt_cons _ _ _ _ _ hne3]
    exact lookCons (by rw [look_putAt, if_neg hne3]; exact hn3) hk', fun _ _ h => h, fun _ _ h => h, fun _ _ h => h⟩
  have hfin0 : Sub { s with objs := (b3, [I pages]) :: s.objs } { s with objs := putAt s.objs b [pg, LF l] } := ⟨fun k x hk => by
    have hk' : VS.look (putAt s.objs b [pg, LF l]) k = some x := hk
    rw [look_putAt] at hk'
    split at hk'
    · rename_i e
      subst e
      rw [hb] at hk'
      simp only [Option.map_some, Option.some.injEq] at hk'
      subst hk'
      exact hbS
    · exact lookCons hn3 hk', fun _ _ h => h, fun _ _ h => h, fun _ _ h => h⟩
  refine (fun (h : ∀ s1 : St, s1 = { s with objs := (b3, [I pages]) :: s.objs } → W Tryz.prog ⟨57, none⟩ _ _ s1 _) => h _ rfl) ?_
  intro s1 hs1
  have hb1 : VS.look s1.objs b = some [pg, LF l] := by rw [hs1]; exact hbS
  have hb13 : VS.look s1.objs b3 = some [I pages] := by rw [hs1]; exact hb3S
  refine W_seq (W_seq_k fun K hK => W_reg ?_)
  cases l with
  | nil =>
    simp [go_sem, hb1, frsE]
    refine hK _ _ ?_
    refine W_ifs true (by simp [go_sem]) (fun _ => W_ret ?_) (fun h => by cases h)
    simp only [go_sem]
    exact ⟨trivial, _, rfl, _, by rw [hs1]; exact hfin0, rfl⟩
  | cons f l =>
    have hz : ∀ q : Nat, (((q : Int) + 1) == 0) = false := fun q => by rw [beq_eq_false_iff_ne]; omega
    obtain ⟨v, p⟩ := f
    have hpne := hne ⟨v, p⟩ (by simp)
    have hpl := hs.p ⟨v, p⟩ (by simp)
    have hpinc := hinc ⟨v, p⟩ (by simp)
    simp only at hpne hpl hpinc
    by_cases hv : v = 0
    · subst hv
      simp [go_sem, hb1, frsE, hz, frC]
      refine hK _ _ ?_
      refine W_ifs false (by simp [go_sem]) (fun h => by cases h) (fun _ => W_skip ?_)
      simp only [go_sem]
      refine W_keep [(0, ptr b 1), (3, ptr b3 0)] (by simp [go_sem]) ?_
      refine W_seq (W_reg ?_)
      simp [go_sem, hb1, frsE, frC]
      refine (cloneI_c p (by omega) s1).use (fun c s2 hc => ?_) (fun _ _ h => h.elim)
      obtain ⟨R1, rfl, hR⟩ := hc
      rcases hR.row with ⟨_, h2⟩ | ⟨_, h2⟩ | ⟨bb, h1, h2⟩
      · cases p with | nil => exact absurd rfl hpne | cons _ _ => simp [intsE] at h2
      · cases p with | nil => exact absurd rfl hpne | cons _ _ => simp [intsE] at h2
      rw [intsE_length] at h1
      subst h1
      simp [go_sem]
      refine (delete_c bb p 97 #[.pointer (some ⟨b3, 0, none⟩)] (fun n => decide (pages ≤ n)) { s1 with rows := R1 } (by omega) hR (keep1_c b3 pages _ (by exact hb13)) (fun _ _ => trivial) (fun i j hi hj hij h => ?_)).use (fun c s2 hc => ?_) (fun _ _ h => h.elim)
      · have := List.pairwise_iff_getElem.1 hpinc i j hi hj hij
        simp at h ⊢
        omega
      obtain ⟨R2, rfl, hR2⟩ := hc
      simp [go_sem]
      generalize hkp : p.filter (fun x => !decide (pages ≤ x)) = kp at hR2
      refine W_freeze 4 1 (intsE kp) s1.rows (by simpa [go_sem] using hR2) (intsE_one _) ?_
      refine (fun (h : W Tryz.prog ⟨57, none⟩ _ _ s1 _) => h) ?_
      refine W_keep [(0, ptr b 1), (3, ptr b3 0), (4, LI kp)] (by simp [go_sem]) ?_
      refine W_seq (W_reg ?_)
      simp [go_sem, hb1]
      refine (cloneF_c (⟨0, p⟩ :: l) (by have := hs.len; omega) s1).use (fun c s2 hc => ?_) (fun _ _ h => h.elim)
      obtain ⟨R1', rfl, hR'⟩ := hc
      rcases hR'.row with ⟨_, h2'⟩ | ⟨_, h2'⟩ | ⟨bc, h1', h2'⟩
      · simp [frsE] at h2'
      · simp [frsE] at h2'
      subst h1'
      have hbn := hR'.new _ _ rfl
      simp [go_sem, hb1, frsE_length]
      refine (fun (h : ∀ s3 : St, VS.look s3.objs b = some [pg, .rs bc (l.length + 1)] → s3 = { s1 with objs := putAt s1.objs b [pg, .rs bc (l.length + 1)], rows := R1' } → W Tryz.prog ⟨57, none⟩ _ _ s3 _) => h _ (by rw [look_putAt, if_pos rfl, hb1]; rfl) (by rfl)) ?_
      intro s3 hb3' hs3
      have hr3 : VS.look s3.rows bc = some (2, frsE (⟨0, p⟩ :: l)) := by rw [hs3]; exact h2'
      refine W_keep [(0, ptr b 1), (4, LI kp)] (by simp [go_sem]) ?_
      refine W_seq (W_reg ?_)
      simp [go_sem, hb3', hr3, frsE, frC]
      have hbn' : ∀ y z, VS.look s1.rows y = some z → y ≠ bc := fun y z hz e => by subst e; rw [hbn] at hz; cases hz
      refine W_freezec (b := b) (cs := [pg, .rs bc (l.length + 1)]) 1 2 (frsE (⟨0, kp⟩ :: l)) s1.rows hb3' rfl ⟨.inr (.inr ⟨bc, by simp [frsE], by rw [look_putAt, if_pos rfl, hr3]; simp [frsE, frC]⟩), fun y z hz => by
          have e := hbn' y z hz
          rw [look_putAt, if_neg e, hs3]
          exact hR'.old y z hz, fun b' n hb' => by injection hb' with e1 e2; subst e1; exact hbn⟩ (frsE_one _) ?_
      refine (fun (h : ∀ s4 : St, s4 = { s1 with objs := putAt s1.objs b [pg, LF (⟨0, kp⟩ :: l)] } → W Tryz.prog ⟨57, none⟩ _ _ s4 _) => h _ (by rw [hs3]; simp [putAt_putAt])) ?_
      intro s4 hs4
      have hb4 : VS.look s4.objs b = some [pg, LF (⟨0, kp⟩ :: l)] := by rw [hs4, look_putAt, if_pos rfl, hb1]; rfl
      refine W_keep [(0, ptr b 1), (4, LI kp)] (by simp [go_sem]) ?_
      refine W_seq (W_reg ?_)
      simp [go_sem, intsE_length]
      by_cases hps : kp = []
      · refine W_ifs true (by simp [go_sem, hps]) (fun _ => W_reg ?_) (fun h => by cases h)
        have h1l2 : (1 : Int) ≤ (l.length : Int) + 1 := by omega
        have hfs := frsE_slice (⟨0, kp⟩ :: l) 1
        have hfa := frsE_all (⟨0, kp⟩ :: l)
        have hfl := frsE_length (⟨0, kp⟩ :: l)
        simp only [List.length_cons, List.drop_succ_cons, List.drop_zero] at hfs hfl
        simp [go_sem, hb4, hfl, h1l2, hfa, hfs]
        have hk2 : keepP (⟨0, p⟩ :: l) pages = l := by simp [keepP, hkp, hps]
        rw [hk2, hs4, hs1]
        simp only [putAt_putAt]
        exact hfin l
      · have hpl : ((kp.length : Int) == 0) = false := by simpa using hps
        refine W_ifs false (by simp [go_sem, hps]) (fun h => by cases h) (fun _ => W_skip ?_)
        simp only [go_sem]
        have hk2 : keepP (⟨0, p⟩ :: l) pages = ⟨0, kp⟩ :: l := by simp [keepP, hkp, hps]
        exact ⟨trivial, _, rfl, _, by rw [hk2, hs4, hs1]; exact hfin _, rfl⟩
    · simp [go_sem, hb1, frsE, hz, frC]
      refine hK _ _ ?_
      refine W_ifs true (by simp [go_sem, hv]) (fun _ => W_ret ?_) (fun h => by cases h)
      simp only [go_sem]
      have hk2 : keepP (⟨v, p⟩ :: l) pages = ⟨v, p⟩ :: l := by simp [keepP, hv]
      exact ⟨trivial, _, rfl, _, by rw [hs1, hk2]; exact hfin0, rfl⟩
end Go.Proofs.YtpmknffollpnaaaGreat
namespace Go.Proofs.YtpmknffollpnaaaGreat
open Go Go.VS
def zpage : List C := [I 0, I 0, I 0, I 0, I 0, Bo false, .v (.slice none 0 0), I 0, .v (.string ⟨#[]⟩), .v (.slice none 0 0)]
theorem zpage_eq : tzero Tryz.prog 89 = some zpage := by rw [tzero_89]; rfl
/-- What a page may be known as: ten cells. -/
def PgE (es : List (List C)) : Prop := ∀ e ∈ es, e.length = 10 ∧ e.all VS.one = true
set_option maxRecDepth 4000 in
theorem clonePg_c (es : List (List C)) (hz : PgE es) (hl : es.length ≤ 1000000) (s : St) : CallC Tryz.prog 49 [.li none es] s (fun c s' => ∃ R', s' = { s with rows := R' } ∧ RowIn s.rows R' c 10 es ∧ (es ≠ [] → c ≠ .li none [])) (fun _ _ => False) := by
  refine CallC_of Tryz.func49 rfl (by rfl) Tryz.ntmps49 (by simp) ?_
  refine W_seq (W_reg ?_)
  simp [go_sem]
  refine W_seq (W_seq (W_region ?_))
  simp only [List.map, conv]
  refine WL_rd (c := .li none es) (by simp [go_sem]) (by simp) ?_
  refine WL_isnil (tok := none) (es := es) (e := 89) (by simp [go_sem]) tel_22 (by simp) fun t ht => ?_
  refine WL_run _ _ _ ?_
  simp [go_sem]
  cases t
  · refine W_ifs false (by simp [go_sem]) (fun h => by cases h) (fun _ => W_skip ?_)
    simp only [go_sem]
    refine W_seq (W_reg ?_)
    simp [go_sem]
    refine WL_buildSliceRow tel_22 (by simp [go_sem]) (by simp) (by simp) (by simp [partsC]) (by simp [partsC]) (by simp [go_sem]) (by simp) (by simp) fun b hb1 hb2 => WL_run _ _ _ ?_
    simp [go_sem, partsC]
    have hr : RowIn s.rows ((b, 10, []) :: s.rows) (.rs b 0) 10 [] := ⟨.inr (.inr ⟨b, rfl, by simp [VS.look]⟩), fun k x hk => lookCons hb1 hk, fun b' n hb => by cases hb; exact hb1⟩
    refine WL_appendRow (R0 := s.rows) (es := []) (es2 := es) (e := 89) (by simpa [go_sem] using hr) (by simp [go_sem]) tel_22 (by simp [go_sem]) (by simp [go_sem]) (by simp [go_sem, elsC]) (fun q hq => by rw [(hz q hq).1]; simp [go_sem]) (by simp [go_sem]; omega) (by simp [go_sem]) (by simp) fun c' R' hR hnl => WL_run _ _ _ ?_
    simp [go_sem]
    refine W_ret ?_
    simp only [go_sem]
    rw [tsz_89] at hR
    simp only [List.nil_append] at hR
    have hst : RowIn s.rows R' (strip c') 10 es ∧ (es ≠ [] → strip c' ≠ .li none []) := by
      refine ⟨hR.strip, fun hne => ?_⟩
      rcases hR.row with ⟨h1, h2⟩ | ⟨h1, h2⟩ | ⟨b', h1, h2⟩
      · exact absurd h2 hne
      · exact absurd h2 hne
      · rw [h1]; simp
    exact ⟨trivial, c', by simp [go_sem], _, Sub.refl _, R', rfl, hst.1, hst.2⟩
  · have hnil : es = [] := by
      cases es with
      | nil => rfl
      | cons n l => have := ht (by simp); cases this
    refine W_ifs true (by simp [go_sem]) (fun _ => W_seq (W_reg ?_)) (fun h => by cases h)
    simp [go_sem]
    refine W_ret ?_
    simp only [go_sem]
    refine ⟨trivial, .v (.slice none 0 0), by simp [go_sem], s, Sub.refl _, s.rows, rfl, ?_, fun h => absurd hnil h⟩
    subst hnil
    exact ⟨.inr (.inl ⟨by simp [go_sem], rfl⟩), fun _ _ h => h, fun b n hb => by simp [go_sem] at hb⟩
theorem RowIn.rs_row {R0 R : VS.Rows} {b n z : Nat} {es : List (List C)} (h : RowIn R0 R (.rs b n) z es) : VS.look R b = some (z, es) ∧ n = es.length := by
  rcases h.row with ⟨h, _⟩ | ⟨h, _⟩ | ⟨b', h, h'⟩
  · cases h
  · cases h
  · injection h with h1 h2; subst h1; exact ⟨h', h2⟩
set_option maxRecDepth 4000 in
theorem take_m {R0 : VS.Rows} (b bp : Nat) (pgs : List (List C)) (n : Nat) (l : List Fr) (s : St) (hb : VS.look s.objs b = some [.rs bp pgs.length, LF l]) (hs : Sz n l) (hn : n ≤ 100000000) (hne : ∀ f ∈ l, f.p ≠ []) (hR : RowIn R0 s.rows (.rs bp pgs.length) 10 pgs) (hlen : pgs.length ≤ 1000000) :
    CallC Tryz.prog 54 [ptr b 0] s (fun c s' => (leastB l = true ∧ c = I (leastN l) ∧ s' = { s with objs := putAt s.objs b [.rs bp pgs.length, LF (leastL l)] }) ∨
      (leastB l = false ∧ pgs.length < 4096 ∧ c = I pgs.length ∧ ∃ bp' R', RowIn R0 R' (.rs bp' (pgs ++ [zpage]).length) 10 (pgs ++ [zpage]) ∧ s' = { s with objs := putAt s.objs b [.rs bp' (pgs ++ [zpage]).length, LF l], rows := R' }))
      (fun ch s' => leastB l = false ∧ 4096 ≤ pgs.length ∧ ch = fail 7 ∧ s' = s) := by
  refine CallC_of Tryz.func54 rfl (by rfl) Tryz.ntmps54 (by simp) ?_
  refine W_seq (W_reg ?_)
  simp [go_sem]
  refine W_seq (W_seq (W_reg ?_))
  simp [go_sem]
  refine (least_m b (.rs bp pgs.length) n l s hb hs hn hne).use (fun c s2 hc => ?_) (fun _ _ h => h.elim)
  obtain ⟨rfl, hs2⟩ := hc
  simp [go_sem]
  refine W_seq (W_reg ?_)
  simp [go_sem]
  generalize hlb : leastB l = lb at hs2 ⊢
  cases lb
  · refine W_ifs false (by simp [go_sem]) (fun h => by cases h) (fun _ => W_skip ?_)
    simp only [go_sem]
    have hb2 : VS.look s2.objs b = some [.rs bp pgs.length, LF l] := by rw [hs2, look_putAt, if_pos rfl, hb]; rfl
    have hR2 : RowIn R0 s2.rows (.rs bp pgs.length) 10 pgs := by rw [hs2]; exact hR
    have hsame : Sub s2 s := by
      rw [hs2]
      refine ⟨fun k x hk => ?_, fun _ _ h => h, fun _ _ h => h, fun _ _ h => h⟩
      show VS.look (putAt s.objs b _) k = some x
      rw [look_putAt]
      split
      · rename_i e; subst e; rw [hk] at hb; cases hb; rw [hk]; rfl
      · exact hk
    refine W_keep [(0, ptr b 0)] (by simp [go_sem]) ?_
    refine W_seq (W_reg ?_)
    simp [go_sem, hb2]
    refine (need_c _ _ _).use (fun c s3 hc => ?_) (fun ch s3 hc => ?_)
    · obtain ⟨hlt, rfl⟩ := hc
      have hlt' : pgs.length < 4096 := by simp at hlt; omega
      simp [go_sem]
      refine W_keep [(0, ptr b 0)] (by simp [go_sem]) ?_
      refine W_seq (W_reg ?_)
      simp [go_sem, hb2]
      refine WL_buildSlice tel_22 (by simp [go_sem]) (by rfl) (by rfl) (by simp [partsC, go_sem]) (by simp [partsC, go_sem]) (by simp [go_sem]) (by simp) (by simp) fun r hr => ?_
      refine WL_appendRow (R0 := R0) (es := pgs) (es2 := [zpage]) (e := 89) (by simpa [go_sem] using hR2) (by simp [go_sem]) tel_22 (by simp [go_sem]) (by simp [go_sem]) (by simp [go_sem, elsC, partsC, zpage]) (by simp [go_sem, zpage]) (by simp [go_sem]; omega) (by simp [go_sem]) (by simp) fun c2 R2 hR3 hnl => WL_run _ _ _ ?_
      rw [tsz_89] at hR3
      obtain ⟨bp', rfl⟩ : ∃ bp', c2 = .rs bp' (pgs ++ [zpage]).length := by
        rcases hR3.row with ⟨_, h⟩ | ⟨h, _⟩ | ⟨b', h, _⟩
        · simp at h
        · exact absurd h hnl
        · exact ⟨b', h⟩
      simp [go_sem, hb2]
      refine (fun (h : ∀ s4 : St, VS.look s4.objs b = some [.rs bp' (pgs.length + 1), LF l] → Sub s4 { s with objs := putAt s.objs b [.rs bp' (pgs.length + 1), LF l], rows := R2 } → W Tryz.prog ⟨37, none⟩ _ _ s4 _) => h _ (by rw [look_putAt, if_pos rfl, hb2]; rfl) ?_) ?_
      · refine ⟨fun k x hk => ?_, fun _ _ h => h, fun k x hk => lookCons hr (by rw [hs2]; exact hk), by rw [hs2]; exact fun _ _ h => h⟩
        have hk' : VS.look (putAt s.objs b [.rs bp' (pgs.length + 1), LF l]) k = some x := hk
        show VS.look (putAt s3.objs b _) k = some x
        rw [hs2]
        simp only [putAt_putAt]
        exact hk'
      · intro s4 hb4 hs4
        refine W_keep [(0, ptr b 0)] (by simp [go_sem]) ?_
        refine W_seq (W_reg ?_)
        have hw : IntKind.i64.wrap (pgs.length : Int) = (pgs.length : Int) := wrap_in (by omega) (by omega)
        simp [go_sem, hb4, hw]
        refine W_ret ?_
        simp only [go_sem]
        refine ⟨trivial, I pgs.length, by simp [go_sem], _, hs4, hlt', by simp [go_sem], bp', R2, by simpa using hR3, rfl⟩
    · obtain ⟨hge, rfl, rfl⟩ := hc
      simp only [go_sem]
      exact ⟨trivial, s, hsame, by simp at hge; omega, by simp⟩
  · refine W_ifs true (by simp [go_sem]) (fun _ => W_seq (W_reg ?_)) (fun h => by cases h)
    simp [go_sem]
    refine W_ret ?_
    simp only [go_sem]
    exact ⟨trivial, I (leastN l), by simp [go_sem], s2, Sub.refl _, by simp [go_sem], by simpa using hs2⟩
end Go.Proofs.YtpmknffollpnaaaGreat
namespace Go.Proofs.YtpmknffollpnaaaGreat
open Go Go.VS
theorem compactN_c (s : St) : CallC Tryz.prog 141 [.li none []] s (fun c s' => c = .li none [] ∧ s' = s) (fun _ _ => False) := by
  refine CallC_of Tryz.func141 rfl (by rfl) Tryz.ntmps141 (by simp) ?_
  refine W_seq (W_reg ?_)
  simp [go_sem]
  refine W_seq (W_seq (W_reg ?_))
  simp [go_sem]
  refine W_ifs true (by simp [go_sem]) (fun _ => W_seq (W_reg ?_)) (fun h => by cases h)
  simp [go_sem]
  refine W_ret ?_
  simp only [go_sem]
  exact ⟨trivial, _, rfl, s, Sub.refl _, by simp [go_sem], rfl⟩
set_option maxRecDepth 4000 in
theorem compactR_c (b : Nat) (l : List Int) (s : St) (hl : l.length ≤ 1000000) (hrow : VS.look s.rows b = some (1, intsE l)) (hlt : l.Pairwise (· < ·)) : CallC Tryz.prog 141 [.rs b l.length] s (fun c s' => c = .rs b l.length ∧ s' = s) (fun _ _ => False) := by
  refine CallC_of Tryz.func141 rfl (by rfl) Tryz.ntmps141 (by simp) ?_
  refine W_seq (W_reg ?_)
  simp [go_sem]
  refine W_seq (W_seq (W_reg ?_))
  simp [go_sem]
  by_cases h2 : l.length < 2
  · refine W_ifs true (by simp [go_sem]; omega) (fun _ => W_seq (W_reg ?_)) (fun h => by cases h)
    simp [go_sem]
    refine W_ret ?_
    simp only [go_sem]
    exact ⟨trivial, _, rfl, s, Sub.refl _, by simp [go_sem], rfl⟩
  · refine W_ifs false (by simp [go_sem]; omega) (fun h => by cases h) (fun _ => W_skip ?_)
    simp only [go_sem]
    refine W_seq_k fun K hK => W_seq (W_reg ?_)
    simp [go_sem]
    refine W_for (l.length - 1) (fun q L s' => L = [(0, .rs b l.length), (3, I ((1 + q : Nat) : Int))] ∧ s' = s) (l0 := [(0, .rs b l.length), (3, I ((1 + 0 : Nat) : Int))]) (ds := []) ⟨rfl, rfl⟩ (by simp [go_sem]) rfl ?_
    rintro q _ s3 hq ⟨rfl, rfl⟩ K3 hK3
    refine W_reg ?_
    simp [go_sem]
    refine hK3 _ _ (decide (1 + q < l.length)) [(0, .rs b l.length), (3, I ((1 + q : Nat) : Int))] (by simp [go_sem]) (by simp [go_sem]; omega) (by simp [go_sem]) (fun hlt2 => ?_) (fun hge => ?_)
    · simp only [decide_eq_true_eq] at hlt2
      have hw2 : IntKind.i64.wrap (((1 + q : Nat) : Int) + 1) = ((1 + (q + 1) : Nat) : Int) := by rw [wrap_in (by omega) (by omega)]; omega
      have hw1 : IntKind.i64.wrap (((1 + q : Nat) : Int) - 1) = (q : Int) := by rw [wrap_in (by omega) (by omega)]; omega
      have hq2 : q < l.length := by omega
      have hne := List.pairwise_iff_getElem.1 hlt q (1 + q) hq2 hlt2 (by omega)
      refine ⟨by omega, W_seq (W_drawr 10 Tryz.mixed (by kernel_rfl) ?_)⟩
      generalize hx : 1 + q = x at *
      have hneb : (l[x] == l[q]) = false := by rw [beq_eq_false_iff_ne]; omega
      simp [go_sem, hrow, intsE_get, hlt2, hw1, hq2]
      refine W_ifs false (by simp [go_sem, hneb]) (fun h => by cases h) (fun _ => W_skip ?_)
      simp only [go_sem]
      refine W_reg ?_
      simp [go_sem, hw2]
    · simp only [go_sem]
      refine hK _ _ ?_
      refine W_seq (W_reg ?_)
      simp [go_sem]
      refine W_ret ?_
      simp only [go_sem]
      exact ⟨trivial, _, rfl, s3, Sub.refl _, by simp [go_sem], rfl⟩
def numsOk (l : List Int) (v : Int) : Bool := !(l.any fun n => !numB n) && (decide (0 ≤ v) && decide (v ≤ 1099511627776))
set_option maxRecDepth 4000 in
theorem numbers_c (l : List Int) (v : Int) (hl : l.length ≤ 1000000) (hnd : l.Nodup) : Pure Tryz.prog 100 [LI l, I v] (Bo (numsOk l v)) := by
  intro s
  refine CallC_of Tryz.func100 rfl (by rfl) Tryz.ntmps100 (by simp) ?_
  refine W_seq (W_reg ?_)
  simp [go_sem]
  refine W_seq (W_reg ?_)
  simp [go_sem]
  refine (cloneI_c l (by omega) s).use (fun c s2 hc => ?_) (fun _ _ h => h.elim)
  obtain ⟨R1, rfl, hR⟩ := hc
  simp [go_sem]
  refine W_seq (W_reg ?_)
  simp [go_sem]
  rw [hR.stripA]
  refine (sortRow_c l { s with rows := R1 } hR (by omega)).use (fun c2 s2 hc => ?_) (fun _ _ h => h.elim)
  obtain ⟨R2, rfl, hR2⟩ := hc
  simp [go_sem]
  have hslen : (sorted l).length = l.length := by simp [sorted]
  have hslt : (sorted l).Pairwise (· < ·) := lt_of_le_nodup (sorted_le l) ((sorted_perm l).nodup_iff.2 hnd)
  refine W_keep [(0, LI l), (1, I v), (5, c)] (by simp [go_sem]) ?_
  refine W_seq (W_reg ?_)
  simp [go_sem]
  rw [hR.stripA]
  -- what Compact hands back is as long
  have hcomp : CallC Tryz.prog 141 [c] { s with rows := R2 } (fun c' s' => (c' = .li none [] ∧ l = [] ∨ ∃ b, c' = .rs b l.length) ∧ s' = { s with rows := R2 }) (fun _ _ => False) := by
    rcases hR2.row with ⟨h1, h2⟩ | ⟨h1, h2⟩ | ⟨b, h1, h2⟩
    · have hl0 : l = [] := by
        have : (intsE (sorted l)).length = 0 := by rw [h2]; rfl
        rw [intsE_length, hslen] at this
        exact List.eq_nil_of_length_eq_zero this
      refine ((compactN_c _).less (args := [c]) rfl (fun w g v j hj hv => ?_)).mono (fun c' s' hs => ⟨.inl ⟨hs.1, hl0⟩, hs.2⟩) (fun _ _ h => h.elim)
      simp only [List.length_cons, List.length_nil, Nat.zero_add, Nat.lt_one_iff] at hj
      subst hj
      simp only [List.getElem_cons_zero, h1] at hv ⊢
      rw [hv.v_eq]
      exact nil_li
    · have hl0 : l = [] := by
        have : (intsE (sorted l)).length = 0 := by rw [h2]; rfl
        rw [intsE_length, hslen] at this
        exact List.eq_nil_of_length_eq_zero this
      rw [h1]
      exact (compactN_c _).mono (fun c' s' hs => ⟨.inl ⟨hs.1, hl0⟩, hs.2⟩) (fun _ _ h => h.elim)
    · rw [h1, intsE_length]
      refine (compactR_c b (sorted l) { s with rows := R2 } (by omega) h2 hslt).mono (fun c' s' hs => ⟨.inr ⟨b, by rw [hs.1, hslen]⟩, hs.2⟩) (fun _ _ h => h.elim)
  refine hcomp.use (fun c' s2 hc => ?_) (fun _ _ h => h.elim)
  obtain ⟨hlen, rfl⟩ := hc
  have hsubR : Sub { s with rows := R2 } s := ⟨fun _ _ h => h, hR2.old, fun _ _ h => h, fun _ _ h => h⟩
  rcases hlen with ⟨rfl, rfl⟩ | ⟨b, rfl⟩
  · simp [go_sem, intsE]
    refine ((contains_c [] 143 #[] (fun n => !numB n) _ (by simp) (numbers1_c _)).less (args := [.li none [], .v (.func (.func 143) #[] #[])]) rfl (fun w g v j hj hv => ?_)).use (fun c3 s3 hc => ?_) (fun _ _ h => h.elim)
    · match j, hj with
      | 0, _ => exact hv
      | 1, _ => exact hv
    obtain ⟨rfl, rfl⟩ := hc
    simp [go_sem]
    refine Pure.use (pwithin_c _ _ _) ?_
    simp [go_sem]
    refine W_ret ?_
    simp only [go_sem]
    exact ⟨trivial, _, rfl, s, hsubR, by simp [go_sem, numsOk], rfl⟩
  · simp [go_sem, intsE_length]
    refine (contains_c l 143 #[] (fun n => !numB n) { s with rows := R2 } (by omega) (numbers1_c _)).use (fun c3 s3 hc => ?_) (fun _ _ h => h.elim)
    obtain ⟨rfl, rfl⟩ := hc
    have hno : numsOk l v = (!(l.any fun n => !numB n) && (decide (0 ≤ v) && decide (v ≤ 1099511627776))) := rfl
    generalize (l.any fun n => !numB n) = an at hno ⊢
    cases an
    · simp [go_sem]
      refine Pure.use (pwithin_c _ _ _) ?_
      simp [go_sem]
      refine W_ret ?_
      simp only [go_sem]
      exact ⟨trivial, _, rfl, s, hsubR, by simp [go_sem, hno], rfl⟩
    · simp [go_sem]
      refine W_ret ?_
      simp only [go_sem]
      exact ⟨trivial, _, rfl, s, hsubR, by simp [go_sem, hno], rfl⟩
end Go.Proofs.YtpmknffollpnaaaGreat
namespace Go.Proofs.YtpmknffollpnaaaGreat
open Go Go.VS
def mkPg (kind no ver next : Int) (fr : C) : List C := [I kind, I no, I ver, I 0, I 0, Bo false, .v (.slice none 0 0), I next, .v (.string ⟨#[]⟩), fr]
def rgE (n : Nat) (F : Nat → List C) : List (List C) := (List.range n).map F
theorem rgE_len (n : Nat) (F : Nat → List C) : (rgE n F).length = n := by simp [rgE]
theorem rgE_get (n : Nat) (F : Nat → List C) (i : Nat) (h : i < n) : (rgE n F)[i]? = some (F i) := by simp [rgE, h]
theorem rgE_set (n : Nat) (F G : Nat → List C) (k : Nat) (x : List C) (hk : k < n) (hx : G k = x) (hG : ∀ i, i ≠ k → G i = F i) : (rgE n F).set k x = rgE n G := by
  refine List.ext_getElem? fun i => ?_
  by_cases h : i < n
  · rw [rgE_get n G i h]
    by_cases e : k = i
    · subst e
      rw [List.getElem?_set_self (by rw [rgE_len]; exact h), hx]
    · rw [List.getElem?_set_ne e, rgE_get n F i h, hG i (fun h => e h.symm)]
  · rw [List.getElem?_eq_none (by simp [rgE_len]; omega), List.getElem?_eq_none (by rw [rgE_len]; omega)]
theorem rgE_congr (n : Nat) (F G : Nat → List C) (h : ∀ i, i < n → F i = G i) : rgE n F = rgE n G := by
  unfold rgE
  exact List.map_congr_left fun i hi => h i (by simpa using hi)
def chF (nos : List Int) (kind ver : Int) (fr : Nat → C) (k : Nat) (i : Nat) : List C := if i < k then mkPg kind (nos.getD i 0) ver (nos.getD (i + 1) 0) (fr i) else mkPg 0 0 0 0 (fr i)
set_option maxRecDepth 4000 in
theorem chained_c {R0 : VS.Rows} (b n : Nat) (nos : List Int) (kind ver : Int) (fr : Nat → C) (hfr : ∀ i, VS.one (fr i) = true) (s : St) (hn : nos.length = n) (hl : n ≤ 1000000) (hR : RowIn R0 s.rows (.rs b n) 10 (rgE n (chF nos kind ver fr 0))) :
    CallC Tryz.prog 101 [.rs b n, LI nos, I kind, I ver] s (fun c s' => c = .rs b n ∧ ∃ R', s' = { s with rows := R' } ∧ RowIn R0 R' (.rs b n) 10 (rgE n (chF nos kind ver fr n))) (fun _ _ => False) := by
  have hbn := hR.new _ _ rfl
  refine CallC_of Tryz.func101 rfl (by rfl) Tryz.ntmps101 (by simp) ?_
  refine W_seq (W_reg ?_)
  simp [go_sem]
  refine W_seq_k fun K hK => W_seq (W_reg ?_)
  simp [go_sem]
  refine W_range n (fun k L s' => ∃ R', L = [(0, .rs b n), (1, LI nos), (2, I kind), (3, I ver)] ∧ s' = { s with rows := R' } ∧ RowIn R0 R' (.rs b n) 10 (rgE n (chF nos kind ver fr k))) (ds := [])
    (l0 := [(0, .rs b n), (1, LI nos), (2, I kind), (3, I ver)]) (by omega) (by decide) ⟨s.rows, rfl, rfl, hR⟩ (by simp [go_sem]) rfl (by rintro k _ _ ⟨_, rfl, _⟩; simp [notIn]) ?_ ?_
  · rintro k _ s1 hk ⟨R', rfl, rfl, hR1⟩
    have hrow := (RowIn.rs_row hR1).1
    have hkn : k < nos.length := by omega
    have hget := rgE_get n (chF nos kind ver fr k) k hk
    have hF : chF nos kind ver fr k k = mkPg 0 0 0 0 (fr k) := by simp [chF]
    rw [hF] at hget
    have hnk : nos.getD k 0 = nos[k] := by simp [List.getD, hkn]
    refine W_seq (W_reg ?_)
    simp [go_sem]
    refine W_seq (W_reg ?_)
    have hss : ∀ x, ((rgE n (chF nos kind ver fr k)).set k x)[k]? = some x := fun x => List.getElem?_set_self (by rw [rgE_len]; exact hk)
    have hfin : ∀ x, x = mkPg kind nos[k] ver (nos.getD (k + 1) 0) (fr k) → (rgE n (chF nos kind ver fr k)).set k x = rgE n (chF nos kind ver fr (k + 1)) := fun x hx => rgE_set n _ _ k x hk (by rw [hx]; simp only [chF, Nat.lt_succ_self, if_true, hnk]) (fun i hi => by
      unfold chF
      by_cases h1 : i < k
      · rw [if_pos h1, if_pos (by omega)]
      · rw [if_neg h1, if_neg (by omega)])
    have hRnew : ∀ es', RowIn R0 (putAt R' b (10, es')) (.rs b n) 10 es' ∨ es'.length ≠ n := fun es' => by
      by_cases hle : es'.length = n
      · refine .inl ⟨.inr (.inr ⟨b, by rw [hle], by rw [look_putAt, if_pos rfl, hrow]; rfl⟩), fun q x hq => ?_, fun b' m hb' => by injection hb' with e1 e2; subst e1; exact hbn⟩
        have : q ≠ b := fun e => by subst e; rw [hbn] at hq; cases hq
        rw [look_putAt, if_neg this]
        exact hR1.old q x hq
      · exact .inr hle
    simp [go_sem, hrow, hk, hget, mkPg, intsE_get, hkn, look_putAt, putAt_putAt, hss]
    have hw : IntKind.i64.wrap ((k : Int) + 1) = (k : Int) + 1 := wrap_in (by omega) (by omega)
    refine W_seq (W_reg ?_)
    simp [go_sem, hw]
    by_cases hk1 : k + 1 < n
    · have hk1' : k + 1 < nos.length := by omega
      have hnx : nos.getD (k + 1) 0 = nos[k + 1] := by simp [List.getD, hk1']
      have hcast : (k : Int) + 1 = ((k + 1 : Nat) : Int) := by omega
      refine W_ifs true (by simp [go_sem]; omega) (fun _ => W_reg ?_) (fun h => by cases h)
      rw [hcast] at hw
      have h0k : (0 : Int) ≤ (k : Int) + 1 := by omega
      have htk : ((k : Int) + 1).toNat = k + 1 := by omega
      have hw' : IntKind.i64.wrap ((k : Int) + 1) = (k : Int) + 1 := wrap_in (by omega) (by omega)
      simp [go_sem, hw', h0k, htk, intsE_get, hk1', hrow, hk, look_putAt, putAt_putAt, hss]
      rw [hfin _ (by rw [hnx]; rfl)]
      rcases hRnew (rgE n (chF nos kind ver fr (k + 1))) with h | h
      · exact ⟨_, ⟨rfl, h⟩, by simp [go_sem]⟩
      · exact absurd (rgE_len _ _) h
    · have hnx : nos.getD (k + 1) 0 = 0 := by simp [List.getD, List.getElem?_eq_none (show nos.length ≤ k + 1 by omega)]
      refine W_ifs false (by simp [go_sem]; omega) (fun h => by cases h) (fun _ => W_skip ?_)
      simp [go_sem]
      rw [hfin _ (by rw [hnx]; rfl)]
      rcases hRnew (rgE n (chF nos kind ver fr (k + 1))) with h | h
      · exact ⟨_, ⟨rfl, h⟩, by simp [go_sem]⟩
      · exact absurd (rgE_len _ _) h
  · rintro _ s1 x ⟨R', rfl, rfl, hR1⟩
    simp only [go_sem]
    refine hK _ _ ?_
    refine W_seq (W_reg ?_)
    simp [go_sem]
    refine W_ret ?_
    simp only [go_sem]
    exact ⟨trivial, _, rfl, _, Sub.refl _, by simp [go_sem], R', rfl, hR1⟩
def frP (ps : List (List Fr)) (i : Nat) : C := match ps[i]? with
  | some p => LF p
  | none => .v (.slice none 0 0)
theorem frP_one (ps : List (List Fr)) (i : Nat) : VS.one (frP ps i) = true := by
  unfold frP
  split <;> rfl
theorem mkPg_one (kind no ver next : Int) (fr : C) (h : VS.one fr = true) : (mkPg kind no ver next fr).all VS.one = true := by
  simp only [mkPg, List.all_cons, List.all_nil, h]
  rfl
theorem rgE_one (n : Nat) (F : Nat → List C) (h : ∀ i, (F i).all VS.one = true) : (rgE n F).all (fun e => e.all VS.one) = true := by
  rw [List.all_eq_true]
  intro e he
  obtain ⟨i, _, rfl⟩ := List.mem_map.1 he
  exact h i
def listPagesE (l : List Fr) (nos : List Int) (ver : Int) : Int := if freedB l then (if decide (nos.length < (partsP l).length) || !(numsOk nos ver) then 1 else 0) else 2
def listPagesC (l : List Fr) (nos : List Int) (ver : Int) : List (List C) := if listPagesE l nos ver = 0 then rgE nos.length (chF nos 4 ver (frP (partsP l)) nos.length) else []
set_option maxRecDepth 4000 in
theorem listPages_c (n : Nat) (l : List Fr) (nos : List Int) (ver : Int) (hs : Sz n l) (hn : n ≤ 100000000) (ht : (nums l).length ≤ 100000000) (hl : nos.length ≤ 1000000) (hnd : nos.Nodup) : Pure Tryz.prog 55 [LF l, LI nos, I ver] (.tup [.li none (listPagesC l nos ver), I (listPagesE l nos ver)]) := by
  intro s
  refine CallC_of Tryz.func55 rfl (by rfl) Tryz.ntmps55 (by simp) ?_
  refine W_seq (W_reg ?_)
  simp [go_sem]
  refine W_seq (W_seq (W_reg ?_))
  simp [go_sem]
  refine Pure.use (freed_c n l hs (by omega)) ?_
  have hfn := @freedB_ne l
  have hE : listPagesE l nos ver = if freedB l then (if decide (nos.length < (partsP l).length) || !(numsOk nos ver) then 1 else 0) else 2 := rfl
  have hC : listPagesC l nos ver = if listPagesE l nos ver = 0 then rgE nos.length (chF nos 4 ver (frP (partsP l)) nos.length) else [] := rfl
  generalize freedB l = fb at hfn hE ⊢
  simp [go_sem]
  cases fb
  · simp only [Bool.false_eq_true, if_false] at hE
    rw [hE] at hC ⊢
    simp at hC
    refine W_ifs true (by simp [go_sem]) (fun _ => W_seq (W_reg ?_)) (fun h => by cases h)
    simp [go_sem]
    refine W_ret ?_
    simp only [go_sem]
    exact ⟨trivial, _, rfl, s, Sub.refl _, by simp [go_sem, hC], rfl⟩
  · simp only [if_true] at hE
    refine W_ifs false (by simp [go_sem]) (fun h => by cases h) (fun _ => W_skip ?_)
    simp only [go_sem]
    refine W_seq (W_reg ?_)
    simp [go_sem]
    refine Pure.use (listParts_c n l hs hn (hfn rfl) ht) ?_
    generalize partsP l = ps at *
    simp [go_sem]
    refine W_seq (W_seq_k fun K hK => W_reg ?_)
    have key : ∀ E' (t : Bool), Has E' [(27, Bo t), (0, LF l), (1, LI nos), (2, I ver), (8, .li none (lpE ps))] → E'.ds = [] → t = (decide (nos.length < ps.length) || !(numsOk nos ver)) → K E' s := fun E' t h1 h2 ht => hK _ _ (W_keep _ h1 (by
      rw [h2]
      rw [← ht] at hE
      refine W_ifs t (by simp [go_sem]) (fun h => W_seq (W_reg ?_)) (fun h => W_skip ?_)
      · rw [h] at hE
        simp only [if_true] at hE
        rw [hE] at hC ⊢
        simp at hC
        simp [go_sem]
        refine W_ret ?_
        simp only [go_sem]
        exact ⟨trivial, _, rfl, s, Sub.refl _, by simp [go_sem, hC], rfl⟩
      · rw [h] at hE ht
        simp only [Bool.false_eq_true, if_false] at hE
        rw [hE] at hC ⊢
        simp only [if_true] at hC
        have hpn : ps.length ≤ nos.length := by
          have := ht.symm
          simp at this
          omega
        simp only [go_sem]
        refine W_seq (W_reg ?_)
        simp [go_sem, intsE_length]
        refine WL_makeSlice (n := nos.length) (k := .i64) (by simp [go_sem]) (by simp [go_sem]) tel_22 zpage_eq (by simp [go_sem, zpage]) (by simp [go_sem]) (by simp [go_sem]; omega) (by unfold maxLen; omega) (by simp) fun b hb1 hb2 => WL_run _ _ _ ?_
        have hR0 : RowIn s.rows ((b, (tsz Tryz.prog 89, List.replicate nos.length zpage)) :: s.rows) (.rs b nos.length) 10 (rgE nos.length fun i => mkPg 0 0 0 0 (if i < 0 then frP ps i else .v (.slice none 0 0))) := by
          have he : List.replicate nos.length zpage = rgE nos.length fun i => mkPg 0 0 0 0 (if i < 0 then frP ps i else .v (.slice none 0 0)) := by
            refine List.ext_getElem? fun i => ?_
            by_cases h : i < nos.length
            · rw [rgE_get _ _ i h, List.getElem?_replicate, if_pos h]; simp [mkPg, zpage]
            · rw [List.getElem?_eq_none (by simp; omega), List.getElem?_eq_none (by rw [rgE_len]; omega)]
          exact ⟨.inr (.inr ⟨b, by rw [rgE_len], by rw [← he, tsz_89]; simp [VS.look]⟩), fun k x hk => lookCons hb1 hk, fun b' m hb' => by injection hb' with e1 e2; subst e1; exact hb1⟩
        refine (fun (h : ∀ R1 : VS.Rows, RowIn s.rows R1 (.rs b nos.length) 10 (rgE nos.length fun i => mkPg 0 0 0 0 (if i < 0 then frP ps i else .v (.slice none 0 0))) → run Tryz.prog ⟨48, none⟩ _ _ { s with rows := R1 } _) => h _ hR0) ?_
        clear hR0
        intro R1 hR0
        simp [go_sem]
        refine W_seq_k fun K2 hK2 => W_seq (W_reg ?_)
        simp [go_sem, lpE_length]
        refine W_range ps.length (fun k L s' => ∃ R', L = [(31, .li none (lpE ps)), (1, LI nos), (2, I ver), (9, .rs b nos.length)] ∧ s' = { s with rows := R' } ∧ RowIn s.rows R' (.rs b nos.length) 10 (rgE nos.length fun i => mkPg 0 0 0 0 (if i < k then frP ps i else .v (.slice none 0 0)))) (ds := [])
          (l0 := [(31, .li none (lpE ps)), (1, LI nos), (2, I ver), (9, .rs b nos.length)]) (by omega) (by decide) ⟨R1, rfl, rfl, hR0⟩ (by simp [go_sem]) rfl (by rintro k _ _ ⟨_, rfl, _⟩; simp [notIn]) ?_ ?_
        · rintro k _ s1 hk ⟨R', rfl, rfl, hR1⟩
          have hrow := (RowIn.rs_row hR1).1
          have hbn := hR1.new _ _ rfl
          have hkn : k < nos.length := by omega
          have hget := rgE_get nos.length (fun i => mkPg 0 0 0 0 (if i < k then frP ps i else .v (.slice none 0 0))) k hkn
          have hfk : frP ps k = LF ps[k] := by simp [frP, hk]
          have hset := rgE_set nos.length (fun i => mkPg 0 0 0 0 (if i < k then frP ps i else .v (.slice none 0 0))) (fun i => mkPg 0 0 0 0 (if i < k + 1 then frP ps i else .v (.slice none 0 0))) k (mkPg 0 0 0 0 (LF ps[k])) hkn (by simp [hfk]) (fun i hi => by
            by_cases h1 : i < k
            · simp [h1, show i < k + 1 by omega]
            · simp [h1, show ¬ i < k + 1 by omega])
          simp only [Nat.lt_irrefl, if_false] at hget
          generalize hG : (rgE nos.length fun i => mkPg 0 0 0 0 (if i < k then frP ps i else .v (.slice none 0 0))) = G at *
          refine W_seq (W_reg ?_)
          simp [go_sem, lpE_get, hk]
          refine W_reg ?_
          have hset' : G.set k [I 0, I 0, I 0, I 0, I 0, Bo false, .v (.slice none 0 0), I 0, .v (.string ⟨#[]⟩), LF ps[k]] = _ := hset
          simp [go_sem, hrow, hkn, hget, mkPg]
          rw [hset']
          refine ⟨_, ⟨rfl, ⟨.inr (.inr ⟨b, by rw [rgE_len], by rw [look_putAt, if_pos rfl, hrow]; rfl⟩), fun q x hq => ?_, fun b' m hb' => by injection hb' with e1 e2; subst e1; exact hbn⟩⟩, by simp [go_sem]⟩
          have : q ≠ b := fun e => by subst e; rw [hbn] at hq; cases hq
          rw [look_putAt, if_neg this]
          exact hR1.old q x hq
        · rintro _ s1 x ⟨R', rfl, rfl, hR1⟩
          have he : (rgE nos.length fun i => mkPg 0 0 0 0 (if i < ps.length then frP ps i else .v (.slice none 0 0))) = rgE nos.length (chF nos 4 ver (frP ps) 0) := rgE_congr _ _ _ fun i hi => by
            simp only [chF, Nat.not_lt_zero, if_false]
            split
            · rfl
            · rename_i h1; simp [frP, List.getElem?_eq_none (show ps.length ≤ i by omega)]
          rw [he] at hR1
          simp only [go_sem]
          refine hK2 _ _ ?_
          refine W_seq (W_reg ?_)
          simp [go_sem]
          refine (chained_c b nos.length nos 4 ver (frP ps) (frP_one ps) { s with rows := R' } rfl hl hR1).use (fun c s2 hc => ?_) (fun _ _ h => h.elim)
          obtain ⟨rfl, R2, rfl, hR2⟩ := hc
          simp [go_sem]
          refine W_freeze 6 10 _ s.rows (by simpa [go_sem] using hR2) (rgE_one _ _ fun i => ?_) ?_
          · unfold chF; split <;> exact mkPg_one _ _ _ _ _ (frP_one _ _)
          refine W_ret ?_
          simp only [go_sem]
          exact ⟨trivial, _, rfl, s, Sub.refl _, by simp [go_sem, hC], rfl⟩))
    by_cases h1 : nos.length < ps.length
    · simp [go_sem, intsE_length, lpE_length, h1]
      exact key _ true (by simp [go_sem]) (by simp [go_sem]) (by simp [h1])
    · simp [go_sem, intsE_length, lpE_length, h1]
      refine Pure.use (numbers_c nos ver hl hnd) ?_
      simp [go_sem]
      exact key _ (!(numsOk nos ver)) (by simp [go_sem]) (by simp [go_sem]) (by simp [h1])
end Go.Proofs.YtpmknffollpnaaaGreat
namespace Go.Proofs.YtpmknffollpnaaaGreat
open Go Go.VS
def zspace : List C := [.v (.slice none 0 0), .v (.slice none 0 0), .v (.slice none 0 0), .v (.slice none 0 0), I 0, I 0]
structure Sp where
  pg : List (List C)
  free : List Int
  fresh : List Int
  gone : List Int
  ver : Int
  tree : Int
def spC (sp : Sp) : List C := [.li none sp.pg, LI sp.free, LI sp.fresh, LI sp.gone, I sp.ver, I sp.tree]
/-- The variables of End. -/
structure EndO (O : List (Nat × List C)) (sp : Sp) (b3 b6 b7 b8 b9 : Nat) (e : Int) : Prop where
  v3 : VS.look O b3 = some (spC sp)
  v6 : VS.look O b6 = some zspace
  v7 : VS.look O b7 = some [I 0]
  v8 : VS.look O b8 = some [.v (.slice none 0 0)]
  v9 : VS.look O b9 = some [I e]
/-- They are five, and none was there before. -/
structure EndD (s : St) (b3 b6 b7 b8 b9 : Nat) : Prop where
  n3 : VS.look s.objs b3 = none
  n6 : VS.look s.objs b6 = none
  n7 : VS.look s.objs b7 = none
  n8 : VS.look s.objs b8 = none
  n9 : VS.look s.objs b9 = none
  d36 : b3 ≠ b6
  d37 : b3 ≠ b7
  d38 : b3 ≠ b8
  d39 : b3 ≠ b9
  d67 : b6 ≠ b7
  d68 : b6 ≠ b8
  d69 : b6 ≠ b9
  d78 : b7 ≠ b8
  d79 : b7 ≠ b9
  d89 : b8 ≠ b9
theorem End1_c (b6 b7 b8 : Nat) (s : St) (h6 : VS.look s.objs b6 = some zspace) (h7 : VS.look s.objs b7 = some [I 0]) (h8 : VS.look s.objs b8 = some [.v (.slice none 0 0)]) (d67 : b6 ≠ b7) (d68 : b6 ≠ b8) (d78 : b7 ≠ b8) :
    CallC Tryz.prog 44 [ptr b6 0, ptr b7 0, ptr b8 0] s (fun _ s' => s' = { s with objs := putAt (putAt (putAt s.objs b6 zspace) b7 [I 0]) b8 [.v (.slice none 0 0)] }) (fun _ _ => False) := by
  refine CallC_of Tryz.func44 rfl (by rfl) Tryz.ntmps44 (by simp) ?_
  refine W_reg ?_
  have h7' : VS.look (putAt s.objs b6 zspace) b7 = some [I 0] := by rw [look_putAt, if_neg d67.symm]; exact h7
  have h8' : VS.look (putAt (putAt s.objs b6 zspace) b7 [I 0]) b8 = some [.v (.slice none 0 0)] := by rw [look_putAt, if_neg d78.symm, look_putAt, if_neg d68.symm]; exact h8
  simp only [zspace] at h6 h7' h8'
  simp [go_sem, h6, h7', h8', zspace]
  exact Sub.refl _
def spZ : C := .agg [LI [], LI [], LI [], LI [], I 0, I 0]
/-- What End hands back with an error. -/
def endErr (e : Int) : C := .tup [.agg [.li none [], .li none [], .li none [], .li none [], I 0, I 0], I 0, LF [], I e]
def endCaps (b6 b7 b8 : Nat) : Array Value := #[.pointer (some ⟨b6, 0, none⟩), .pointer (some ⟨b7, 0, none⟩), .pointer (some ⟨b8, 0, none⟩)]
theorem putAt3_cons {O : List (Nat × List C)} {b6 b7 b8 b5 : Nat} {x y z c : List C} (h6 : b5 ≠ b6) (h7 : b5 ≠ b7) (h8 : b5 ≠ b8) : putAt (putAt (putAt ((b5, c) :: O) b6 x) b7 y) b8 z = (b5, c) :: putAt (putAt (putAt O b6 x) b7 y) b8 z := by
  rw [putAt_cons _ _ _ _ _ h6, putAt_cons _ _ _ _ _ h7, putAt_cons _ _ _ _ _ h8]
theorem end_err {s s' : St} {sp : Sp} {b3 b6 b7 b8 b9 : Nat} {e9 e : Int} {f : Nat → C} {K : KR} {Kp : KP} (hO : EndO s'.objs sp b3 b6 b7 b8 b9 e9) (hD : EndD s b3 b6 b7 b8 b9) (hsub : Sub s' s) (hf6 : f 6 = ptr b6 0) (hf7 : f 7 = ptr b7 0) (hf8 : f 8 = ptr b8 0) (hf9 : f 9 = ptr b9 0) (hK : K (endErr e) s) :
    leaveQ Tryz.prog [.cell 6 25, .cell 7 3, .cell 8 26, .cell 9 30] K Kp f [dCaught b9 44 (endCaps b6 b7 b8)] (.panicking (fail e)) s' := by
  obtain ⟨v3, v6, v7, v8, v9⟩ := hO
  have e6 : VS.look (putAt (putAt (putAt s'.objs b6 zspace) b7 [I 0]) b8 [C.v (.slice none 0 0)]) b6 = some zspace := by rw [look_putAt, if_neg hD.d68, look_putAt, if_neg hD.d67, look_putAt, if_pos rfl, v6]; rfl
  have e7 : VS.look (putAt (putAt (putAt s'.objs b6 zspace) b7 [I 0]) b8 [C.v (.slice none 0 0)]) b7 = some [I 0] := by rw [look_putAt, if_neg hD.d78, look_putAt, if_pos rfl, look_putAt, if_neg hD.d67.symm, v7]; rfl
  have e8 : VS.look (putAt (putAt (putAt s'.objs b6 zspace) b7 [I 0]) b8 [C.v (.slice none 0 0)]) b8 = some [.v (.slice none 0 0)] := by rw [look_putAt, if_pos rfl, look_putAt, if_neg hD.d78.symm, look_putAt, if_neg hD.d68.symm, v8]; rfl
  have e9' : VS.look (putAt (putAt (putAt s'.objs b6 zspace) b7 [I 0]) b8 [C.v (.slice none 0 0)]) b9 = some [I e9] := by rw [look_putAt, if_neg hD.d89.symm, look_putAt, if_neg hD.d79.symm, look_putAt, if_neg hD.d69.symm, v9]
  have hnb : ∀ b5, VS.look s'.objs b5 = none → b5 ≠ b6 ∧ b5 ≠ b7 ∧ b5 ≠ b8 := fun b5 h => ⟨fun e => (by subst e; rw [v6] at h; cases h), fun e => (by subst e; rw [v7] at h; cases h), fun e => (by subst e; rw [v8] at h; cases h)⟩
  have heff0 : ∀ b5, VS.look s'.objs b5 = none → VS.look (putAt (putAt (putAt s'.objs b6 zspace) b7 [I 0]) b8 [C.v (.slice none 0 0)]) b5 = none := fun b5 h => by
    obtain ⟨n6, n7, n8⟩ := hnb b5 h
    rw [look_putAt, if_neg n8, look_putAt, if_neg n7, look_putAt, if_neg n6]; exact h
  refine leave_pan (fun O => putAt (putAt (putAt O b6 zspace) b7 [I 0]) b8 [.v (.slice none 0 0)]) (fun s1 h1 => End1_c b6 b7 b8 s1 (h1 _ _ v6) (h1 _ _ v7) (h1 _ _ v8) hD.d67 hD.d68 hD.d78) (fun b c hO q x hq => ?_) (fun b c hO => ?_) (I e9) e9' ?_
  · obtain ⟨n6, n7, n8⟩ := hnb b hO
    show VS.look (putAt (putAt (putAt ((b, c) :: s'.objs) b6 _) b7 _) b8 _) q = some x
    rw [putAt3_cons n6 n7 n8]
    exact lookCons (heff0 b hO) hq
  · obtain ⟨n6, n7, n8⟩ := hnb b hO
    show VS.look (putAt (putAt (putAt ((b, c) :: s'.objs) b6 _) b7 _) b8 _) b = some c
    rw [putAt3_cons n6 n7 n8]
    simp [VS.look]
  · have g6 : VS.look (putAt (putAt (putAt (putAt s'.objs b6 zspace) b7 [I 0]) b8 [C.v (.slice none 0 0)]) b9 [I e]) b6 = some zspace := by rw [look_putAt, if_neg hD.d69]; exact e6
    have g7 : VS.look (putAt (putAt (putAt (putAt s'.objs b6 zspace) b7 [I 0]) b8 [C.v (.slice none 0 0)]) b9 [I e]) b7 = some [I 0] := by rw [look_putAt, if_neg hD.d79]; exact e7
    have g8 : VS.look (putAt (putAt (putAt (putAt s'.objs b6 zspace) b7 [I 0]) b8 [C.v (.slice none 0 0)]) b9 [I e]) b8 = some [.v (.slice none 0 0)] := by rw [look_putAt, if_neg hD.d89]; exact e8
    have g9 : VS.look (putAt (putAt (putAt (putAt s'.objs b6 zspace) b7 [I 0]) b8 [C.v (.slice none 0 0)]) b9 [I e]) b9 = some [I e] := by rw [look_putAt, if_pos rfl, e9']; rfl
    have hst : strip (.tup [.agg zspace, I 0, .v (.slice none 0 0), I e]) = endErr e := by simp [zspace, endErr, frsE]
    refine ⟨.tup [.agg zspace, I 0, .v (.slice none 0 0), I e], ?_, s, ⟨fun k x hk => ?_, hsub.rows, hsub.toks, hsub.maps⟩, by rw [hst]; exact hK⟩
    · generalize putAt (putAt (putAt (putAt s'.objs b6 zspace) b7 [I 0]) b8 [C.v (.slice none 0 0)]) b9 [I e] = O at g6 g7 g8 g9 ⊢
      simp only [zspace] at g6
      simp [go_sem, hf6, hf7, hf8, hf9, g6, g7, g8, g9, zspace]
    · have k6 : k ≠ b6 := fun e => by subst e; rw [hD.n6] at hk; cases hk
      have k7 : k ≠ b7 := fun e => by subst e; rw [hD.n7] at hk; cases hk
      have k8 : k ≠ b8 := fun e => by subst e; rw [hD.n8] at hk; cases hk
      have k9 : k ≠ b9 := fun e => by subst e; rw [hD.n9] at hk; cases hk
      show VS.look (putAt (putAt (putAt (putAt s'.objs b6 _) b7 _) b8 _) b9 _) k = some x
      rw [look_putAt, if_neg k9, look_putAt, if_neg k8, look_putAt, if_neg k7, look_putAt, if_neg k6]
      exact hsub.objs _ _ hk
end Go.Proofs.YtpmknffollpnaaaGreat
namespace Go.Proofs.YtpmknffollpnaaaGreat
open Go Go.VS
def takeLoop : Nat → List (List C) → List Fr → List Int → Option (List (List C) × List Fr × List Int)
  | 0, _, _, _ => none
  | f + 1, p, l, tk =>
    if (partsP l).length ≤ tk.length then some (p, l, tk)
    else if leastB l then takeLoop f p (leastL l) (tk ++ [leastN l])
    else if p.length < 4096 then takeLoop f (p ++ [zpage]) l (tk ++ [(p.length : Int)])
    else none
def clearAt (p : List (List C)) (free : List Int) : List (List C) := free.foldl (fun P x => P.set x.toNat zpage) p
def laidAt (p : List (List C)) (tk : List Int) (es : List (List C)) (k : Nat) : List (List C) := (List.range k).foldl (fun P i => P.set (tk.getD i 0).toNat (es.getD i [])) p
/-- What the list keeps while pages are taken: nothing twice, nothing that is not a page. -/
structure OKL (l : List Fr) (P : Nat) (tk : List Int) : Prop where
  v : l.Pairwise fun x y => x.v < y.v
  ok : ∀ f ∈ l, okF f 4096
  z : ∀ f ∈ l, f.v = 0 → ∀ n ∈ f.p, n < (P : Int)
  t : ∀ n ∈ tk, 2 ≤ n ∧ n < (P : Int)
  nd : tk.Nodup
  dj : ∀ f ∈ l, f.v = 0 → ∀ n ∈ f.p, n ∉ tk
theorem OKL.ne {l : List Fr} {P : Nat} {tk : List Int} (h : OKL l P tk) : ∀ f ∈ l, f.p ≠ [] := fun f hf => (h.ok f hf).2.2.1
theorem OKL.freed {l : List Fr} {P : Nat} {tk : List Int} (h : OKL l P tk) : freedB l = true := by
  unfold freedB
  rw [List.all_eq_true]
  intro i hi
  rw [(bad_iff l 4096).2 ⟨h.v, h.ok⟩ i (by simpa using hi)]
  rfl
theorem OKL.head {f : Fr} {l : List Fr} {P : Nat} {tk : List Int} (h : OKL (f :: l) P tk) (hf : f.v = 0) : ∀ g ∈ l, g.v ≠ 0 := fun g hg e => by
  have := (List.pairwise_cons.1 h.v).1 g hg
  omega
/-- The least page that is free now, taken. -/
theorem OKL.least {l : List Fr} {P : Nat} {tk : List Int} (h : OKL l P tk) (hb : leastB l = true) : OKL (leastL l) P (tk ++ [leastN l]) := by
  cases l with
  | nil => cases hb
  | cons f l =>
    obtain ⟨v, p⟩ := f
    have hv0 : v = 0 := by simpa [leastB] using hb
    subst hv0
    have hok := h.ok _ (List.mem_cons_self ..)
    have hpw := List.pairwise_cons.1 h.v
    cases p with
    | nil => exact absurd rfl hok.2.2.1
    | cons x ps =>
      have hx := hok.2.2.2.2 x (by simp)
      have hxP := h.z _ (List.mem_cons_self ..) rfl x (by simp)
      have hxt := h.dj _ (List.mem_cons_self ..) rfl x (by simp)
      have hlt := List.pairwise_cons.1 hok.2.2.2.1
      have hh := h.head rfl
      have htk : ∀ n ∈ tk ++ [x], 2 ≤ n ∧ n < (P : Int) := fun n hn => by
        rcases List.mem_append.1 hn with hn | hn
        · exact h.t n hn
        · simp at hn; subst hn; exact ⟨hx.1, hxP⟩
      have hnd : (tk ++ [x]).Nodup := by
        rw [List.nodup_append]
        refine ⟨h.nd, by simp, fun a ha b hb => ?_⟩
        simp at hb; subst hb
        exact fun e => hxt (e ▸ ha)
      simp only [leastL, leastN]
      split
      · exact ⟨hpw.2, fun g hg => h.ok g (by simp [hg]), fun g hg e => absurd e (hh g hg), htk, hnd, fun g hg e => absurd e (hh g hg)⟩
      · rename_i hps
        refine ⟨List.pairwise_cons.2 ⟨hpw.1, hpw.2⟩, fun g hg => ?_, fun g hg e n hn => ?_, htk, hnd, fun g hg e n hn => ?_⟩
        · rcases List.mem_cons.1 hg with rfl | hg
          · exact ⟨hok.1, hok.2.1, hps, hlt.2, fun n hn => hok.2.2.2.2 n (by simp [hn])⟩
          · exact h.ok g (by simp [hg])
        · rcases List.mem_cons.1 hg with rfl | hg
          · exact h.z _ (List.mem_cons_self ..) rfl n (List.mem_cons_of_mem _ hn)
          · exact absurd e (hh g hg)
        · rcases List.mem_cons.1 hg with rfl | hg
          · intro hm
            rcases List.mem_append.1 hm with hm | hm
            · exact h.dj _ (List.mem_cons_self ..) rfl n (List.mem_cons_of_mem _ hn) hm
            · simp at hm; subst hm
              have := hlt.1 _ hn
              omega
          · exact absurd e (hh g hg)
/-- A page more. -/
theorem OKL.more {l : List Fr} {P : Nat} {tk : List Int} (h : OKL l P tk) (hb : leastB l = false) (h2 : 2 ≤ P) : OKL l (P + 1) (tk ++ [(P : Int)]) := by
  have hz : ∀ f ∈ l, f.v ≠ 0 := by
    cases l with
    | nil => simp
    | cons f l =>
      have hf : f.v ≠ 0 := by simpa [leastB] using hb
      intro g hg
      rcases List.mem_cons.1 hg with rfl | hg
      · exact hf
      · have := (List.pairwise_cons.1 h.v).1 g hg
        have := (h.ok f (by simp)).1
        omega
  refine ⟨h.v, h.ok, fun f hf e => absurd e (hz f hf), fun n hn => ?_, ?_, fun f hf e => absurd e (hz f hf)⟩
  · rcases List.mem_append.1 hn with hn | hn
    · have := h.t n hn; omega
    · simp at hn; omega
  · rw [List.nodup_append]
    refine ⟨h.nd, by simp, fun a ha b hb => ?_⟩
    simp at hb; subst hb
    have := (h.t a ha).2
    omega
theorem leastL_nums {l : List Fr} (hne : ∀ f ∈ l, f.p ≠ []) (hb : leastB l = true) : (nums (leastL l)).length + 1 = (nums l).length := by
  cases l with
  | nil => cases hb
  | cons f l =>
    obtain ⟨v, p⟩ := f
    cases p with
    | nil => exact absurd rfl (hne _ (List.mem_cons_self ..))
    | cons x ps =>
      simp only [leastL]
      split
      · rename_i h; subst h; simp [nums_cons]
      · simp [nums_cons]
theorem leastL_sz {n : Nat} {l : List Fr} (h : Sz n l) : Sz n (leastL l) := by
  cases l with
  | nil => exact h
  | cons f l =>
    obtain ⟨v, p⟩ := f
    have hl := h.len
    cases p with
    | nil => exact h
    | cons x ps =>
      have hp := h.p _ (List.mem_cons_self ..)
      simp only [leastL]
      split
      · exact ⟨by simp at hl; omega, fun g hg => h.p g (by simp [hg])⟩
      · refine ⟨by simpa using hl, fun g hg => ?_⟩
        rcases List.mem_cons.1 hg with rfl | hg
        · simp at hp; show ps.length ≤ n; omega
        · exact h.p g (by simp [hg])
theorem partsF_le (n : Nat) : ∀ (m : Nat) (l : List Fr), (partsF m l).length ≤ m := by
  intro m
  induction m with
  | zero => intro l; simp [partsF]
  | succ m ih =>
    intro l
    unfold partsF
    split
    · simp
    · have := ih (cutP 490 l).2
      simp; omega
theorem partsP_le (l : List Fr) : (partsP l).length ≤ (nums l).length := partsF_le 0 _ l
/-- The tail is a number of pages. -/
theorem trim_range : ∀ (q : List Int) (t : Int), (∀ n ∈ q, 2 ≤ n) → 2 ≤ t → 2 ≤ trim q t ∧ trim q t ≤ t := by
  intro q
  induction q with
  | nil => intro t _ h; exact ⟨by simpa [trim] using h, by simp [trim]⟩
  | cons x q ih =>
    intro t hq h
    unfold trim
    split
    · rename_i hx
      have hx2 := hq x (by simp)
      have := ih (t - 1) (fun n hn => hq n (by simp [hn])) (by omega)
      omega
    · omega
theorem tail_range {l : List Fr} {pages : Int} (h : Good l pages) (h2 : 2 ≤ pages) : 2 ≤ tailP l pages ∧ tailP l pages ≤ pages := by
  unfold tailP
  split
  · omega
  · rename_i f r
    split
    · exact trim_range _ _ (fun n hn => ((h.ok f (by simp)).2.2.2.2 n (by simpa using hn)).1) h2
    · omega
theorem Good.okl {l : List Fr} {pages : Nat} (h : Good l pages) (hp : pages ≤ 4096) : OKL l pages [] :=
  ⟨h.v, fun f hf => ⟨(h.ok f hf).1, (h.ok f hf).2.1, (h.ok f hf).2.2.1, (h.ok f hf).2.2.2.1, fun n hn => by have := (h.ok f hf).2.2.2.2 n hn; omega⟩, fun f hf _ n hn => by have := (h.ok f hf).2.2.2.2 n hn; omega, by simp, by simp, by simp⟩
theorem keep_okl {l : List Fr} {P t : Nat} (h : OKL l P []) : OKL (keepP l t) t [] := by
  cases l with
  | nil => exact ⟨by simp [keepP], by simp [keepP], by simp [keepP], by simp, by simp, by simp [keepP]⟩
  | cons f l =>
    have hpw := List.pairwise_cons.1 h.v
    have hok := h.ok f (by simp)
    simp only [keepP]
    split
    · rename_i h0
      have hh := h.head h0
      split
      · exact ⟨hpw.2, fun g hg => h.ok g (by simp [hg]), fun g hg e => absurd e (hh g hg), by simp, by simp, by simp⟩
      · rename_i hne
        refine ⟨List.pairwise_cons.2 ⟨fun g hg => ?_, hpw.2⟩, fun g hg => ?_, fun g hg e n hn => ?_, by simp, by simp, by simp⟩
        · have := hpw.1 g hg; show 0 < g.v; omega
        · rcases List.mem_cons.1 hg with rfl | hg
          · exact ⟨by simp, by simp, hne, hok.2.2.2.1.filter _, fun n hn => hok.2.2.2.2 n (List.mem_filter.1 hn).1⟩
          · exact h.ok g (by simp [hg])
        · rcases List.mem_cons.1 hg with rfl | hg
          · have := (List.mem_filter.1 hn).2; simp at this; omega
          · exact absurd e (hh g hg)
    · rename_i h0
      refine ⟨h.v, h.ok, fun g hg e => ?_, by simp, by simp, by simp⟩
      rcases List.mem_cons.1 hg with rfl | hg
      · exact absurd e h0
      · have := hpw.1 g hg
        have := hok.1
        omega
theorem keep_sz {n : Nat} {l : List Fr} (h : Sz n l) (t : Int) : Sz n (keepP l t) := by
  cases l with
  | nil => exact h
  | cons f l =>
    have hl := h.len
    have hp := h.p f (by simp)
    simp only [keepP]
    split
    · split
      · exact ⟨by simp at hl; omega, fun g hg => h.p g (by simp [hg])⟩
      · refine ⟨by simpa using hl, fun g hg => ?_⟩
        rcases List.mem_cons.1 hg with rfl | hg
        · have := List.length_filter_le (fun n => !decide (t ≤ n)) f.p
          show (f.p.filter _).length ≤ n
          omega
        · exact h.p g (by simp [hg])
    · exact h
theorem keep_nums (l : List Fr) (t : Int) : (nums (keepP l t)).length ≤ (nums l).length := by
  cases l with
  | nil => exact Nat.le_refl _
  | cons f l =>
    simp only [keepP]
    split
    · split
      · rw [nums_cons]; simp
      · rw [nums_cons, nums_cons]
        have := List.length_filter_le (fun n => !decide (t ≤ n)) f.p
        simp only [List.length_append]
        omega
    · exact Nat.le_refl _
theorem putF_nums (l : List Fr) (v : Int) (ps : List Int) : (nums (putF l v ps)).length = (nums l).length + ps.length := by
  unfold putF
  split
  · rename_i h; subst h; simp
  · rw [(nums_merge _ _).length_eq, List.length_append, nums_cons, nums_nil]; simp
theorem clearAt_len (p : List (List C)) (free : List Int) : (clearAt p free).length = p.length := by
  unfold clearAt
  induction free generalizing p with
  | nil => rfl
  | cons x l ih => rw [List.foldl_cons, ih]; simp
theorem laidAt_len (p : List (List C)) (tk : List Int) (es : List (List C)) (k : Nat) : (laidAt p tk es k).length = p.length := by
  unfold laidAt
  induction k with
  | zero => rfl
  | succ k ih => rw [List.range_succ, List.foldl_append, List.foldl_cons, List.foldl_nil, List.length_set]; exact ih
theorem laidAt_succ (p : List (List C)) (tk : List Int) (es : List (List C)) (k : Nat) : laidAt p tk es (k + 1) = (laidAt p tk es k).set (tk.getD k 0).toNat (es.getD k []) := by
  unfold laidAt
  rw [List.range_succ, List.foldl_append]
  rfl
theorem set10 : ∀ {e : List C}, e.length = 10 → ∀ (a0 a1 a2 a3 a4 a5 a6 a7 a8 a9 : C), (((((((((e.set 0 a0).set 1 a1).set 2 a2).set 3 a3).set 4 a4).set 5 a5).set 6 a6).set 7 a7).set 8 a8).set 9 a9 = [a0, a1, a2, a3, a4, a5, a6, a7, a8, a9]
  | [_, _, _, _, _, _, _, _, _, _], _, _, _, _, _, _, _, _, _, _, _ => rfl
theorem zpage_ok : zpage.length = 10 ∧ zpage.all VS.one = true := ⟨rfl, rfl⟩
theorem pgE_set {p : List (List C)} (h : PgE p) (i : Nat) {x : List C} (hx : x.length = 10 ∧ x.all VS.one = true) : PgE (p.set i x) := fun e he => by
  rcases List.mem_or_eq_of_mem_set he with h1 | rfl
  · exact h e h1
  · exact hx
theorem clearAt_pg {p : List (List C)} (h : PgE p) (free : List Int) : PgE (clearAt p free) := by
  unfold clearAt
  induction free generalizing p with
  | nil => exact h
  | cons x l ih => exact ih (pgE_set h _ zpage_ok)
theorem laidAt_pg {p : List (List C)} (h : PgE p) (tk : List Int) (es : List (List C)) (k : Nat) (hes : ∀ i, i < k → (es.getD i []).length = 10 ∧ (es.getD i []).all VS.one = true) : PgE (laidAt p tk es k) := by
  induction k with
  | zero => exact h
  | succ k ih =>
    rw [laidAt_succ]
    exact pgE_set (ih fun i hi => hes i (by omega)) _ (hes k (Nat.lt_succ_self _))
end Go.Proofs.YtpmknffollpnaaaGreat
namespace Go.Proofs.YtpmknffollpnaaaGreat
open Go Go.VS
def endOk (sp : Sp) (r : List (List C) × List Fr × List Int) : C :=
  .tup [.agg [.li none (laidAt r.1 r.2.2 (listPagesC r.2.1 r.2.2 sp.ver) r.2.2.length), LI [], LI [], LI [], I sp.ver, I sp.tree], I (r.2.2.headD 0), LF r.2.1, I 0]
def endP (sp : Sp) (rest : List Fr) (shrink : Bool) : C :=
  if inV sp.ver && (decide (2 ≤ sp.pg.length) && decide (sp.pg.length ≤ 4096)) then
    if validB rest sp.pg.length && (incr sp.free sp.pg.length && incr sp.gone sp.pg.length) then
      let l2 := putF (putF rest (sp.ver - 1) sp.gone) 0 sp.free
      if validB l2 sp.pg.length then
        let p1 := clearAt sp.pg sp.free
        let t := if shrink then tailP l2 sp.pg.length else sp.pg.length
        let p2 := if shrink then p1.take t.toNat else p1
        let l3 := if shrink then keepP l2 t else l2
        match takeLoop ((nums l3).length + 1) p2 l3 [] with
        | some r => endOk sp r
        | none => endErr 7
      else endErr 2
    else endErr 2
  else endErr 1
theorem Sz.putF {n m : Nat} {l : List Fr} {v : Int} {ps : List Int} (h : Sz n l) (hm : ps.length ≤ m) (hm1 : 1 ≤ m) : Sz (n + m) (putF l v ps) := by
  unfold Go.Proofs.YtpmknffollpnaaaGreat.putF
  split
  · exact ⟨by have := h.len; omega, fun f hf => by have := h.p f hf; omega⟩
  · exact h.merge ⟨by simpa using hm1, fun f hf => by simp at hf; subst hf; exact hm⟩
theorem rowBase {R0 R1 R : VS.Rows} {c : C} {z : Nat} {es : List (List C)} (h : RowIn R1 R c z es) (hold : ∀ k x, VS.look R0 k = some x → VS.look R1 k = some x) : RowIn R0 R c z es :=
  ⟨h.row, fun k x hk => h.old k x (hold k x hk), fun b n hb => by
    have h1 := h.new b n hb
    cases hq : VS.look R0 b with
    | none => rfl
    | some x => rw [hold b x hq] at h1; cases h1⟩
/-- Memory in the middle of End: its variables, the account in one of them, and its pages, a row. -/
structure EndS (s s' : St) (sp : Sp) (b3 b6 b7 b8 b9 b11 bp : Nat) (P : List (List C)) (l : List Fr) : Prop where
  o : EndO s'.objs sp b3 b6 b7 b8 b9 0
  v11 : VS.look s'.objs b11 = some [.rs bp P.length, LF l]
  n11 : VS.look s.objs b11 = none
  d3 : b3 ≠ b11
  d6 : b6 ≠ b11
  d7 : b7 ≠ b11
  d8 : b8 ≠ b11
  d9 : b9 ≠ b11
  sub : Sub s' s
  row : RowIn s.rows s'.rows (.rs bp P.length) 10 P
theorem EndO.put {O : List (Nat × List C)} {sp : Sp} {b3 b6 b7 b8 b9 b : Nat} {e : Int} (h : EndO O sp b3 b6 b7 b8 b9 e) (d3 : b3 ≠ b) (d6 : b6 ≠ b) (d7 : b7 ≠ b) (d8 : b8 ≠ b) (d9 : b9 ≠ b) (cs : List C) : EndO (putAt O b cs) sp b3 b6 b7 b8 b9 e :=
  ⟨by rw [look_putAt, if_neg d3]; exact h.v3, by rw [look_putAt, if_neg d6]; exact h.v6, by rw [look_putAt, if_neg d7]; exact h.v7, by rw [look_putAt, if_neg d8]; exact h.v8, by rw [look_putAt, if_neg d9]; exact h.v9⟩
theorem EndS.upd {s s' : St} {sp : Sp} {b3 b6 b7 b8 b9 b11 bp : Nat} {P : List (List C)} {l : List Fr} (h : EndS s s' sp b3 b6 b7 b8 b9 b11 bp P l) {bp' : Nat} {P' : List (List C)} (l' : List Fr) {R' : VS.Rows} (hR : RowIn s.rows R' (.rs bp' P'.length) 10 P') :
    EndS s { s' with objs := putAt s'.objs b11 [.rs bp' P'.length, LF l'], rows := R' } sp b3 b6 b7 b8 b9 b11 bp' P' l' :=
  ⟨h.o.put h.d3 h.d6 h.d7 h.d8 h.d9 _, by show VS.look (putAt s'.objs b11 _) b11 = _; rw [look_putAt, if_pos rfl, h.v11]; rfl, h.n11, h.d3, h.d6, h.d7, h.d8, h.d9,
    ⟨fun k x hk => by
      have : k ≠ b11 := fun e => by subst e; rw [h.n11] at hk; cases hk
      show VS.look (putAt s'.objs b11 _) k = some x
      rw [look_putAt, if_neg this]
      exact h.sub.objs _ _ hk, hR.old, h.sub.toks, h.sub.maps⟩, hR⟩
theorem EndS.updL {s s' : St} {sp : Sp} {b3 b6 b7 b8 b9 b11 bp : Nat} {P : List (List C)} {l : List Fr} (h : EndS s s' sp b3 b6 b7 b8 b9 b11 bp P l) (l' : List Fr) :
    EndS s { s' with objs := putAt s'.objs b11 [.rs bp P.length, LF l'] } sp b3 b6 b7 b8 b9 b11 bp P l' := h.upd l' h.row
theorem EndS.rows {s s' : St} {sp : Sp} {b3 b6 b7 b8 b9 b11 bp : Nat} {P : List (List C)} {l : List Fr} (h : EndS s s' sp b3 b6 b7 b8 b9 b11 bp P l) {R' : VS.Rows} (hR : RowIn s.rows R' (.rs bp P.length) 10 P) : EndS s { s' with rows := R' } sp b3 b6 b7 b8 b9 b11 bp P l :=
  ⟨h.o, h.v11, h.n11, h.d3, h.d6, h.d7, h.d8, h.d9, ⟨h.sub.objs, hR.old, h.sub.toks, h.sub.maps⟩, hR⟩
theorem EndS.put9 {s s' : St} {sp : Sp} {b3 b6 b7 b8 b9 b11 bp : Nat} {P : List (List C)} {l : List Fr} (h : EndS s s' sp b3 b6 b7 b8 b9 b11 bp P l) (hD : EndD s b3 b6 b7 b8 b9) : EndS s { s' with objs := putAt s'.objs b9 [I 0] } sp b3 b6 b7 b8 b9 b11 bp P l :=
  ⟨⟨by show VS.look (putAt s'.objs b9 _) _ = _; rw [look_putAt, if_neg hD.d39]; exact h.o.v3, by show VS.look (putAt s'.objs b9 _) _ = _; rw [look_putAt, if_neg hD.d69]; exact h.o.v6, by show VS.look (putAt s'.objs b9 _) _ = _; rw [look_putAt, if_neg hD.d79]; exact h.o.v7,
    by show VS.look (putAt s'.objs b9 _) _ = _; rw [look_putAt, if_neg hD.d89]; exact h.o.v8, by show VS.look (putAt s'.objs b9 _) _ = _; rw [look_putAt, if_pos rfl, h.o.v9]; rfl⟩,
    by show VS.look (putAt s'.objs b9 _) _ = _; rw [look_putAt, if_neg h.d9.symm]; exact h.v11, h.n11, h.d3, h.d6, h.d7, h.d8, h.d9, sub_put h.sub hD.n9 _, h.row⟩
theorem EndS.toks {s s' : St} {sp : Sp} {b3 b6 b7 b8 b9 b11 bp : Nat} {P : List (List C)} {l : List Fr} (h : EndS s s' sp b3 b6 b7 b8 b9 b11 bp P l) {T : List (Nat × (Nat × Nat))} (hT : ∀ k x, VS.look s.toks k = some x → VS.look T k = some x) : EndS s { s' with toks := T } sp b3 b6 b7 b8 b9 b11 bp P l :=
  ⟨h.o, h.v11, h.n11, h.d3, h.d6, h.d7, h.d8, h.d9, ⟨h.sub.objs, h.sub.rows, hT, h.sub.maps⟩, h.row⟩
theorem EndS.obj {s s' : St} {sp : Sp} {b3 b6 b7 b8 b9 b11 bp : Nat} {P : List (List C)} {l : List Fr} (h : EndS s s' sp b3 b6 b7 b8 b9 b11 bp P l) {b : Nat} (hb : VS.look s'.objs b = none) (cs : List C) : EndS s { s' with objs := (b, cs) :: s'.objs } sp b3 b6 b7 b8 b9 b11 bp P l :=
  ⟨⟨lookCons hb h.o.v3, lookCons hb h.o.v6, lookCons hb h.o.v7, lookCons hb h.o.v8, lookCons hb h.o.v9⟩, lookCons hb h.v11, h.n11, h.d3, h.d6, h.d7, h.d8, h.d9, ⟨fun k x hk => lookCons hb (h.sub.objs k x hk), h.sub.rows, h.sub.toks, h.sub.maps⟩, h.row⟩
/-- A row's element, set. -/
theorem rowSet {R0 R : VS.Rows} {b z : Nat} {es es' : List (List C)} (h : RowIn R0 R (.rs b es.length) z es) : RowIn R0 (putAt R b (z, es')) (.rs b es'.length) z es' := by
  have hbn := h.new _ _ rfl
  refine ⟨.inr (.inr ⟨b, rfl, by rw [look_putAt, if_pos rfl, (RowIn.rs_row h).1]; rfl⟩), fun q x hq => ?_, fun b' m hb' => by injection hb' with e1 e2; subst e1; exact hbn⟩
  have : q ≠ b := fun e => by subst e; rw [hbn] at hq; cases hq
  rw [look_putAt, if_neg this]
  exact h.old q x hq
set_option maxRecDepth 4000 in
theorem end_c (n m : Nat) (sp : Sp) (rest : List Fr) (shrink : Bool) (hs : Sz n rest) (hf : sp.free.length ≤ m) (hg : sp.gone.length ≤ m) (hm1 : 1 ≤ m) (hnm : n + m + m ≤ 1000000) (hpz : PgE sp.pg) (hpl : sp.pg.length ≤ 1000000) (hnum : (nums rest).length + m + m ≤ 1000000) :
    Pure Tryz.prog 15 [.agg (spC sp), LF rest, Bo shrink] (endP sp rest shrink) := by
  intro s
  refine CallC_ofD Tryz.func15 rfl (by rfl) Tryz.ntmps15 (by simp) ?_
  refine W_seq (W_reg ?_)
  simp [go_sem]
  refine WL_box (by simp [go_sem, spC]) (by simp) fun b3 hb3 => WL_run _ _ _ ?_
  simp [go_sem]
  refine WL_alloc tzero_25 (by simp) fun b6 hb6 => WL_run _ _ _ ?_
  simp [go_sem]
  refine WL_alloc tzero_3 (by simp) fun b7 hb7 => WL_run _ _ _ ?_
  simp [go_sem]
  refine WL_alloc tzero_26 (by simp) fun b8 hb8 => WL_run _ _ _ ?_
  simp [go_sem]
  refine WL_alloc tzero_30 (by simp) fun b9 hb9 => WL_run _ _ _ ?_
  simp [go_sem]
  have lk : ∀ {O : List (Nat × List C)} {q k : Nat} {y : List C}, VS.look O q = none → VS.look O k = some y → q ≠ k := fun h1 h2 e => by subst e; rw [h1] at h2; cases h2
  have nn : ∀ {O : List (Nat × List C)} {q k : Nat} {x : List C}, VS.look ((q, x) :: O) k = none → VS.look O k = none ∧ q ≠ k := fun {O q k x} h => by
    by_cases e : q = k
    · subst e; simp [VS.look] at h
    · exact ⟨by simpa [VS.look, e] using h, e⟩
  have n3 := hb3.1
  obtain ⟨n6, d36⟩ := nn hb6.1
  obtain ⟨n7', d67⟩ := nn hb7.1
  obtain ⟨n7, d37⟩ := nn n7'
  obtain ⟨n8'', d78⟩ := nn hb8.1
  obtain ⟨n8', d68⟩ := nn n8''
  obtain ⟨n8, d38⟩ := nn n8'
  obtain ⟨n9''', d89⟩ := nn hb9.1
  obtain ⟨n9'', d79⟩ := nn n9'''
  obtain ⟨n9', d69⟩ := nn n9''
  obtain ⟨n9, d39⟩ := nn n9'
  have hD : EndD s b3 b6 b7 b8 b9 := ⟨n3, n6, n7, n8, n9, d36, d37, d38, d39, d67, d68, d69, d78, d79, d89⟩
  have hEO : EndO (St.mk ((b9, [I 0]) :: (b8, [.v (.slice none 0 0)]) :: (b7, [I 0]) :: (b6, zspace) :: (b3, spC sp) :: s.objs) s.rows s.toks s.maps).objs sp b3 b6 b7 b8 b9 0 := by
    refine ⟨?_, ?_, ?_, ?_, ?_⟩ <;> simp [VS.look, d36, d37, d38, d39, d67, d68, d69, d78, d79, d89, Ne.symm d36, Ne.symm d37, Ne.symm d38, Ne.symm d39, Ne.symm d67, Ne.symm d68, Ne.symm d69, Ne.symm d78, Ne.symm d79, Ne.symm d89]
  have hsub : Sub (St.mk ((b9, [I 0]) :: (b8, [.v (.slice none 0 0)]) :: (b7, [I 0]) :: (b6, zspace) :: (b3, spC sp) :: s.objs) s.rows s.toks s.maps) s := by
    refine ⟨fun k x hk => ?_, fun _ _ h => h, fun _ _ h => h, fun _ _ h => h⟩
    have e3 := lk n3 hk
    have e6 := lk n6 hk
    have e7 := lk n7 hk
    have e8 := lk n8 hk
    have e9 := lk n9 hk
    simp [VS.look, e3, e6, e7, e8, e9, hk]
  have fin : ∀ (f : Nat → C) (s' : St) (e : Int), endP sp rest shrink = endErr e → EndO s'.objs sp b3 b6 b7 b8 b9 0 → Sub s' s → f 6 = ptr b6 0 → f 7 = ptr b7 0 → f 8 = ptr b8 0 → f 9 = ptr b9 0 →
      leaveQ Tryz.prog [.cell 6 25, .cell 7 3, .cell 8 26, .cell 9 30] (fun c s' => c = endP sp rest shrink ∧ s' = s) (fun _ _ => False) f [dCaught b9 44 (endCaps b6 b7 b8)] (.panicking (fail e)) s' :=
    fun f s' e he hO hs f6 f7 f8 f9 => end_err hO hD hs f6 f7 f8 f9 ⟨he.symm, rfl⟩
  refine (fun (h : ∀ s1 : St, EndO s1.objs sp b3 b6 b7 b8 b9 0 → Sub s1 s → W Tryz.prog ⟨191, none⟩ _ _ s1 _) => h _ hEO hsub) ?_
  clear hEO hsub hb3 hb6 hb7 hb8 hb9 nn n7' n8'' n8' n9''' n9'' n9'
  intro s1 hO hsub
  refine W_seq (W_reg ?_)
  simp [go_sem]
  refine WL_defer (k := 43) (first := #[]) (captured := #[]) (l := [.pointer (some ⟨b9, 0, none⟩), .func (.func 44) #[] (endCaps b6 b7 b8)]) rfl (by simp [go_sem]) (by simp [go_sem, valsOf, endCaps]) ?_
  refine WL_run _ _ _ ?_
  simp [go_sem]
  refine W_keep [(1, LF rest), (2, Bo shrink), (3, ptr b3 0), (6, ptr b6 0), (7, ptr b7 0), (8, ptr b8 0), (9, ptr b9 0)] (by simp [go_sem]) ?_
  have v3 := hO.v3
  simp only [spC] at v3
  refine W_seq (W_reg ?_)
  simp [go_sem, v3]
  refine W_keep [(1, LF rest), (2, Bo shrink), (3, ptr b3 0), (6, ptr b6 0), (7, ptr b7 0), (8, ptr b8 0), (9, ptr b9 0), (10, I sp.pg.length)] (by simp [go_sem]) ?_
  refine W_seq (W_reg ?_)
  simp [go_sem, v3]
  refine Pure.use (within_c _ _ _) ?_
  have hEP : endP sp rest shrink = endP sp rest shrink := rfl
  conv at hEP => rhs; unfold endP
  cases hv : (decide (1 ≤ sp.ver) && decide (sp.ver ≤ 1099511627776))
  · simp [go_sem]
    refine (need_c _ _ _).use (fun c s3 hc => absurd hc.1 (by simp)) (fun ch s3 hc => ?_)
    obtain ⟨_, rfl, rfl⟩ := hc
    simp only [nextQ_panic, retD]
    exact fin _ _ 1 (by rw [hEP]; simp [inV, hv]) hO hsub (by simp [go_sem]) (by simp [go_sem]) (by simp [go_sem]) (by simp [go_sem])
  have hv' : inV sp.ver = true := hv
  rw [hv'] at hEP
  simp [go_sem]
  refine Pure.use (within_c _ _ _) ?_
  cases hp2 : (decide ((2 : Int) ≤ (sp.pg.length : Int)) && decide ((sp.pg.length : Int) ≤ 4096))
  · simp [go_sem]
    refine (need_c _ _ _).use (fun c s3 hc => absurd hc.1 (by simp)) (fun ch s3 hc => ?_)
    obtain ⟨_, rfl, rfl⟩ := hc
    simp only [nextQ_panic, retD]
    refine fin _ _ 1 ?_ hO hsub (by simp [go_sem]) (by simp [go_sem]) (by simp [go_sem]) (by simp [go_sem])
    have hp3 : (decide (2 ≤ sp.pg.length) && decide (sp.pg.length ≤ 4096)) = false := by simp at hp2 ⊢; omega
    rw [hEP, hp3]; rfl
  have hp3 : (decide (2 ≤ sp.pg.length) && decide (sp.pg.length ≤ 4096)) = true := by simp at hp2 ⊢; omega
  have hpr : 2 ≤ sp.pg.length ∧ sp.pg.length ≤ 4096 := by simpa using hp3
  rw [hp3] at hEP
  simp only [Bool.and_self, if_true] at hEP
  simp [go_sem]
  refine (need_c _ _ _).use (fun c s3 hc => ?_) (fun ch s3 hc => absurd hc.1 (by simp))
  have hc3 := hc.2.symm
  subst hc3
  simp [go_sem]
  refine W_keep [(1, LF rest), (2, Bo shrink), (3, ptr b3 0), (6, ptr b6 0), (7, ptr b7 0), (8, ptr b8 0), (9, ptr b9 0), (10, I sp.pg.length)] (by simp [go_sem]) ?_
  refine W_seq (W_reg ?_)
  simp [go_sem, v3]
  refine Pure.use (valid_c rest sp.pg.length (by omega) (by omega)) ?_
  cases hvr : validB rest sp.pg.length
  · simp [go_sem]
    refine (need_c _ _ _).use (fun c s3 hc => absurd hc.1 (by simp)) (fun ch s3 hc => ?_)
    obtain ⟨_, rfl, rfl⟩ := hc
    simp only [nextQ_panic, retD]
    refine fin _ _ 2 (by rw [hEP]; simp [hvr]) hO hsub (by simp [go_sem]) (by simp [go_sem]) (by simp [go_sem]) (by simp [go_sem])
  simp [go_sem, v3]
  refine Pure.use (increasing_c sp.free sp.pg.length (by omega) (by omega)) ?_
  cases hif : incr sp.free sp.pg.length
  · simp [go_sem]
    refine (need_c _ _ _).use (fun c s3 hc => absurd hc.1 (by simp)) (fun ch s3 hc => ?_)
    obtain ⟨_, rfl, rfl⟩ := hc
    simp only [nextQ_panic, retD]
    refine fin _ _ 2 (by rw [hEP]; simp [hvr, hif]) hO hsub (by simp [go_sem]) (by simp [go_sem]) (by simp [go_sem]) (by simp [go_sem])
  simp [go_sem, v3]
  refine Pure.use (increasing_c sp.gone sp.pg.length (by omega) (by omega)) ?_
  cases hig : incr sp.gone sp.pg.length
  · simp [go_sem]
    refine (need_c _ _ _).use (fun c s3 hc => absurd hc.1 (by simp)) (fun ch s3 hc => ?_)
    obtain ⟨_, rfl, rfl⟩ := hc
    simp only [nextQ_panic, retD]
    refine fin _ _ 2 (by rw [hEP]; simp [hvr, hig]) hO hsub (by simp [go_sem]) (by simp [go_sem]) (by simp [go_sem]) (by simp [go_sem])
  simp [go_sem]
  refine (need_c _ _ _).use (fun c s3 hc => ?_) (fun ch s3 hc => absurd hc.1 (by simp))
  have hc3 := hc.2.symm
  subst hc3
  simp [go_sem]
  rw [hvr, hif, hig] at hEP
  simp only [Bool.and_self, if_true] at hEP
  refine W_keep [(1, LF rest), (2, Bo shrink), (3, ptr b3 0), (6, ptr b6 0), (7, ptr b7 0), (8, ptr b8 0), (9, ptr b9 0), (10, I sp.pg.length)] (by simp [go_sem]) ?_
  refine W_seq (W_reg ?_)
  simp [go_sem, v3]
  refine (clonePg_c sp.pg hpz hpl s1).use (fun c s2 hc => ?_) (fun _ _ h => h.elim)
  obtain ⟨R2, rfl, hR2, hne2⟩ := hc
  obtain ⟨bp, rfl, hrow0⟩ : ∃ bp, c = .rs bp sp.pg.length ∧ RowIn s.rows R2 (.rs bp sp.pg.length) 10 sp.pg := by
    have hpne : sp.pg ≠ [] := fun e => by rw [e] at hpr; simp at hpr
    rcases hR2.row with ⟨_, h⟩ | ⟨_, h⟩ | ⟨b', h, _⟩
    · exact absurd h hpne
    · exact absurd h hpne
    · exact ⟨b', h, by rw [← h]; exact rowBase hR2 hsub.rows⟩
  simp [go_sem]
  refine WL_box (by simp [go_sem]) (by simp) fun b11 hb11 => WL_run _ _ _ ?_
  have hE0 : EndS s { s1 with objs := (b11, [.rs bp sp.pg.length, LF rest]) :: s1.objs, rows := R2 } sp b3 b6 b7 b8 b9 b11 bp sp.pg rest := by
    have hb := hb11.1
    have q : ∀ {k : Nat} {x : List C}, VS.look s1.objs k = some x → k ≠ b11 := fun h e => by subst e; rw [show VS.look s1.objs _ = none from hb] at h; cases h
    refine ⟨⟨lookCons hb hO.v3, lookCons hb hO.v6, lookCons hb hO.v7, lookCons hb hO.v8, lookCons hb hO.v9⟩, by simp [VS.look], ?_, q hO.v3, q hO.v6, q hO.v7, q hO.v8, q hO.v9, ⟨fun k x hk => lookCons hb (hsub.objs k x hk), hrow0.old, hsub.toks, hsub.maps⟩, hrow0⟩
    cases hq : VS.look s.objs b11 with
    | none => rfl
    | some x => exact absurd rfl (q (hsub.objs _ _ hq))
  simp [go_sem]
  refine (fun (h : ∀ s2 : St, EndS s s2 sp b3 b6 b7 b8 b9 b11 bp sp.pg rest → W Tryz.prog ⟨191, none⟩ _ _ s2 _) => h _ hE0) ?_
  clear hE0 hR2 hne2 hrow0 hb11 R2
  intro s2 hE
  refine W_keep [(2, Bo shrink), (3, ptr b3 0), (6, ptr b6 0), (7, ptr b7 0), (8, ptr b8 0), (9, ptr b9 0), (10, I sp.pg.length), (11, ptr b11 0)] (by simp [go_sem]) ?_
  have hw1 : IntKind.i64.wrap (sp.ver - 1) = sp.ver - 1 := by simp at hv; exact wrap_in (by omega) (by omega)
  refine W_seq (W_drawr 8 Tryz.mixed (by kernel_rfl) ?_)
  have v11 := hE.v11
  have v3 := hE.o.v3
  simp only [spC] at v3
  simp [go_sem, v11, v3, hw1]
  refine (put_m b11 (.rs bp sp.pg.length) n m rest (sp.ver - 1) sp.gone s2 v11 hs hg hm1 (by omega)).use (fun c s3 hc => ?_) (fun _ _ h => h.elim)
  have hE1 := hE.updL (putF rest (sp.ver - 1) sp.gone)
  rw [← hc] at hE1
  clear hE v11 v3 hc
  have hs1 : Sz (n + m) (putF rest (sp.ver - 1) sp.gone) := Sz.putF hs hg hm1
  simp [go_sem]
  refine W_keep [(2, Bo shrink), (3, ptr b3 0), (6, ptr b6 0), (7, ptr b7 0), (8, ptr b8 0), (9, ptr b9 0), (10, I sp.pg.length), (11, ptr b11 0)] (by simp [go_sem]) ?_
  refine W_seq (W_drawr 5 Tryz.mixed (by kernel_rfl) ?_)
  have v11 := hE1.v11
  have v3 := hE1.o.v3
  simp only [spC] at v3
  simp [go_sem, v11, v3]
  refine (put_m b11 (.rs bp sp.pg.length) (n + m) m _ 0 sp.free s3 v11 hs1 hf hm1 (by omega)).use (fun c s4 hc => ?_) (fun _ _ h => h.elim)
  have hE2 := hE1.updL (putF (putF rest (sp.ver - 1) sp.gone) 0 sp.free)
  rw [← hc] at hE2
  clear hE1 v11 v3 hc
  have hs2 : Sz (n + m + m) (putF (putF rest (sp.ver - 1) sp.gone) 0 sp.free) := Sz.putF hs1 hf hm1
  generalize hl2 : putF (putF rest (sp.ver - 1) sp.gone) 0 sp.free = l2 at hs2 hE2 hEP
  clear hs1
  simp [go_sem]
  refine W_keep [(2, Bo shrink), (3, ptr b3 0), (6, ptr b6 0), (7, ptr b7 0), (8, ptr b8 0), (9, ptr b9 0), (10, I sp.pg.length), (11, ptr b11 0)] (by simp [go_sem]) ?_
  refine W_seq (W_reg ?_)
  have v11 := hE2.v11
  simp [go_sem, v11]
  refine Pure.use (valid_c l2 sp.pg.length (by omega) (by omega)) ?_
  simp [go_sem]
  refine (need_c _ _ _).use (fun c s5 hc => ?_) (fun ch s5 hc => ?_)
  rotate_left
  · obtain ⟨hvl, rfl, hc3⟩ := hc
    subst hc3
    simp only [nextQ_panic, retD]
    exact fin _ _ 2 (by rw [hEP]; simp [hvl]) hE2.o hE2.sub (by simp [go_sem]) (by simp [go_sem]) (by simp [go_sem]) (by simp [go_sem])
  have hvl := hc.1
  have hc3 := hc.2.symm
  subst hc3
  rw [hvl] at hEP
  simp only [if_true] at hEP
  clear hc v11
  have hgood : Good l2 sp.pg.length := by
    rw [validB_isB] at hvl
    simp only [Bool.and_eq_true] at hvl
    exact (isB_iff _ _).1 hvl.2
  simp [go_sem]
  refine W_keep [(2, Bo shrink), (3, ptr b3 0), (6, ptr b6 0), (7, ptr b7 0), (8, ptr b8 0), (9, ptr b9 0), (10, I sp.pg.length), (11, ptr b11 0)] (by simp [go_sem]) ?_
  refine W_seq_k fun K hK => W_seq (W_reg ?_)
  have v3 := hE2.o.v3
  simp only [spC] at v3
  simp [go_sem, v3, intsE_length]
  have hfi := (incr_iff sp.free _).1 hif
  have hfl : sp.free.length ≤ 1000000 := by omega
  refine W_range sp.free.length (fun k L s' => L = [(2, Bo shrink), (3, ptr b3 0), (6, ptr b6 0), (7, ptr b7 0), (8, ptr b8 0), (9, ptr b9 0), (10, I sp.pg.length), (11, ptr b11 0), (79, LI sp.free)] ∧ EndS s s' sp b3 b6 b7 b8 b9 b11 bp (clearAt sp.pg (sp.free.take k)) l2) (ds := [dCaught b9 44 (endCaps b6 b7 b8)])
    (l0 := [(2, Bo shrink), (3, ptr b3 0), (6, ptr b6 0), (7, ptr b7 0), (8, ptr b8 0), (9, ptr b9 0), (10, I sp.pg.length), (11, ptr b11 0), (79, LI sp.free)])
    (by omega) (by decide) ⟨rfl, by simpa [clearAt] using hE2⟩ (by simp [go_sem]) rfl (by rintro k _ _ ⟨rfl, _⟩; simp [notIn]) ?_ ?_
  · rintro k _ s5 hk ⟨rfl, hE5⟩
    have v11 := hE5.v11
    have hcl : (clearAt sp.pg (sp.free.take k)).length = sp.pg.length := clearAt_len _ _
    have hrow := (RowIn.rs_row hE5.row).1
    have hx := hfi.2 _ (List.getElem_mem hk)
    have hx0 : 0 ≤ sp.free[k] := by omega
    have hx1 : sp.free[k] < (sp.pg.length : Int) := by omega
    have hx2 : sp.free[k].toNat < sp.pg.length := by omega
    have hx3 : sp.free[k].toNat < (clearAt sp.pg (sp.free.take k)).length := by omega
    have hsn : clearAt sp.pg (sp.free.take (k + 1)) = (clearAt sp.pg (sp.free.take k)).set sp.free[k].toNat zpage := by
      unfold clearAt; rw [List.take_succ_eq_append_getElem hk, List.foldl_append]; rfl
    have hnew : EndS s { s5 with rows := putAt s5.rows bp (10, clearAt sp.pg (sp.free.take (k + 1))) } sp b3 b6 b7 b8 b9 b11 bp (clearAt sp.pg (sp.free.take (k + 1))) l2 := by
      have hl' : (clearAt sp.pg (sp.free.take (k + 1))).length = (clearAt sp.pg (sp.free.take k)).length := by rw [clearAt_len, clearAt_len]
      have h1 := rowSet (es' := clearAt sp.pg (sp.free.take (k + 1))) hE5.row
      refine ⟨hE5.o, by rw [hl']; exact v11, hE5.n11, hE5.d3, hE5.d6, hE5.d7, hE5.d8, hE5.d9, ⟨hE5.sub.objs, h1.old, hE5.sub.toks, hE5.sub.maps⟩, h1⟩
    refine W_seq (W_reg ?_)
    simp [go_sem, intsE_get, hk]
    refine W_reg ?_
    simp [go_sem, v11, hcl, hx0, hx1, hrow]
    have hpk := clearAt_pg hpz (sp.free.take k)
    have h10 : ((clearAt sp.pg (sp.free.take k))[sp.free[k].toNat]).length = 10 := (hpk _ (List.getElem_mem hx3)).1
    rw [if_pos (by omega), set10 h10]
    have hnew' : EndS s { s5 with rows := putAt s5.rows bp (10, (clearAt sp.pg (sp.free.take k)).set sp.free[k].toNat zpage) } sp b3 b6 b7 b8 b9 b11 bp (clearAt sp.pg (sp.free.take (k + 1))) l2 := by rw [← hsn]; exact hnew
    simp [go_sem]
    refine ⟨_, ⟨rfl, hnew'⟩, by simp [go_sem]⟩
  rintro _ s5 x ⟨rfl, hE5⟩
  simp only [go_sem]
  refine hK _ _ ?_
  rw [List.take_length] at hE5
  have hpc := clearAt_pg hpz sp.free
  have hlc := clearAt_len sp.pg sp.free
  have hn2 : (nums l2).length ≤ 1000000 := by
    have := putF_nums rest (sp.ver - 1) sp.gone
    have := putF_nums (putF rest (sp.ver - 1) sp.gone) 0 sp.free
    rw [← hl2]
    omega
  generalize clearAt sp.pg sp.free = p1 at hE5 hpc hlc hEP
  clear hE2 hK
  refine W_keep [(2, Bo shrink), (3, ptr b3 0), (6, ptr b6 0), (7, ptr b7 0), (8, ptr b8 0), (9, ptr b9 0), (10, I sp.pg.length), (11, ptr b11 0)] (by simp [go_sem]) ?_
  refine W_seq_k fun K hK => W_seq (W_reg ?_)
  simp [go_sem]
  have after : ∀ (E' : Env) (s' : St) (bp' : Nat) (P : List (List C)) (l : List Fr), Has E' [(3, ptr b3 0), (6, ptr b6 0), (7, ptr b7 0), (8, ptr b8 0), (9, ptr b9 0), (11, ptr b11 0)] → E'.ds = [dCaught b9 44 (endCaps b6 b7 b8)] → EndS s s' sp b3 b6 b7 b8 b9 b11 bp' P l →
      PgE P → 2 ≤ P.length → P.length ≤ 4096 → Sz (n + m + m) l → OKL l P.length [] → (nums l).length ≤ 1000000 → endP sp rest shrink = (match takeLoop ((nums l).length + 1) P l [] with | some r => endOk sp r | none => endErr 7) → K E' s' := by
    intro E' s' bp' P l hE' hds' hES hPg hP2 hP4 hsz hok hnl hend
    refine hK _ _ (W_keep _ hE' ?_)
    rw [hds']
    clear hK
    refine W_seq (W_reg ?_)
    simp [go_sem]
    refine W_tok 14 1 (by simp [go_sem]) fun r hr => ?_
    have hrs : VS.look s.toks r = none := by
      cases hq : VS.look s.toks r with
      | none => rfl
      | some x => have := hES.sub.toks _ _ hq; rw [hr] at this; cases this
    have hET : EndS s { s' with toks := (r, (1, 0)) :: s'.toks } sp b3 b6 b7 b8 b9 b11 bp' P l := hES.toks fun k x hk => lookCons hr (hES.sub.toks k x hk)
    refine (fun (h : ∀ s2 : St, EndS s s2 sp b3 b6 b7 b8 b9 b11 bp' P l → VS.look s2.toks r = some (1, 0) → W Tryz.prog ⟨191, none⟩ _ _ s2 _) => h _ hET (by simp [VS.look])) ?_
    clear hET hES hr s' 
    intro s' hES htok
    refine W_seq_k fun K hK => ?_
    have after2 : ∀ (E' : Env) (s' : St) (bp' : Nat) (P : List (List C)) (l : List Fr) (tk : List Int), Has E' [(3, ptr b3 0), (6, ptr b6 0), (7, ptr b7 0), (8, ptr b8 0), (9, ptr b9 0), (11, ptr b11 0), (14, .li (some r) (intsE tk))] → E'.ds = [dCaught b9 44 (endCaps b6 b7 b8)] → EndS s s' sp b3 b6 b7 b8 b9 b11 bp' P l →
        PgE P → 2 ≤ P.length → P.length ≤ 4096 → Sz (n + m + m) l → OKL l P.length tk → (nums l).length ≤ 1000000 → (partsP l).length ≤ tk.length → tk.length ≤ 1000000 → endP sp rest shrink = endOk sp (P, l, tk) → K E' s' := by
      intro E' s' bp' P l tk hE' hds' hES hPg hP2 hP4 hsz hok hnl hpt htl hend
      refine hK _ _ (W_keep _ hE' ?_)
      rw [hds']
      clear hK
      have htn : ∀ x ∈ tk, numB x = true := fun x hx => by
        have := hok.t x hx
        simp [numB]; omega
      have hvr2 : 1 ≤ sp.ver ∧ sp.ver ≤ 1099511627776 := by simpa using hv
      have hLE : listPagesE l tk sp.ver = 0 := by
        unfold listPagesE
        rw [hok.freed, if_pos rfl]
        have h1 : numsOk tk sp.ver = true := by
          unfold numsOk
          have : (tk.any fun n => !numB n) = false := by
            rw [List.any_eq_false]
            intro x hx
            rw [htn x hx]
            simp
          rw [this]
          simp; omega
        rw [h1, if_neg (by simp; omega)]
      have hLC : listPagesC l tk sp.ver = rgE tk.length (chF tk 4 sp.ver (frP (partsP l)) tk.length) := by unfold listPagesC; rw [if_pos hLE]
      have hlp := listPages_c (n + m + m) l tk sp.ver hsz (by omega) (by omega) htl hok.nd
      rw [hLE] at hlp
      have hesl : (listPagesC l tk sp.ver).length = tk.length := by rw [hLC, rgE_len]
      have heg : ∀ i, i < tk.length → (listPagesC l tk sp.ver)[i]? = some (mkPg 4 (tk.getD i 0) sp.ver (tk.getD (i + 1) 0) (frP (partsP l) i)) := fun i hi => by
        rw [hLC, rgE_get _ _ i hi]
        simp [chF, hi]
      unfold endOk at hend
      simp only at hend
      generalize listPagesC l tk sp.ver = es at hlp hesl heg hend
      clear hLE hLC
      refine W_seq (W_drawr 13 Tryz.mixed (by kernel_rfl) ?_)
      have v11 := hES.v11
      have v3 := hES.o.v3
      have v9 := hES.o.v9
      simp only [spC] at v3
      simp [go_sem, v11, v3]
      refine ⟨_, hlp, ?_⟩
      simp [go_sem, v9]
      refine (fun (h : ∀ s6 : St, EndS s s6 sp b3 b6 b7 b8 b9 b11 bp' P l → W Tryz.prog ⟨191, none⟩ _ _ s6 _) => h _ (hES.put9 hD)) ?_
      clear hES v11 v3 v9 s'
      intro s' hES
      have v9 := hES.o.v9
      refine W_keep [(3, ptr b3 0), (6, ptr b6 0), (7, ptr b7 0), (8, ptr b8 0), (9, ptr b9 0), (11, ptr b11 0), (14, .li (some r) (intsE tk)), (17, .li none es)] (by simp [go_sem]) ?_
      refine W_seq (W_reg ?_)
      simp [go_sem, v9]
      refine (must_c _ _).use (fun c s3 hc => ?_) (fun ch s3 hc => absurd rfl hc.1)
      have hc3 := hc.2.symm
      subst hc3
      simp [go_sem]
      refine W_keep [(3, ptr b3 0), (6, ptr b6 0), (7, ptr b7 0), (8, ptr b8 0), (9, ptr b9 0), (11, ptr b11 0), (14, .li (some r) (intsE tk)), (17, .li none es)] (by simp [go_sem]) ?_
      refine W_seq_k fun K hK => W_seq (W_reg ?_)
      simp [go_sem]
      refine W_range tk.length (fun k L s' => L = [(3, ptr b3 0), (6, ptr b6 0), (7, ptr b7 0), (8, ptr b8 0), (9, ptr b9 0), (11, ptr b11 0), (14, .li (some r) (intsE tk)), (152, .li none es)] ∧ EndS s s' sp b3 b6 b7 b8 b9 b11 bp' (laidAt P tk es k) l) (ds := [dCaught b9 44 (endCaps b6 b7 b8)])
        (l0 := [(3, ptr b3 0), (6, ptr b6 0), (7, ptr b7 0), (8, ptr b8 0), (9, ptr b9 0), (11, ptr b11 0), (14, .li (some r) (intsE tk)), (152, .li none es)])
        (by omega) (by decide) ⟨rfl, hES⟩ (by simp [go_sem, hesl]) rfl (by rintro k _ _ ⟨rfl, _⟩; simp [notIn]) ?_ ?_
      · rintro k _ s5 hk ⟨rfl, hE5⟩
        have hek' : k < es.length := by omega
        refine W_seq (W_reg ?_)
        simp [go_sem, hek']
        have hek2 : es[k] = [I 4, I (tk.getD k 0), I sp.ver, I 0, I 0, Bo false, .v (.slice none 0 0), I (tk.getD (k + 1) 0), .v (.string ⟨#[]⟩), frP (partsP l) k] := by
          have := heg k hk
          rw [List.getElem?_eq_getElem hek'] at this
          exact Option.some.inj this
        have htk1 : tk.getD k 0 = tk[k] := by simp [List.getD, hk]
        rw [htk1] at hek2
        have hx := hok.t _ (List.getElem_mem hk)
        have hll := laidAt_len P tk es k
        have hx0 : 0 ≤ tk[k] := by omega
        have hx1 : tk[k] < (P.length : Int) := hx.2
        have hx3 : tk[k].toNat < (laidAt P tk es k).length := by omega
        have hone := frP_one (partsP l) k
        generalize frP (partsP l) k = fr at hek2 hone
        simp [hek2, go_sem]
        refine WL_alloc tzero_89 (by simp) fun b19 hb19 => WL_run _ _ _ ?_
        simp [go_sem, hone]
        rw [if_pos (by exact hone)]
        simp [go_sem]
        have hE6 := hE5.obj hb19.1 [I 4, I tk[k], I sp.ver, I 0, I 0, Bo false, .v (.slice none 0 0), I (tk[k + 1]?.getD 0), .v (.string ⟨#[]⟩), fr]
        refine (fun (h : ∀ s6 : St, EndS s s6 sp b3 b6 b7 b8 b9 b11 bp' (laidAt P tk es k) l → VS.look s6.objs b19 = some [I 4, I tk[k], I sp.ver, I 0, I 0, Bo false, .v (.slice none 0 0), I (tk[k + 1]?.getD 0), .v (.string ⟨#[]⟩), fr] → W Tryz.prog ⟨191, none⟩ _ _ s6 _) => h _ hE6 (by simp [VS.look])) ?_
        clear hE6 hE5 hb19
        intro s6 hE6 v19
        refine W_keep [(154, .v (.int .i64 k)), (153, .v (.int .i64 tk.length)), (3, ptr b3 0), (6, ptr b6 0), (7, ptr b7 0), (8, ptr b8 0), (9, ptr b9 0), (11, ptr b11 0), (14, .li (some r) (intsE tk)), (152, .li none es), (19, ptr b19 0)] (by simp [go_sem]) ?_
        have v11 := hE6.v11
        have hrow := (RowIn.rs_row hE6.row).1
        refine W_drawr 7 Tryz.mixed (by kernel_rfl) ?_
        simp [go_sem, v11, v19, hll, hx0, hx1, hrow]
        have h10 := (laidAt_pg hPg tk es k (fun i hi => by
          rw [List.getD, heg i (by omega)]
          exact ⟨rfl, mkPg_one _ _ _ _ _ (frP_one _ _)⟩) _ (List.getElem_mem hx3)).1
        have hsn : (laidAt P tk es k).set tk[k].toNat [I 4, I tk[k], I sp.ver, I 0, I 0, Bo false, .v (.slice none 0 0), I (tk[k + 1]?.getD 0), .v (.string ⟨#[]⟩), fr] = laidAt P tk es (k + 1) := by
          rw [laidAt_succ, htk1]
          congr 1
          rw [List.getD, List.getElem?_eq_getElem hek', hek2]
          rfl
        rw [if_pos (by exact hone), if_pos (by omega), set10 h10, hsn]
        have hl' : (laidAt P tk es (k + 1)).length = (laidAt P tk es k).length := by rw [laidAt_len, laidAt_len]
        have h1 := rowSet (es' := laidAt P tk es (k + 1)) hE6.row
        simp [go_sem]
        exact ⟨_, ⟨rfl, hE6.o, by rw [hl']; exact v11, hE6.n11, hE6.d3, hE6.d6, hE6.d7, hE6.d8, hE6.d9, ⟨hE6.sub.objs, h1.old, hE6.sub.toks, hE6.sub.maps⟩, h1⟩, by simp [go_sem]⟩
      · rintro _ s5 x ⟨rfl, hE5⟩
        simp only [go_sem]
        refine hK _ _ ?_
        refine W_keep [(3, ptr b3 0), (6, ptr b6 0), (7, ptr b7 0), (8, ptr b8 0), (9, ptr b9 0), (11, ptr b11 0), (14, .li (some r) (intsE tk))] (by simp [go_sem]) ?_
        have hpg := laidAt_pg hPg tk es tk.length (fun i hi => by
          rw [List.getD, heg i (by omega)]
          exact ⟨rfl, mkPg_one _ _ _ _ _ (frP_one _ _)⟩)
        generalize laidAt P tk es tk.length = PL at hE5 hpg hend
        refine W_seq_k fun K hK => W_seq (W_reg ?_)
        simp [go_sem, intsE_length]
        have last : ∀ (E' : Env) (s' : St), Has E' [(3, ptr b3 0), (6, ptr b6 0), (7, ptr b7 0), (8, ptr b8 0), (9, ptr b9 0), (11, ptr b11 0)] → E'.ds = [dCaught b9 44 (endCaps b6 b7 b8)] → VS.look s'.objs b7 = some [I (tk.headD 0)] → VS.look s'.objs b3 = some (spC sp) → VS.look s'.objs b6 = some zspace → VS.look s'.objs b8 = some [.v (.slice none 0 0)] → VS.look s'.objs b9 = some [I 0] → VS.look s'.objs b11 = some [.rs bp' PL.length, LF l] →
            Sub s' s → RowIn s.rows s'.rows (.rs bp' PL.length) 10 PL → K E' s' := by
          intro E' s' hE' hds' v7 v3 v6 v8 v9 v11 hsub hrow
          refine hK _ _ (W_keep _ hE' ?_)
          rw [hds']
          clear hK
          refine W_freezec (b := b11) (cs := [.rs bp' PL.length, LF l]) 0 10 PL s.rows v11 rfl hrow (by rw [List.all_eq_true]; exact fun e he => (hpg e he).2) ?_
          have hF : ∀ {k : Nat} {y : List C}, k ≠ b11 → VS.look s'.objs k = some y → VS.look (putAt s'.objs b11 ([C.rs bp' PL.length, LF l].set 0 (.li none PL))) k = some y := fun hk hy => by rw [look_putAt, if_neg hk]; exact hy
          refine (fun (h : ∀ s6 : St, Sub s6 s → VS.look s6.objs b7 = some [I (tk.headD 0)] → VS.look s6.objs b3 = some (spC sp) → VS.look s6.objs b6 = some zspace → VS.look s6.objs b8 = some [.v (.slice none 0 0)] → VS.look s6.objs b9 = some [I 0] → VS.look s6.objs b11 = some [.li none PL, LF l] → W Tryz.prog ⟨191, none⟩ _ _ s6 _) => h _ ?_ (hF hE5.d7 v7) (hF hE5.d3 v3) (hF hE5.d6 v6) (hF hE5.d8 v8) (hF hE5.d9 v9) (by rw [look_putAt, if_pos rfl, v11]; rfl)) ?_
          · exact ⟨fun k x hk => hF (fun e => by subst e; rw [hE5.n11] at hk; cases hk) (hsub.objs _ _ hk), fun _ _ h => h, hsub.toks, hsub.maps⟩
          clear hF hrow hsub v7 v3 v6 v8 v9 v11 s' hE'
          intro s6 hsub v7 v3 v6 v8 v9 v11
          simp only [spC] at v3
          simp only [zspace] at v6
          refine W_seq ?_
          refine W_draws (Ef := ?_) 25 [14, 15, 17, 19, 21, 22, 23, 24] (fun s' => VS.look s'.objs b3 = some [.li none sp.pg, LI sp.free, LI sp.fresh, LI sp.gone, I sp.ver, I sp.tree] ∧ VS.look s'.objs b7 = some [I (tk.headD 0)] ∧ VS.look s'.objs b11 = some [.li none PL, LF l]) Tryz.mixed (by kernel_rfl) ⟨v3, v7, v11⟩ (fun s' hs' => ?_) ?_
          rotate_left
          · simp only [go_sem]
            simp [go_sem, hs'.1, hs'.2.1, hs'.2.2]
            rfl
          · refine LL_cons fun Q' hQ => ?_
            refine WL_callC (k := 56) (first := #[]) (captured := #[]) (xs := [LF l, .v (.slice none 0 0)]) (K := fun c s' => c = LF l ∧ s' = s6) (Kp := fun _ _ => False) (by simp [go_sem]) (by simp [go_sem]) (by simp [go_sem]) ?_ (fun c s' hc => ?_) (fun _ _ h => h.elim)
            · have ht := together_c (n + m + m) 0 l [] hsz ⟨by simp, by simp⟩ (by omega) s6
              rw [mergeF_nil'] at ht
              refine ht.less (args := [LF l, .v (.slice none 0 0)]) rfl fun w g v j hj hv => ?_
              match j, hj with
              | 0, _ => exact hv
              | 1, _ => simp only [List.getElem_cons_succ, List.getElem_cons_zero] at hv ⊢; rw [hv.v_eq]; exact nil_li
            · obtain ⟨rfl, rfl⟩ := hc
              refine hQ _ _ ⟨v3, v7, v11⟩ ?_
              have q6 : ∀ X, VS.look (putAt s'.objs b6 X) b6 = some X := fun X => by rw [look_putAt, if_pos rfl, v6]; rfl
              have q3 : ∀ X, VS.look (putAt s'.objs b6 X) b3 = some [.li none sp.pg, LI sp.free, LI sp.fresh, LI sp.gone, I sp.ver, I sp.tree] := fun X => by rw [look_putAt, if_neg d36]; exact v3
              have q7 : ∀ X, VS.look (putAt s'.objs b6 X) b7 = some [I (tk.headD 0)] := fun X => by rw [look_putAt, if_neg d67.symm]; exact v7
              have q11 : ∀ X, VS.look (putAt s'.objs b6 X) b11 = some [.li none PL, LF l] := fun X => by rw [look_putAt, if_neg hE5.d6.symm]; exact v11
              refine LL_cons fun Q' hQ => WL_st (s' := { s' with objs := putAt s'.objs b6 [.v (.slice none 0 0), .v (.slice none 0 0), .v (.slice none 0 0), .v (.slice none 0 0), I 0, I 0] }) (by simp [go_sem, v6]) (hQ (.v undef) _ ⟨q3 _, q7 _, q11 _⟩ ?_)
              refine LL_cons fun Q' hQ => WL_st (s' := { s' with objs := putAt s'.objs b6 [.li none PL, .v (.slice none 0 0), .v (.slice none 0 0), .v (.slice none 0 0), I 0, I 0] }) (by simp [go_sem, q6, putAt_putAt]) (hQ (.v undef) _ ⟨q3 _, q7 _, q11 _⟩ ?_)
              refine LL_cons fun Q' hQ => WL_st (s' := { s' with objs := putAt s'.objs b6 [.li none PL, .v (.slice none 0 0), .v (.slice none 0 0), .v (.slice none 0 0), I sp.ver, I 0] }) (by simp [go_sem, q6, putAt_putAt]) (hQ (.v undef) _ ⟨q3 _, q7 _, q11 _⟩ ?_)
              refine LL_cons fun Q' hQ => WL_st (s' := { s' with objs := putAt s'.objs b6 [.li none PL, .v (.slice none 0 0), .v (.slice none 0 0), .v (.slice none 0 0), I sp.ver, I sp.tree] }) (by simp [go_sem, q6, putAt_putAt]) (hQ (.v undef) _ ⟨q3 _, q7 _, q11 _⟩ ?_)
              refine LL_cons fun Q' hQ => WL_st (s' := { s' with objs := putAt (putAt s'.objs b6 [.li none PL, .v (.slice none 0 0), .v (.slice none 0 0), .v (.slice none 0 0), I sp.ver, I sp.tree]) b7 [I (tk.headD 0)] }) (by simp [go_sem, q7]) (hQ (.v undef) _ ⟨by rw [look_putAt, if_neg d37]; exact q3 _, by rw [look_putAt, if_pos rfl, q7]; rfl, by rw [look_putAt, if_neg hE5.d7.symm]; exact q11 _⟩ ?_)
              have w8 : VS.look (putAt (putAt s'.objs b6 [.li none PL, .v (.slice none 0 0), .v (.slice none 0 0), .v (.slice none 0 0), I sp.ver, I sp.tree]) b7 [I (tk.headD 0)]) b8 = some [.v (.slice none 0 0)] := by rw [look_putAt, if_neg d78.symm, look_putAt, if_neg d68.symm]; exact v8
              have w9 : VS.look (putAt (putAt s'.objs b6 [.li none PL, .v (.slice none 0 0), .v (.slice none 0 0), .v (.slice none 0 0), I sp.ver, I sp.tree]) b7 [I (tk.headD 0)]) b9 = some [I 0] := by rw [look_putAt, if_neg d79.symm, look_putAt, if_neg d69.symm]; exact v9
              have w6 : VS.look (putAt (putAt s'.objs b6 [.li none PL, .v (.slice none 0 0), .v (.slice none 0 0), .v (.slice none 0 0), I sp.ver, I sp.tree]) b7 [I (tk.headD 0)]) b6 = some [.li none PL, .v (.slice none 0 0), .v (.slice none 0 0), .v (.slice none 0 0), I sp.ver, I sp.tree] := by rw [look_putAt, if_neg d67]; exact q6 _
              have w7 : VS.look (putAt (putAt s'.objs b6 [.li none PL, .v (.slice none 0 0), .v (.slice none 0 0), .v (.slice none 0 0), I sp.ver, I sp.tree]) b7 [I (tk.headD 0)]) b7 = some [I (tk.headD 0)] := by rw [look_putAt, if_pos rfl, q7]; rfl
              have w3 : VS.look (putAt (putAt s'.objs b6 [.li none PL, .v (.slice none 0 0), .v (.slice none 0 0), .v (.slice none 0 0), I sp.ver, I sp.tree]) b7 [I (tk.headD 0)]) b3 = some [.li none sp.pg, LI sp.free, LI sp.fresh, LI sp.gone, I sp.ver, I sp.tree] := by rw [look_putAt, if_neg d37]; exact q3 _
              have w11 : VS.look (putAt (putAt s'.objs b6 [.li none PL, .v (.slice none 0 0), .v (.slice none 0 0), .v (.slice none 0 0), I sp.ver, I sp.tree]) b7 [I (tk.headD 0)]) b11 = some [.li none PL, LF l] := by rw [look_putAt, if_neg hE5.d7.symm]; exact q11 _
              have wsub : Sub { s' with objs := putAt (putAt s'.objs b6 [.li none PL, .v (.slice none 0 0), .v (.slice none 0 0), .v (.slice none 0 0), I sp.ver, I sp.tree]) b7 [I (tk.headD 0)] } s := sub_put (sub_put hsub n6 _) n7 _
              generalize putAt (putAt s'.objs b6 [.li none PL, .v (.slice none 0 0), .v (.slice none 0 0), .v (.slice none 0 0), I sp.ver, I sp.tree]) b7 [I (tk.headD 0)] = O at w3 w6 w7 w8 w9 w11 wsub ⊢
              refine LL_cons fun Q' hQ => WL_st (s' := { s' with objs := putAt O b8 [LF l] }) (by simp [go_sem, w8]) (hQ (.v undef) _ ⟨by rw [look_putAt, if_neg d38]; exact w3, by rw [look_putAt, if_neg d78]; exact w7, by rw [look_putAt, if_neg hE5.d8.symm]; exact w11⟩ ?_)
              have x9 : VS.look (putAt O b8 [LF l]) b9 = some [I 0] := by rw [look_putAt, if_neg d89.symm]; exact w9
              refine LL_cons fun Q' hQ => WL_st (s' := { s' with objs := putAt (putAt O b8 [LF l]) b9 [I 0] }) (by simp [go_sem, x9]) (hQ (.v undef) _ ⟨by rw [look_putAt, if_neg d39, look_putAt, if_neg d38]; exact w3, by rw [look_putAt, if_neg d79, look_putAt, if_neg d78]; exact w7, by rw [look_putAt, if_neg hE5.d9.symm, look_putAt, if_neg hE5.d8.symm]; exact w11⟩ ?_)
              have z6 : VS.look (putAt (putAt O b8 [LF l]) b9 [I 0]) b6 = some [.li none PL, .v (.slice none 0 0), .v (.slice none 0 0), .v (.slice none 0 0), I sp.ver, I sp.tree] := by rw [look_putAt, if_neg d69, look_putAt, if_neg d68]; exact w6
              have z7 : VS.look (putAt (putAt O b8 [LF l]) b9 [I 0]) b7 = some [I (tk.headD 0)] := by rw [look_putAt, if_neg d79, look_putAt, if_neg d78]; exact w7
              have z8 : VS.look (putAt (putAt O b8 [LF l]) b9 [I 0]) b8 = some [LF l] := by rw [look_putAt, if_neg d89, look_putAt, if_pos rfl, w8]; rfl
              have z9 : VS.look (putAt (putAt O b8 [LF l]) b9 [I 0]) b9 = some [I 0] := by rw [look_putAt, if_pos rfl, x9]; rfl
              have zsub : Sub { s' with objs := putAt (putAt O b8 [LF l]) b9 [I 0] } s := sub_put (sub_put wsub hD.n8 _) hD.n9 _
              generalize putAt (putAt O b8 [LF l]) b9 [I 0] = O2 at z6 z7 z8 z9 zsub ⊢
              refine LL_nil (WL_nil ?_)
              simp only [go_sem]
              refine W_ret ?_
              simp only [retD, set_none, set_f, set_ds, envL_ds]
              refine leave_ret ⟨.tup [.agg [.li none PL, .v (.slice none 0 0), .v (.slice none 0 0), .v (.slice none 0 0), I sp.ver, I sp.tree], I (tk.headD 0), LF l, I 0], ?_, s, zsub, ?_, rfl⟩
              · simp [go_sem, z6, z7, z8, z9]
              · rw [hend]
                simp [go_sem, intsE]
        have v7 := hE5.o.v7
        cases tk with
        | nil =>
          refine W_ifs false (by simp [go_sem]) (fun h => by cases h) (fun _ => W_skip ?_)
          simp only [go_sem]
          exact last _ _ (by simp [go_sem]) (by simp [go_sem]) v7 hE5.o.v3 hE5.o.v6 hE5.o.v8 hE5.o.v9 hE5.v11 hE5.sub hE5.row
        | cons x0 tk0 =>
          refine W_ifs true (by simp [go_sem]) (fun _ => W_reg ?_) (fun h => by cases h)
          simp [go_sem, intsE, v7]
          refine last _ _ (by simp [go_sem]) (by simp [go_sem]) ?_ ?_ ?_ ?_ ?_ ?_ ?_ hE5.row
          · show VS.look (putAt s5.objs b7 _) _ = _
            rw [look_putAt, if_pos rfl, v7]; rfl
          · show VS.look (putAt s5.objs b7 _) _ = _
            rw [look_putAt, if_neg d37]; exact hE5.o.v3
          · show VS.look (putAt s5.objs b7 _) _ = _
            rw [look_putAt, if_neg d67]; exact hE5.o.v6
          · show VS.look (putAt s5.objs b7 _) _ = _
            rw [look_putAt, if_neg d78.symm]; exact hE5.o.v8
          · show VS.look (putAt s5.objs b7 _) _ = _
            rw [look_putAt, if_neg d79.symm]; exact hE5.o.v9
          · show VS.look (putAt s5.objs b7 _) _ = _
            rw [look_putAt, if_neg hE5.d7.symm]; exact hE5.v11
          · exact sub_put hE5.sub n7 _
    clear hK
    refine W_block (W_loopL (fun f L s' => ∃ bp P l tk, L = [(3, ptr b3 0), (6, ptr b6 0), (7, ptr b7 0), (8, ptr b8 0), (9, ptr b9 0), (11, ptr b11 0), (14, .li (some r) (intsE tk))] ∧ EndS s s' sp b3 b6 b7 b8 b9 b11 bp P l ∧ VS.look s'.toks r = some (1, tk.length) ∧ PgE P ∧ 2 ≤ P.length ∧ P.length ≤ 4096 ∧ Sz (n + m + m) l ∧ OKL l P.length tk ∧ (nums l).length ≤ 1000000 ∧ 1 ≤ f ∧ (nums l).length + 1 ≤ f + tk.length ∧ tk.length ≤ 1000000 ∧ endP sp rest shrink = (match takeLoop f P l tk with | some r => endOk sp r | none => endErr 7))
      (ds := [dCaught b9 44 (endCaps b6 b7 b8)]) (n := (nums l).length + 1) (l := [(3, ptr b3 0), (6, ptr b6 0), (7, ptr b7 0), (8, ptr b8 0), (9, ptr b9 0), (11, ptr b11 0), (14, .li (some r) (intsE []))]) ?_ ⟨bp', P, l, [], rfl, hES, htok, hPg, hP2, hP4, hsz, hok, hnl, by omega, by simp, by simp, hend⟩ (by simp [go_sem, intsE]) (by simp [go_sem]))
    clear hES hPg hP2 hP4 hsz hok hnl hend htok hE' hds'
    rintro f _ s' ⟨bp, P, l, tk, rfl, hES, htok, hPg, hP2, hP4, hsz, hok, hnl, hf1, hfn, htl, hend⟩
    obtain ⟨f, rfl⟩ : ∃ f', f = f' + 1 := ⟨f - 1, by omega⟩
    have v11 := hES.v11
    refine W_block (W_seq (W_reg ?_))
    simp [go_sem, v11]
    refine Pure.use (listNeeds_c (n + m + m) l hsz (by omega) (by omega)) ?_
    rw [hok.freed]
    simp [go_sem]
    refine W_keep [(3, ptr b3 0), (6, ptr b6 0), (7, ptr b7 0), (8, ptr b8 0), (9, ptr b9 0), (11, ptr b11 0), (14, .li (some r) (intsE tk)), (15, I ((partsP l).length : Nat)), (16, I 0)] (by simp [go_sem]) ?_
    refine W_seq (W_reg ?_)
    simp [go_sem]
    refine (must_c _ _).use (fun c s3 hc => ?_) (fun ch s3 hc => absurd rfl hc.1)
    have hc3 := hc.2.symm
    subst hc3
    simp [go_sem]
    refine W_seq (W_seq (W_reg ?_))
    simp [go_sem, intsE_length]
    have hpl2 := partsP_le l
    unfold takeLoop at hend
    by_cases hpt : (partsP l).length ≤ tk.length
    · rw [if_pos hpt] at hend
      refine W_ifs true (by simp [go_sem]; omega) (fun _ => W_exit ?_) (fun h => by cases h)
      simp [go_sem]
      exact after2 _ _ bp P l tk (by simp [go_sem]) (by simp [go_sem]) hES hPg hP2 hP4 hsz hok hnl hpt htl hend
    · rw [if_neg hpt] at hend
      refine W_ifs false (by simp [go_sem]; omega) (fun h => by cases h) (fun _ => W_skip ?_)
      simp only [go_sem]
      refine W_reg ?_
      simp [go_sem]
      refine (take_m (R0 := s.rows) b11 bp P (n + m + m) l s' v11 hsz (by omega) hok.ne hES.row (by omega)).use (fun c s3 hc => ?_) (fun ch s3 hc => ?_)
      · obtain ⟨x, bp3, P3, l3, rfl, hE3, htk3, hPg3, hP23, hP43, hsz3, hok3, hnl3, hend3⟩ : ∃ (x : Int) (bp3 : Nat) (P3 : List (List C)) (l3 : List Fr), c = I x ∧ EndS s s3 sp b3 b6 b7 b8 b9 b11 bp3 P3 l3 ∧ VS.look s3.toks r = some (1, tk.length) ∧ PgE P3 ∧ 2 ≤ P3.length ∧ P3.length ≤ 4096 ∧ Sz (n + m + m) l3 ∧ OKL l3 P3.length (tk ++ [x]) ∧ (nums l3).length ≤ (nums l).length ∧
            endP sp rest shrink = (match takeLoop f P3 l3 (tk ++ [x]) with | some r => endOk sp r | none => endErr 7) := by
          rcases hc with ⟨hlb, rfl, hc3⟩ | ⟨hlb, hlt, rfl, bp3, R3, hR3, hc3⟩
          · rw [if_pos hlb] at hend
            refine ⟨_, bp, P, leastL l, rfl, by rw [hc3]; exact hES.updL _, by rw [hc3]; exact htok, hPg, hP2, hP4, leastL_sz hsz, hok.least hlb, by have := leastL_nums hok.ne hlb; omega, hend⟩
          · rw [hlb] at hend
            simp only [Bool.false_eq_true, if_false] at hend
            rw [if_pos hlt] at hend
            refine ⟨_, bp3, P ++ [zpage], l, rfl, by rw [hc3]; exact hES.upd _ hR3, by rw [hc3]; exact htok, fun e he => ?_, by simp; omega, by simp; omega, hsz, by simpa using hok.more hlb hP2, Nat.le_refl _, hend⟩
            rcases List.mem_append.1 he with he | he
            · exact hPg e he
            · simp at he; subst he; exact zpage_ok
        clear hc hES htok hPg hP2 hP4 hsz hok hend v11
        have hT3 : tk.length ≤ 10000000 := by omega
        simp [go_sem]
        refine WL_buildSlice tel_23 (by simp [go_sem]) (by rfl) (by rfl) (by simp [partsC, go_sem]) (by simp [partsC, go_sem]) (by simp [go_sem]) (by simp) (by simp) fun r2 hr2 => ?_
        have hne2 : r2 ≠ r := fun e => by subst e; rw [hr2] at htk3; cases htk3
        refine WL_append (r := r) (z := 1) (es := intsE tk) (es2 := [[I x]]) tel_23 (by simp [go_sem]) (by simp [go_sem]) (by rw [intsE_length]; exact lookCons hr2 htk3) (by simp [go_sem]) (by simp [go_sem]) (by simp [go_sem, elsC, partsC]) (by simp) (by rw [intsE_length]; simp [go_sem]; omega) (by simp [go_sem]) (by simp) (WL_run _ _ _ ?_)
        have hE4 := hE3.toks (T := putAt ((r2, (tsz Tryz.prog 3, 1)) :: s3.toks) r (1, (intsE tk ++ [[I x]]).length)) fun k y hk => by
          have : k ≠ r := fun e => by subst e; rw [hrs] at hk; cases hk
          rw [look_putAt, if_neg this]
          exact lookCons hr2 (hE3.sub.toks k y hk)
        have htk4 : VS.look (putAt ((r2, (tsz Tryz.prog 3, 1)) :: s3.toks) r (1, (intsE tk ++ [[I x]]).length)) r = some (1, (tk ++ [x]).length) := by
          rw [look_putAt, if_pos rfl, lookCons hr2 htk3]; simp [intsE_length]
        have he : intsE tk ++ [[I x]] = intsE (tk ++ [x]) := by simp [intsE]
        rw [he] at hE4 htk4 ⊢
        simp [go_sem]
        refine ⟨f, Nat.lt_succ_self _, _, ⟨bp3, P3, l3, tk ++ [x], rfl, hE4, htk4, hPg3, hP23, hP43, hsz3, hok3, by omega, by omega, by simp; omega, by simp; omega, hend3⟩, by simp [go_sem]⟩
      · obtain ⟨hlb, hP, rfl, hc3⟩ := hc
        subst hc3
        rw [hlb] at hend
        simp only [Bool.false_eq_true, if_false] at hend
        rw [if_neg (by omega)] at hend
        simp only [nextQ_panic, blockQ_panic, retD]
        exact fin _ _ 7 hend hES.o hES.sub (by simp [go_sem]) (by simp [go_sem]) (by simp [go_sem]) (by simp [go_sem])
  clear hK
  cases shrink
  · simp only [Bool.false_eq_true, if_false] at hEP
    refine W_ifs false (by simp [go_sem]) (fun h => by cases h) (fun _ => W_skip ?_)
    simp only [go_sem]
    exact after _ _ bp p1 l2 (by simp [go_sem]) (by simp [go_sem]) hE5 hpc (by omega) (by omega) hs2 (by rw [hlc]; exact hgood.okl hpr.2) hn2 hEP
  · simp only [if_true] at hEP
    have htr := tail_range hgood (by omega)
    have htc := tail_c (n + m + m) l2 sp.pg.length hs2 (by omega) (by omega) (by omega)
    generalize ht : tailP l2 sp.pg.length = t at htr htc hEP
    obtain ⟨tn, rfl⟩ : ∃ tn : Nat, t = (tn : Int) := ⟨t.toNat, by omega⟩
    simp only [Int.toNat_natCast] at hEP
    refine W_ifs true (by simp [go_sem]) (fun _ => W_seq (W_drawr 13 Tryz.mixed (by kernel_rfl) ?_)) (fun h => by cases h)
    have v11 := hE5.v11
    have ht2 : (tn : Int) ≤ p1.length := by omega
    simp [go_sem, v11]
    refine ⟨_, htc, ?_⟩
    simp [go_sem, v11, ht2]
    refine W_short (b := bp) (z := 10) (es := p1) tn (RowIn.rs_row hE5.row).1 (fun x hx => (hpc x hx).1) ?_
    have htl : (p1.take tn).length = tn := by rw [List.length_take]; omega
    have hE6 : EndS s { s5 with objs := putAt s5.objs b11 [.rs bp tn, LF l2], rows := putAt s5.rows bp (10, p1.take tn) } sp b3 b6 b7 b8 b9 b11 bp (p1.take tn) l2 := by
      have h1 := hE5.upd l2 (rowSet (es' := p1.take tn) hE5.row)
      rw [htl] at h1
      exact h1
    refine (fun (h : ∀ s6 : St, EndS s s6 sp b3 b6 b7 b8 b9 b11 bp (p1.take tn) l2 → W Tryz.prog ⟨191, none⟩ _ _ s6 _) => h _ hE6) ?_
    clear hE6 hE5 v11
    intro s6 hE6
    have v11 := hE6.v11
    rw [htl] at v11
    refine W_keep [(3, ptr b3 0), (6, ptr b6 0), (7, ptr b7 0), (8, ptr b8 0), (9, ptr b9 0), (11, ptr b11 0)] (by simp [go_sem]) ?_
    refine W_drawr 8 Tryz.mixed (by kernel_rfl) ?_
    simp [go_sem, v11]
    refine (keep_m b11 (.rs bp tn) (n + m + m) l2 tn s6 v11 hs2 (by omega) (fun f hf => (hgood.ok f hf).2.2.1) (fun f hf => (hgood.ok f hf).2.2.2.1)).use (fun c s7 hc => ?_) (fun _ _ h => h.elim)
    have hE7 := hE6.updL (keepP l2 tn)
    rw [htl, ← hc] at hE7
    simp [go_sem]
    refine after _ _ bp (p1.take tn) (keepP l2 tn) (by simp [go_sem]) (by simp [go_sem]) hE7 (fun e he => hpc e (List.mem_of_mem_take he)) (by omega) (by omega) (keep_sz hs2 _) ?_ (Nat.le_trans (keep_nums _ _) hn2) hEP
    rw [htl]
    exact keep_okl (hgood.okl hpr.2)
end Go.Proofs.YtpmknffollpnaaaGreat
namespace Go.Proofs.YtpmknffollpnaaaGreat
open Go Go.VS
def cntL (l : List Fr) (k : Nat) : Nat := ((l.take k).map fun f => f.p.length).sum
def shortL (l : List Fr) : Bool := !(decide (cntL l (min l.length 201) > 900) || decide (l.length > 200))
def shortB (ls : List (List Fr)) : Bool := ls.all shortL
theorem cntL_succ (l : List Fr) (k : Nat) (h : k < l.length) : cntL l (k + 1) = cntL l k + l[k].p.length := by
  unfold cntL
  rw [List.take_succ_eq_append_getElem h, List.map_append, List.sum_append]
  simp
theorem cntL_le (l : List Fr) (M : Nat) (h : ∀ f ∈ l, f.p.length ≤ M) (k : Nat) : cntL l k ≤ k * M := by
  induction k with
  | zero => simp [cntL]
  | succ k ih =>
    by_cases hk : k < l.length
    · rw [cntL_succ l k hk, Nat.succ_mul]
      have := h _ (List.getElem_mem hk)
      omega
    · have : cntL l (k + 1) = cntL l k := by unfold cntL; rw [List.take_of_length_le (by omega), List.take_of_length_le (by omega)]
      rw [this, Nat.succ_mul]
      omega
set_option maxRecDepth 4000 in
theorem short_c (ls : List (List Fr)) (hl : ls.length ≤ 1000) (hls : ∀ l ∈ ls, l.length ≤ 281474976710656 ∧ ∀ f ∈ l, f.p.length ≤ 281474976710656) : Pure Tryz.prog 14 [.li none (lpE ls)] (Bo (shortB ls)) := by
  intro s
  refine CallC_of Tryz.func14 rfl (by rfl) Tryz.ntmps14 (by simp) ?_
  refine W_seq (W_reg ?_)
  simp [go_sem]
  refine W_seq_k fun K hK => W_seq (W_reg ?_)
  simp [go_sem]
  refine W_for ls.length (fun i L s' => L = [(0, .li none (lpE ls)), (3, I i)] ∧ s' = s ∧ (ls.take i).all shortL = true) (l0 := [(0, .li none (lpE ls)), (3, I 0)]) (ds := []) ⟨rfl, rfl, by simp⟩ (by simp [go_sem]) rfl ?_
  rintro i _ s1 hi ⟨rfl, rfl, hall⟩ K1 hK1
  refine W_reg ?_
  simp [go_sem, lpE_length]
  refine hK1 _ _ (decide (i < ls.length)) [(0, .li none (lpE ls)), (3, I i)] (by simp [go_sem]) (by simp [go_sem]) (by simp [go_sem]) (fun hlt => ?_) (fun hge => ?_)
  · simp only [decide_eq_true_eq] at hlt
    refine ⟨hlt, W_seq (W_reg ?_)⟩
    simp [go_sem]
    refine W_seq_k fun K2 hK2 => W_seq (W_reg ?_)
    simp [go_sem]
    obtain ⟨hll, hlp⟩ := hls _ (List.getElem_mem hlt)
    have hcl := cntL_le ls[i] _ hlp
    generalize hli : ls[i] = l at *
    have hget : (lpE ls)[i]? = some [LF l] := by rw [lpE_get]; simp [hlt, hli]
    refine W_for (min l.length 201) (fun j L s' => L = [(0, .li none (lpE ls)), (3, I i), (4, I (cntL l j)), (5, I j)] ∧ s' = s1) (l0 := [(0, .li none (lpE ls)), (3, I i), (4, I 0), (5, I 0)]) (ds := []) ⟨rfl, rfl⟩ (by simp [go_sem]) rfl ?_
    rintro j _ s2 hj ⟨rfl, rfl⟩ K3 hK3
    have hj1 : j ≤ l.length ∧ j ≤ 201 := by omega
    refine W_reg ?_
    simp [go_sem, lpE_get, hlt, hli, frsE_length]
    have key : K3 = K3 := rfl
    have step : ∀ (E' : Env), Has E' [(22, Bo (decide (j < min l.length 201))), (0, .li none (lpE ls)), (3, I i), (4, I (cntL l j)), (5, I j)] → E'.ds = [] → K3 E' s2 := fun E' h1 h2 => by
      refine hK3 _ _ (decide (j < min l.length 201)) [(0, .li none (lpE ls)), (3, I i), (4, I (cntL l j)), (5, I j)] h2 (by simp [go_sem] at h1; exact h1.1) (by simp [go_sem] at h1; simpa [go_sem] using h1.2) (fun hlt2 => ?_) (fun hge2 => ?_)
      · simp only [decide_eq_true_eq] at hlt2
        have hj2 : j < l.length := by omega
        have hb := hcl j
        have hb2 := hlp _ (List.getElem_mem hj2)
        have hcs := cntL_succ l j hj2
        have hw : IntKind.i64.wrap ((cntL l j : Int) + (l[j].p.length : Int)) = ((cntL l (j + 1) : Nat) : Int) := by rw [wrap_in (by omega) (by omega)]; omega
        have hw2 : IntKind.i64.wrap ((j : Int) + 1) = ((j + 1 : Nat) : Int) := by rw [wrap_in (by omega) (by omega)]; omega
        refine ⟨hlt2, W_reg ?_⟩
        simp [go_sem, lpE_get, hlt, hli, frsE_get, hj2, frC, intsE_length, hw]
        refine W_reg ?_
        simp [go_sem, hw2]
      · simp only [decide_eq_false_iff_not] at hge2
        have hjm : j = min l.length 201 := by omega
        simp only [go_sem]
        refine hK2 _ _ (W_seq (W_reg ?_))
        simp [go_sem]
        have hsl : shortL l = !(decide (cntL l j > 900) || decide (l.length > 200)) := by unfold shortL; rw [← hjm]
        by_cases h9 : 900 < cntL l j
        · have h9' : (900 : Int) < (cntL l j : Int) := by omega
          simp [go_sem, h9']
          refine W_ifs true (by simp [go_sem]) (fun _ => W_seq (W_reg ?_)) (fun h => by cases h)
          simp [go_sem]
          refine W_ret ?_
          simp only [go_sem]
          have hf : shortB ls = false := by
            unfold shortB
            rw [List.all_eq_false]
            refine ⟨ls[i], List.getElem_mem hlt, ?_⟩
            rw [hli, hsl]
            simp [h9]
          exact ⟨trivial, _, rfl, s2, Sub.refl _, by simp [go_sem, hf], rfl⟩
        · have h9' : ¬ (900 : Int) < (cntL l j : Int) := by omega
          simp [go_sem, h9', lpE_get, hlt, hli, frsE_length]
          by_cases h2 : 200 < l.length
          · refine W_ifs true (by simp [go_sem]; omega) (fun _ => W_seq (W_reg ?_)) (fun h => by cases h)
            simp [go_sem]
            refine W_ret ?_
            simp only [go_sem]
            have hf : shortB ls = false := by
              unfold shortB
              rw [List.all_eq_false]
              refine ⟨ls[i], List.getElem_mem hlt, ?_⟩
              rw [hli, hsl]
              simp [h2]
            exact ⟨trivial, _, rfl, s2, Sub.refl _, by simp [go_sem, hf], rfl⟩
          · refine W_ifs false (by simp [go_sem]; omega) (fun h => by cases h) (fun _ => W_skip ?_)
            simp only [go_sem]
            have hw2 : IntKind.i64.wrap ((i : Int) + 1) = ((i + 1 : Nat) : Int) := by rw [wrap_in (by omega) (by omega)]; omega
            refine W_reg ?_
            have hnext : (ls.take (i + 1)).all shortL = true := by
              rw [List.take_succ_eq_append_getElem hlt, List.all_append, hall, hli]
              simp [hsl]
              omega
            simp only [go_sem, hw2]
            simp [go_sem, hw2]
            exact ⟨_, ⟨rfl, List.all_eq_true.1 hnext⟩, by simp [go_sem]⟩
    by_cases hj3 : j < l.length
    · have hj3' : (j : Int) < (l.length : Int) := by omega
      simp [go_sem, hj3]
      exact step _ (by simp [go_sem]; omega) (by simp [go_sem])
    · simp [go_sem, hj3]
      exact step _ (by simp [go_sem]; omega) (by simp [go_sem])
  · simp only [decide_eq_false_iff_not] at hge
    have hi' : ls.take i = ls := List.take_of_length_le (by omega)
    rw [hi'] at hall
    simp only [go_sem]
    refine hK _ _ ?_
    refine W_seq (W_reg ?_)
    simp [go_sem]
    refine W_ret ?_
    simp only [go_sem]
    exact ⟨trivial, _, rfl, s1, Sub.refl _, by simp [go_sem, shortB, hall], rfl⟩
end Go.Proofs.YtpmknffollpnaaaGreat
namespace Go.Proofs.YtpmknffollpnaaaGreat
open Go Go.VS
theorem checkE_out {l : List Fr} {pages : Int} (h : ¬ (2 ≤ pages ∧ pages ≤ 4096)) : checkE l pages = 1 := by
  unfold checkE
  rw [if_neg]
  simpa using h
theorem check_a (l : List Fr) (pages : Int) : Pure Tryz.prog 28 [LF l, I pages] (I (checkE l pages)) := by
  by_cases h : 2 ≤ pages ∧ pages ≤ 4096
  · exact check_c l pages (by omega) (by omega)
  · intro s
    refine CallC_of Tryz.func28 rfl (by rfl) Tryz.ntmps28 (by simp) ?_
    refine W_seq (W_reg ?_)
    simp [go_sem]
    refine W_seq (W_block (W_seq (W_reg ?_)))
    simp [go_sem]
    refine Pure.use (within_c _ _ _) ?_
    have hw : (decide (2 ≤ pages) && decide (pages ≤ 4096)) = false := by simpa using h
    rw [hw, checkE_out h]
    simp [go_sem]
    refine W_ifs true (by simp [go_sem]) (fun _ => W_seq (W_reg ?_)) (fun h => by cases h)
    simp [go_sem]
    refine W_ret ?_
    simp only [go_sem]
    refine ⟨trivial, _, rfl, s, Sub.refl _, ?_, rfl⟩
    simp [go_sem]
theorem Tail_a (n : Nat) (l : List Fr) (pages : Int) (hs : Sz n l) (hn : n ≤ 1000000000) : Pure Tryz.prog 19 [LF l, I pages] (.tup [I (if checkE l pages = 0 then tailP l pages else 0), I (checkE l pages)]) := by
  by_cases h : 2 ≤ pages ∧ pages ≤ 4096
  · exact Tail_c n l pages hs hn (by omega) (by omega)
  · intro s
    refine CallC_of Tryz.func19 rfl (by rfl) Tryz.ntmps19 (by simp) ?_
    refine W_seq (W_reg ?_)
    simp [go_sem]
    refine W_seq (W_seq (W_reg ?_))
    simp [go_sem]
    refine Pure.use (check_a _ _) ?_
    rw [checkE_out h]
    simp [go_sem]
    refine W_seq (W_reg ?_)
    simp [go_sem]
    refine W_ifs true (by simp [go_sem]) (fun _ => W_seq (W_reg ?_)) (fun h => by cases h)
    simp [go_sem]
    refine W_ret ?_
    simp only [go_sem]
    exact ⟨trivial, _, rfl, s, Sub.refl _, by simp [go_sem], rfl⟩
theorem account_a (n : Nat) (pages : Int) (used : List Int) (l : List Fr) (hs : Sz n l) (hn : n ≤ 100000000) (hu : used.length ≤ 100000000) (ht : (nums l).length ≤ 100000000) :
    Pure Tryz.prog 22 [I pages, LI used, LF l] (.tup [I (accP pages used l).1, I (accP pages used l).2]) := by
  by_cases h : 2 ≤ pages ∧ pages ≤ 4096
  · exact account_c n pages used l hs hn hu ht (by omega) (by omega)
  · intro s
    refine CallC_ofM Tryz.func22 rfl (by rfl) Tryz.ntmps22 (by simp) ?_
    refine W_seq (W_reg ?_)
    simp [go_sem]
    refine W_seq (W_seq (W_reg ?_))
    simp [go_sem]
    refine Pure.use (check_a _ _) ?_
    have hA : accP pages used l = (1, 0) := by unfold accP; rw [checkE_out h]; rfl
    rw [checkE_out h, hA]
    simp [go_sem]
    refine W_seq (W_reg ?_)
    simp [go_sem]
    refine W_ifs true (by simp [go_sem]) (fun _ => W_seq (W_reg ?_)) (fun h => by cases h)
    simp [go_sem]
    refine W_ret ?_
    simp only [go_sem]
    exact .inl ⟨trivial, _, rfl, s, Sub.refl _, by simp [go_sem], rfl⟩
end Go.Proofs.YtpmknffollpnaaaGreat
namespace Go.Proofs.YtpmknffollpnaaaGreat
open Go Go.VS
theorem sorted_eq {l : List Int} (h : l.Pairwise (· ≤ ·)) : sorted l = l := eq_of_le (sorted_perm l) (sorted_le l) h
def saneL : List Fr := [⟨0, [5]⟩, ⟨3, [7, 8]⟩, ⟨4, [9]⟩]
theorem sane_use : usableP saneL 4 = .tup [LI [5, 7, 8], LF [⟨4, [9]⟩], I 0] := by
  unfold usableP
  have h1 : validB saneL 4096 = true := by kernel_rfl
  have h2 : inV 4 = true := by kernel_rfl
  rw [h1, h2]
  have h3 : useP saneL 4 = [5, 7, 8] := by
    show sorted [5, 7, 8] = _
    exact sorted_eq (by simp)
  rw [if_pos rfl, if_pos rfl, h3]
  rfl
def saneSp : Sp := ⟨List.replicate 6 zpage, [4, 5], [], [3], 2, 0⟩
def saneR : List Fr := [⟨0, [5]⟩, ⟨1, [3]⟩]
theorem sane_l2 : putF (putF [] (2 - 1) [3]) 0 [4, 5] = [⟨0, [4, 5]⟩, ⟨1, [3]⟩] := by simp [putF, mergeF_nil, mergeF_nil', mergeF_cons]
theorem sane_end1 : endP saneSp [] false = endOk saneSp (List.replicate 6 zpage, saneR, [4]) := by
  unfold endP
  have e1 : putF (putF [] (saneSp.ver - 1) saneSp.gone) 0 saneSp.free = [⟨0, [4, 5]⟩, ⟨1, [3]⟩] := sane_l2
  rw [e1]
  have e2 : (inV saneSp.ver && (decide (2 ≤ saneSp.pg.length) && decide (saneSp.pg.length ≤ 4096))) = true := by kernel_rfl
  have e3 : (validB [] saneSp.pg.length && (incr saneSp.free saneSp.pg.length && incr saneSp.gone saneSp.pg.length)) = true := by kernel_rfl
  have e4 : validB [⟨0, [4, 5]⟩, ⟨1, [3]⟩] saneSp.pg.length = true := by kernel_rfl
  have e5 : takeLoop ((nums [⟨0, [4, 5]⟩, ⟨1, [3]⟩]).length + 1) (clearAt saneSp.pg saneSp.free) [⟨0, [4, 5]⟩, ⟨1, [3]⟩] [] = some (List.replicate 6 zpage, saneR, [4]) := by kernel_rfl
  rw [e2, e3, if_pos rfl, if_pos rfl]
  simp only [e4, if_true, Bool.false_eq_true, if_false, e5]
theorem sane_end2 : endP saneSp [] true = endOk saneSp (List.replicate 5 zpage, [⟨1, [3]⟩], [4]) := by
  unfold endP
  have e1 : putF (putF [] (saneSp.ver - 1) saneSp.gone) 0 saneSp.free = [⟨0, [4, 5]⟩, ⟨1, [3]⟩] := sane_l2
  rw [e1]
  have e2 : (inV saneSp.ver && (decide (2 ≤ saneSp.pg.length) && decide (saneSp.pg.length ≤ 4096))) = true := by kernel_rfl
  have e3 : (validB [] saneSp.pg.length && (incr saneSp.free saneSp.pg.length && incr saneSp.gone saneSp.pg.length)) = true := by kernel_rfl
  have e4 : validB [⟨0, [4, 5]⟩, ⟨1, [3]⟩] saneSp.pg.length = true := by kernel_rfl
  have e6 : tailP [⟨0, [4, 5]⟩, ⟨1, [3]⟩] saneSp.pg.length = 4 := by kernel_rfl
  have e7 : keepP [⟨0, [4, 5]⟩, ⟨1, [3]⟩] 4 = [⟨1, [3]⟩] := by kernel_rfl
  have e5 : takeLoop ((nums [⟨1, [3]⟩]).length + 1) ((clearAt saneSp.pg saneSp.free).take (4 : Int).toNat) [⟨1, [3]⟩] [] = some (List.replicate 5 zpage, [⟨1, [3]⟩], [4]) := by kernel_rfl
  rw [e2, e3, if_pos rfl, if_pos rfl]
  simp only [e4, if_true, e6, e7, e5]
theorem sane_page : laidAt (List.replicate 6 zpage) [4] (listPagesC saneR [4] 2) 1 = [zpage, zpage, zpage, zpage, mkPg 4 4 2 0 (frP (partsP saneR) 0), zpage] := by kernel_rfl
theorem sane_ok1 : endOk saneSp (List.replicate 6 zpage, saneR, [4]) = .tup [.agg [.li none [zpage, zpage, zpage, zpage, mkPg 4 4 2 0 (frP (partsP saneR) 0), zpage], LI [], LI [], LI [], I 2, I 0], I 4, LF saneR, I 0] := by kernel_rfl
theorem sane_ok2 : endOk saneSp (List.replicate 5 zpage, [⟨1, [3]⟩], [4]) = .tup [.agg [.li none [zpage, zpage, zpage, zpage, mkPg 4 4 2 0 (frP (partsP [⟨1, [3]⟩]) 0)], LI [], LI [], LI [], I 2, I 0], I 4, LF [⟨1, [3]⟩], I 0] := by kernel_rfl
theorem sane_acc : accP 6 [2, 4] saneR = (0, 0) := by kernel_rfl
theorem sane_tail : (if checkE [⟨0, [4, 5]⟩] 6 = 0 then tailP [⟨0, [4, 5]⟩] 6 else 0) = 4 ∧ checkE [⟨0, [4, 5]⟩] 6 = 0 := by constructor <;> kernel_rfl
theorem sane_old : oldestP [⟨3, 1⟩, ⟨6, 1⟩] 7 = (3, 0) := by kernel_rfl
theorem sane_pin : pinF [⟨3, 2⟩] 5 = 0 ∧ mlook (pinM [⟨3, 2⟩]) 5 = none := by constructor <;> kernel_rfl
set_option maxRecDepth 4000 in
theorem sane_c (s : St) : CallC Tryz.prog 12 [] s (fun c s' => c = Bo true ∧ s' = s) (fun _ _ => False) := by
  refine CallC_of Tryz.func12 rfl (by rfl) Tryz.ntmps12 (by simp) ?_
  refine W_seq (W_reg ?_)
  simp [go_sem]
  refine W_seq (W_reg ?_)
  simp [go_sem]
  refine WL_buildSlice tel_23 (by simp [go_sem]) (by rfl) (by rfl) (by simp [partsC, go_sem]) (by simp [partsC, go_sem]) (by simp [go_sem]) (by simp) (by simp) fun r1 hr1 => WL_run _ _ _ ?_
  simp [go_sem, partsC]
  refine WL_buildSlice tel_23 (by simp [go_sem]) (by rfl) (by rfl) (by simp [partsC, go_sem]) (by simp [partsC, go_sem]) (by simp [go_sem]) (by simp) (by simp) fun r2 hr2 => WL_run _ _ _ ?_
  simp [go_sem, partsC]
  refine WL_buildSlice tel_23 (by simp [go_sem]) (by rfl) (by rfl) (by simp [partsC, go_sem]) (by simp [partsC, go_sem]) (by simp [go_sem]) (by simp) (by simp) fun r3 hr3 => WL_run _ _ _ ?_
  simp [go_sem, partsC]
  refine WL_buildSlice tel_26 (by simp [go_sem]) (by rfl) (by rfl) (by simp [partsC, go_sem]) (by simp [partsC, go_sem]) (by simp [go_sem]) (by simp) (by simp) fun r4 hr4 => WL_run _ _ _ ?_
  simp [go_sem, partsC]
  refine (fun (h : ∀ s1 : St, Sub s1 s → W Tryz.prog ⟨169, none⟩ _ _ s1 _) => h _ ?_) ?_
  · exact Sub.trans (sub_tok hr4 _) (Sub.trans (sub_tok hr3 _) (Sub.trans (sub_tok hr2 _) (sub_tok hr1 _)))
  clear hr1 hr2 hr3 hr4
  intro s1 hs1
  refine W_seq (W_reg ?_)
  simp [go_sem]
  have saneLe : ∀ {a b c : Option Nat} {d : Option Nat}, Le (.li d [[.v (.int .i64 0), .li a [[.v (.int .i64 5)]]], [.v (.int .i64 3), .li b [[.v (.int .i64 7)], [.v (.int .i64 8)]]], [.v (.int .i64 4), .li c [[.v (.int .i64 9)]]]]) (LF saneL) := by
    intro a b c d
    have r1 : ∀ {a : Option Nat} {es : List (List C)}, Le (.li a es) (.li none es) := .li_of (.refl (F2.refl .refl) _)
    exact .li_of (.cons (.cons (.refl _) (.cons r1 .nil)) (.cons (.cons (.refl _) (.cons r1 .nil)) (.cons (.cons (.refl _) (.cons r1 .nil)) .nil)))
  refine ((usable_c 3 saneL 4 ⟨by simp [saneL], by simp [saneL]⟩ (by omega) (by rw [show (nums saneL).length = 4 by rfl]; omega) s1).le (.cons saneLe (.cons (.refl _) .nil))).use (fun c s2 hc => ?_) (fun _ _ h => h.elim)
  obtain ⟨rfl, hc2⟩ := hc
  subst hc2
  rw [sane_use]
  simp [go_sem]
  refine W_keep [(2, LI [5, 7, 8]), (3, LF [⟨4, [9]⟩]), (4, I 0)] (by simp [go_sem]) ?_
  refine W_seq (W_reg ?_)
  simp [go_sem]
  refine WL_buildSlice tel_84 (by simp [go_sem]) (by rfl) (by rfl) (by simp [partsC, go_sem]) (by simp [partsC, go_sem]) (by simp [go_sem]) (by simp) (by simp) fun r5 hr5 => WL_run _ _ _ ?_
  simp [go_sem, partsC]
  have hs3 := Sub.trans (sub_tok hr5 (tsz Tryz.prog 83, 2)) hs1
  refine ((oldest_c [⟨3, 1⟩, ⟨6, 1⟩] 7 (by simp) _).le (.cons (.li_of (.refl (F2.refl .refl) _)) (.cons (.refl _) .nil))).use (fun c s3 hc => ?_) (fun _ _ h => h.elim)
  obtain ⟨rfl, hc2⟩ := hc
  rw [sane_old]
  have hs3' : Sub s3 s := by rw [hc2]; simpa [go_sem] using hs3
  clear hs3 hc2 hr5
  simp [go_sem]
  refine W_keep [(2, LI [5, 7, 8]), (3, LF [⟨4, [9]⟩]), (4, I 0), (5, I 3), (6, I 0)] (by simp [go_sem]) ?_
  refine W_seq (W_reg ?_)
  simp [go_sem]
  refine WL_buildSlice tel_84 (by simp [go_sem]) (by rfl) (by rfl) (by simp [partsC, go_sem]) (by simp [partsC, go_sem]) (by simp [go_sem]) (by simp) (by simp) fun r6 hr6 => WL_run _ _ _ ?_
  simp [go_sem, partsC]
  have hs4 := Sub.trans (sub_tok hr6 (tsz Tryz.prog 83, 1)) hs3'
  refine ((unpinNone_c [⟨3, 2⟩] 5 (by simp) sane_pin.1 sane_pin.2 _).le (.cons (.li_of (.refl (F2.refl .refl) _)) (.cons (.refl _) .nil))).use (fun c s4 hc => ?_) (fun _ _ h => h.elim)
  obtain ⟨rfl, hc2⟩ := hc
  have hs4' : Sub s4 s := by rw [hc2]; simpa [go_sem] using hs4
  clear hs4 hc2 hr6 hs3'
  simp [go_sem]
  refine W_keep [(2, LI [5, 7, 8]), (3, LF [⟨4, [9]⟩]), (4, I 0), (5, I 3), (6, I 0), (8, I 4)] (by simp [go_sem]) ?_
  refine W_seq (W_reg ?_)
  simp [go_sem]
  refine WL_makeSlice (n := 6) (k := .i64) (by simp [go_sem]) (by simp [go_sem]) tel_22 zpage_eq (by simp [go_sem, zpage]) (by simp [go_sem]) (by simp [go_sem]) (by unfold maxLen; omega) (by simp) fun b hb1 hb2 => ?_
  refine WL_freeze 48 10 (List.replicate 6 zpage) s4.rows ?_ (by rw [List.all_eq_true]; intro e he; rw [List.eq_of_mem_replicate he]; exact zpage_ok.2) ?_
  · refine ⟨.inr (.inr ⟨b, by simp [go_sem], by rw [tsz_89]; simp [VS.look]⟩), fun k x hk => lookCons hb1 hk, fun b' n hb' => ?_⟩
    simp [go_sem] at hb'
    rw [← hb'.1]
    exact hb1
  refine (fun (h : WL Tryz.prog ⟨169, none⟩ _ _ s4 _) => h) ?_
  refine WL_buildSlice tel_23 (by simp [go_sem]) (by rfl) (by rfl) (by simp [partsC, go_sem]) (by simp [partsC, go_sem]) (by simp [go_sem]) (by simp) (by simp) fun r7 hr7 => ?_
  refine WL_buildSlice tel_23 (by simp [go_sem]) (by rfl) (by rfl) (by simp [partsC, go_sem]) (by simp [partsC, go_sem]) (by simp [go_sem]) (by simp) (by simp) fun r8 hr8 => WL_run _ _ _ ?_
  simp [go_sem, partsC]
  refine WL_alloc tzero_25 (by simp) fun b9 hb9 => WL_run _ _ _ ?_
  simp [go_sem]
  have hs5 := Sub.trans (sub_tok hr8 (tsz Tryz.prog 3, 1)) (Sub.trans (sub_tok hr7 (tsz Tryz.prog 3, 2)) hs4')
  have hs6 := Sub.trans (sub_obj hb9 [C.li none [zpage, zpage, zpage, zpage, zpage, zpage], C.li (some r7) [[C.v (Value.int IntKind.i64 4)], [C.v (Value.int IntKind.i64 5)]], C.v (Value.slice none 0 0), C.li (some r8) [[C.v (Value.int IntKind.i64 3)]], C.v (Value.int IntKind.i64 2), C.v (Value.int IntKind.i64 0)]) hs5
  refine (fun (h : ∀ s6 : St, Sub s6 s → VS.look s6.objs b9 = some [C.li none [zpage, zpage, zpage, zpage, zpage, zpage], C.li (some r7) [[C.v (Value.int IntKind.i64 4)], [C.v (Value.int IntKind.i64 5)]], C.v (Value.slice none 0 0), C.li (some r8) [[C.v (Value.int IntKind.i64 3)]], C.v (Value.int IntKind.i64 2), C.v (Value.int IntKind.i64 0)] → W Tryz.prog ⟨169, none⟩ _ _ s6 _) => h _ (by exact hs6) (by simp [VS.look])) ?_
  clear hs5 hs6 hb9 hr8 hr7 hs4' hb1 hb2
  intro s6 hs6 v9
  refine W_keep [(2, LI [5, 7, 8]), (3, LF [⟨4, [9]⟩]), (4, I 0), (5, I 3), (6, I 0), (8, I 4), (9, .v (.pointer (some ⟨b9, 0, none⟩)))] (by simp [go_sem]) ?_
  have r1 : ∀ {a : Option Nat} {es : List (List C)}, Le (.li a es) (.li none es) := .li_of (.refl (F2.refl .refl) _)
  have leS : ∀ {a c : Option Nat}, F2 Le [C.li none [zpage, zpage, zpage, zpage, zpage, zpage], C.li a [[C.v (Value.int IntKind.i64 4)], [C.v (Value.int IntKind.i64 5)]], C.v (Value.slice none 0 0), C.li c [[C.v (Value.int IntKind.i64 3)]], C.v (Value.int IntKind.i64 2), C.v (Value.int IntKind.i64 0)] (spC saneSp) :=
    .cons (.refl _) (.cons r1 (.cons .nil (.cons r1 (.cons (.refl _) (.cons (.refl _) .nil)))))
  have hpgS : PgE saneSp.pg := fun e he => by rw [List.eq_of_mem_replicate he]; exact zpage_ok
  refine W_seq (W_reg ?_)
  simp [go_sem, v9]
  refine ((end_c 1 2 saneSp [] false ⟨by simp, by simp⟩ (by decide) (by decide) (by omega) (by omega) hpgS (by decide) (by simp [nums_nil]) s6).le (.cons (.agg_of leS) (.cons .nil (.cons (.refl _) .nil)))).use (fun c s7 hc => ?_) (fun _ _ h => h.elim)
  obtain ⟨rfl, hc2⟩ := hc
  subst hc2
  rw [sane_end1, sane_ok1]
  simp [go_sem]
  refine WL_alloc tzero_25 (by simp) fun b10 hb10 => WL_run _ _ _ ?_
  simp [go_sem]
  generalize hfr1 : frP (partsP saneR) 0 = fr1
  have hs8 := Sub.trans (sub_obj hb10 [C.li none [zpage, zpage, zpage, zpage, mkPg 4 4 2 0 fr1, zpage], LI [], LI [], LI [], I 2, I 0]) hs6
  refine (fun (h : ∀ s6 : St, Sub s6 s → VS.look s6.objs b9 = some [C.li none [zpage, zpage, zpage, zpage, zpage, zpage], C.li (some r7) [[C.v (Value.int IntKind.i64 4)], [C.v (Value.int IntKind.i64 5)]], C.v (Value.slice none 0 0), C.li (some r8) [[C.v (Value.int IntKind.i64 3)]], C.v (Value.int IntKind.i64 2), C.v (Value.int IntKind.i64 0)] → VS.look s6.objs b10 = some [C.li none [zpage, zpage, zpage, zpage, mkPg 4 4 2 0 fr1, zpage], LI [], LI [], LI [], I 2, I 0] → W Tryz.prog ⟨169, none⟩ _ _ s6 _) => h _ (by exact hs8) (by exact lookCons hb10.1 v9) (by simp [VS.look])) ?_
  clear hs8 hs6 hb10 v9 hfr1 s7
  intro s7 hs7 v9 v10
  refine W_keep [(2, LI [5, 7, 8]), (3, LF [⟨4, [9]⟩]), (4, I 0), (5, I 3), (6, I 0), (8, I 4), (9, .v (.pointer (some ⟨b9, 0, none⟩))), (10, .v (.pointer (some ⟨b10, 0, none⟩))), (11, I 4), (12, LF saneR), (13, I 0)] (by simp [go_sem]) ?_
  refine W_seq (W_reg ?_)
  simp [go_sem, v9]
  refine ((end_c 1 2 saneSp [] true ⟨by simp, by simp⟩ (by decide) (by decide) (by omega) (by omega) hpgS (by decide) (by simp [nums_nil]) s7).le (.cons (.agg_of leS) (.cons .nil (.cons (.refl _) .nil)))).use (fun c s8 hc => ?_) (fun _ _ h => h.elim)
  obtain ⟨rfl, hc2⟩ := hc
  subst hc2
  rw [sane_end2, sane_ok2]
  simp [go_sem]
  refine WL_alloc tzero_25 (by simp) fun b14 hb14 => WL_run _ _ _ ?_
  simp [go_sem]
  generalize hfr2 : frP (partsP [⟨1, [3]⟩]) 0 = fr2
  have hs9 := Sub.trans (sub_obj hb14 [C.li none [zpage, zpage, zpage, zpage, mkPg 4 4 2 0 fr2], LI [], LI [], LI [], I 2, I 0]) hs7
  refine (fun (h : ∀ s6 : St, Sub s6 s → VS.look s6.objs b10 = some [C.li none [zpage, zpage, zpage, zpage, mkPg 4 4 2 0 fr1, zpage], LI [], LI [], LI [], I 2, I 0] → VS.look s6.objs b14 = some [C.li none [zpage, zpage, zpage, zpage, mkPg 4 4 2 0 fr2], LI [], LI [], LI [], I 2, I 0] → W Tryz.prog ⟨169, none⟩ _ _ s6 _) => h _ (by exact hs9) (by exact lookCons hb14.1 v10) (by simp [VS.look])) ?_
  clear hs9 hs7 hb14 v9 v10 hfr2 leS hpgS
  intro s9 hs9 v10 v14
  refine W_keep [(2, LI [5, 7, 8]), (3, LF [⟨4, [9]⟩]), (4, I 0), (5, I 3), (6, I 0), (8, I 4), (10, .v (.pointer (some ⟨b10, 0, none⟩))), (11, I 4), (12, LF saneR), (13, I 0), (14, .v (.pointer (some ⟨b14, 0, none⟩))), (15, I 4), (16, LF [⟨1, [3]⟩]), (17, I 0)] (by simp [go_sem]) ?_
  refine W_seq (W_seq (W_reg ?_))
  simp [go_sem]
  refine WL_buildSlice tel_23 (by simp [go_sem]) (by rfl) (by rfl) (by simp [partsC, go_sem]) (by simp [partsC, go_sem]) (by simp [go_sem]) (by simp) (by simp) fun r9 hr9 => WL_run _ _ _ ?_
  simp [go_sem, partsC]
  have hs10 := Sub.trans (sub_tok hr9 (tsz Tryz.prog 3, 3)) hs9
  refine (((sameInts_c [5, 7, 8] [5, 7, 8]) _).le (.cons (.refl _) (.cons r1 .nil))).use (fun c s8 hc => ?_) (fun _ _ h => h.elim)
  obtain ⟨rfl, hc2⟩ := hc
  refine (fun (h : ∀ s6 : St, Sub s6 s → VS.look s6.objs b10 = some [C.li none [zpage, zpage, zpage, zpage, mkPg 4 4 2 0 fr1, zpage], LI [], LI [], LI [], I 2, I 0] → VS.look s6.objs b14 = some [C.li none [zpage, zpage, zpage, zpage, mkPg 4 4 2 0 fr2], LI [], LI [], LI [], I 2, I 0] → run Tryz.prog ⟨169, none⟩ _ _ s6 _) => h _ (by rw [hc2]; exact hs10) (by rw [hc2]; exact v10) (by rw [hc2]; exact v14)) ?_
  clear hs10 hs9 hr9 v10 v14 hc2 s9 s8
  intro s9 hs9 v10 v14
  simp [go_sem, frsE]
  refine W_ifs false (by simp [go_sem]) (fun h => by cases h) (fun _ => W_skip ?_)
  simp only [go_sem]
  refine W_keep [(10, .v (.pointer (some ⟨b10, 0, none⟩))), (11, I 4), (12, LF saneR), (14, .v (.pointer (some ⟨b14, 0, none⟩))), (15, I 4), (16, LF [⟨1, [3]⟩])] (by simp [go_sem]) ?_
  refine W_seq (W_seq (W_reg ?_))
  simp [go_sem, v10, mkPg]
  refine WL_buildSlice tel_23 (by simp [go_sem]) (by rfl) (by rfl) (by simp [partsC, go_sem]) (by simp [partsC, go_sem]) (by simp [go_sem]) (by simp) (by simp) fun r10 hr10 => WL_run _ _ _ ?_
  simp [go_sem, partsC]
  refine WL_buildSlice tel_23 (by simp [go_sem]) (by rfl) (by rfl) (by simp [partsC, go_sem]) (by simp [partsC, go_sem]) (by simp [go_sem]) (by simp) (by simp) fun r11 hr11 => WL_run _ _ _ ?_
  simp [go_sem, partsC]
  refine WL_buildSlice tel_26 (by simp [go_sem]) (by rfl) (by rfl) (by simp [partsC, go_sem]) (by simp [partsC, go_sem]) (by simp [go_sem]) (by simp) (by simp) fun r12 hr12 => WL_run _ _ _ ?_
  simp [go_sem, partsC]
  have hs11 := Sub.trans (sub_tok hr12 (tsz Tryz.prog 64, 2)) (Sub.trans (sub_tok hr11 (tsz Tryz.prog 3, 1)) (Sub.trans (sub_tok hr10 (tsz Tryz.prog 3, 1)) hs9))
  refine (((sameFreed_c saneR saneR) _).le (.cons (.refl _) (.cons (.li_of (.cons (.cons (.refl _) (.cons r1 .nil)) (.cons (.cons (.refl _) (.cons r1 .nil)) .nil))) .nil))).use (fun c s8 hc => ?_) (fun _ _ h => h.elim)
  obtain ⟨rfl, hc2⟩ := hc
  refine (fun (h : ∀ s6 : St, Sub s6 s → VS.look s6.objs b14 = some [C.li none [zpage, zpage, zpage, zpage, mkPg 4 4 2 0 fr2], LI [], LI [], LI [], I 2, I 0] → run Tryz.prog ⟨169, none⟩ _ _ s6 _) => h _ (by rw [hc2]; exact hs11) (by rw [hc2]; exact v14)) ?_
  clear hs11 hs9 hr10 hr11 hr12 v10 v14 hc2 s9 s8
  intro s9 hs9 v14
  simp [go_sem]
  refine W_ifs false (by simp [go_sem]) (fun h => by cases h) (fun _ => W_skip ?_)
  simp only [go_sem]
  refine W_keep [(12, LF saneR), (14, .v (.pointer (some ⟨b14, 0, none⟩))), (15, I 4), (16, LF [⟨1, [3]⟩])] (by simp [go_sem]) ?_
  refine W_seq (W_reg ?_)
  simp [go_sem]
  refine WL_buildSlice tel_23 (by simp [go_sem]) (by rfl) (by rfl) (by simp [partsC, go_sem]) (by simp [partsC, go_sem]) (by simp [go_sem]) (by simp) (by simp) fun r13 hr13 => WL_run _ _ _ ?_
  simp [go_sem, partsC]
  have hs12 := Sub.trans (sub_tok hr13 (tsz Tryz.prog 3, 2)) hs9
  refine ((account_a 2 6 [2, 4] saneR ⟨by simp [saneR], by simp [saneR]⟩ (by omega) (by simp) (by simp [saneR, nums_cons, nums_nil]) _).le (.cons (.refl _) (.cons r1 (.cons (.refl _) .nil)))).use (fun c s8 hc => ?_) (fun _ _ h => h.elim)
  obtain ⟨rfl, hc2⟩ := hc
  rw [sane_acc]
  refine (fun (h : ∀ s6 : St, Sub s6 s → VS.look s6.objs b14 = some [C.li none [zpage, zpage, zpage, zpage, mkPg 4 4 2 0 fr2], LI [], LI [], LI [], I 2, I 0] → run Tryz.prog ⟨169, none⟩ _ _ s6 _) => h _ (by rw [hc2]; exact hs12) (by rw [hc2]; exact v14)) ?_
  clear hs12 hs9 hr13 v14 hc2 s9 s8
  intro s9 hs9 v14
  simp [go_sem]
  refine W_keep [(14, .v (.pointer (some ⟨b14, 0, none⟩))), (15, I 4), (16, LF [⟨1, [3]⟩]), (18, I 0), (19, I 0)] (by simp [go_sem]) ?_
  refine W_seq (W_reg ?_)
  simp [go_sem]
  refine WL_buildSlice tel_23 (by simp [go_sem]) (by rfl) (by rfl) (by simp [partsC, go_sem]) (by simp [partsC, go_sem]) (by simp [go_sem]) (by simp) (by simp) fun r14 hr14 => WL_run _ _ _ ?_
  simp [go_sem, partsC]
  refine WL_buildSlice tel_26 (by simp [go_sem]) (by rfl) (by rfl) (by simp [partsC, go_sem]) (by simp [partsC, go_sem]) (by simp [go_sem]) (by simp) (by simp) fun r15 hr15 => WL_run _ _ _ ?_
  simp [go_sem, partsC]
  have hs13 := Sub.trans (sub_tok hr15 (tsz Tryz.prog 64, 1)) (Sub.trans (sub_tok hr14 (tsz Tryz.prog 3, 2)) hs9)
  refine ((Tail_a 2 [⟨0, [4, 5]⟩] 6 ⟨by simp, by simp⟩ (by omega) _).le (.cons (.li_of (.cons (.cons (.refl _) (.cons r1 .nil)) .nil)) (.cons (.refl _) .nil))).use (fun c s8 hc => ?_) (fun _ _ h => h.elim)
  obtain ⟨rfl, hc2⟩ := hc
  rw [sane_tail.1, sane_tail.2]
  refine (fun (h : ∀ s6 : St, Sub s6 s → VS.look s6.objs b14 = some [C.li none [zpage, zpage, zpage, zpage, mkPg 4 4 2 0 fr2], LI [], LI [], LI [], I 2, I 0] → run Tryz.prog ⟨169, none⟩ _ _ s6 _) => h _ (by rw [hc2]; exact hs13) (by rw [hc2]; exact v14)) ?_
  clear hs13 hs9 hr14 hr15 v14 hc2 s9 s8
  intro s9 hs9 v14
  simp [go_sem]
  refine W_keep [(14, .v (.pointer (some ⟨b14, 0, none⟩))), (15, I 4), (16, LF [⟨1, [3]⟩]), (18, I 0), (19, I 0), (20, I 4), (21, I 0)] (by simp [go_sem]) ?_
  refine W_seq (W_reg ?_)
  simp [go_sem, v14]
  refine WL_buildSlice tel_23 (by simp [go_sem]) (by rfl) (by rfl) (by simp [partsC, go_sem]) (by simp [partsC, go_sem]) (by simp [go_sem]) (by simp) (by simp) fun r16 hr16 => WL_run _ _ _ ?_
  simp [go_sem, partsC]
  refine WL_buildSlice tel_26 (by simp [go_sem]) (by rfl) (by rfl) (by simp [partsC, go_sem]) (by simp [partsC, go_sem]) (by simp [go_sem]) (by simp) (by simp) fun r17 hr17 => WL_run _ _ _ ?_
  simp [go_sem, partsC]
  have hs14 := Sub.trans (sub_tok hr17 (tsz Tryz.prog 64, 1)) (Sub.trans (sub_tok hr16 (tsz Tryz.prog 3, 1)) hs9)
  refine (((sameFreed_c [⟨1, [3]⟩] [⟨1, [3]⟩]) _).le (.cons (.refl _) (.cons (.li_of (.cons (.cons (.refl _) (.cons r1 .nil)) .nil)) .nil))).use (fun c s8 hc => ?_) (fun _ _ h => h.elim)
  obtain ⟨rfl, hc2⟩ := hc
  have hs15 : Sub s8 s := by rw [hc2]; exact hs14
  clear hs14 hs9 hr16 hr17 v14 hc2
  simp [go_sem]
  refine W_ret ?_
  simp only [go_sem]
  exact ⟨trivial, _, rfl, s, hs15, by simp [go_sem], rfl⟩
end Go.Proofs.YtpmknffollpnaaaGreat
namespace Go.Proofs.YtpmknffollpnaaaGreat
open Go Go.VS
theorem shortL_sz {l : List Fr} (h : shortL l = true) : Sz 900 l ∧ (l.map fun f => f.p.length).sum ≤ 900 := by
  unfold shortL at h
  simp at h
  have hl : l.length ≤ 200 := by omega
  have hc : cntL l (min l.length 201) = (l.map fun f => f.p.length).sum := by
    unfold cntL
    rw [List.take_of_length_le (by omega)]
  have hs : (l.map fun f => f.p.length).sum ≤ 900 := by omega
  refine ⟨⟨by omega, fun f hf => ?_⟩, hs⟩
  have : f.p.length ≤ (l.map fun f => f.p.length).sum := by
    clear h hc hs hl
    induction l with
    | nil => cases hf
    | cons g l ih =>
      simp only [List.map_cons, List.sum_cons]
      rcases List.mem_cons.1 hf with rfl | hf
      · omega
      · have := ih hf; omega
  omega
theorem nums_sum (l : List Fr) : (nums l).length = (l.map fun f => f.p.length).sum := by
  induction l with
  | nil => rfl
  | cons f l ih => rw [nums_cons]; simp [ih]
set_option maxRecDepth 4000 in
theorem spaceLists_c (a b : List Fr) (pages o : Int) (s : St) (ha : a.length ≤ 281474976710656 ∧ ∀ f ∈ a, f.p.length ≤ 281474976710656) (hb : b.length ≤ 281474976710656 ∧ ∀ f ∈ b, f.p.length ≤ 281474976710656) :
    CallC Tryz.prog 4 [LF a, LF b, I pages, I o] s (fun c s' => c = Bo true ∧ s' = s) (fun _ _ => False) := by
  refine CallC_of Tryz.func4 rfl (by rfl) Tryz.ntmps4 (by simp) ?_
  refine W_seq (W_reg ?_)
  simp [go_sem]
  refine W_seq (W_reg ?_)
  simp [go_sem]
  refine (sane_c s).use (fun c s2 hc => ?_) (fun _ _ h => h.elim)
  obtain ⟨rfl, hc2⟩ := hc
  subst hc2
  simp [go_sem]
  have r1 : ∀ {a : Option Nat} {es : List (List C)}, Le (.li a es) (.li none es) := .li_of (.refl (F2.refl .refl) _)
  refine W_keep [(0, LF a), (1, LF b), (2, I pages), (3, I o), (9, Bo true)] (by simp [go_sem]) ?_
  refine W_seq (W_seq (W_reg ?_))
  simp [go_sem]
  refine WL_buildSlice tel_90 (by simp [go_sem]) (by rfl) (by rfl) (by simp [partsC, go_sem]) (by simp [partsC, go_sem]) (by simp [go_sem]) (by simp) (by simp) fun r9 hr9 => WL_run _ _ _ ?_
  simp [go_sem, partsC]
  have hs1 := sub_tok hr9 (tsz Tryz.prog 26, 2)
  refine (((short_c [a, b] (by simp) (by simp; exact ⟨ha, hb⟩)) _).le (.cons r1 .nil)).use (fun c s8 hc => ?_) (fun _ _ h => h.elim)
  obtain ⟨rfl, hc2⟩ := hc
  refine (fun (h : ∀ s6 : St, Sub s6 s2 → run Tryz.prog ⟨88, none⟩ _ _ s6 _) => h _ (by rw [hc2]; exact hs1)) ?_
  clear hs1 hr9 hc2 s8
  intro s1 hs1
  simp [go_sem]
  cases hsh : shortB [a, b]
  · refine W_ifs true (by simp [go_sem]) (fun _ => W_seq (W_reg ?_)) (fun h => by cases h)
    simp [go_sem]
    refine W_ret ?_
    simp only [go_sem]
    exact ⟨trivial, _, rfl, s2, hs1, by simp [go_sem], rfl⟩
  · have hsab : shortL a = true ∧ shortL b = true := by simpa [shortB] using hsh
    obtain ⟨hsa, hca⟩ := shortL_sz hsab.1
    obtain ⟨hsb, hcb⟩ := shortL_sz hsab.2
    have hna := nums_sum a
    refine W_ifs false (by simp [go_sem]) (fun h => by cases h) (fun _ => W_skip ?_)
    simp only [go_sem]
    refine W_keep [(0, LF a), (1, LF b), (2, I pages), (3, I o), (9, Bo true)] (by simp [go_sem]) ?_
    refine W_seq (W_reg ?_)
    simp [go_sem]
    refine Pure.use (merge_c 900 900 a b hsa hsb (by omega)) ?_
    simp [go_sem]
    refine W_keep [(0, LF a), (1, LF b), (2, I pages), (3, I o), (9, Bo true), (10, LF (mergeP a b).1), (11, I (mergeP a b).2)] (by simp [go_sem]) ?_
    refine W_seq (W_reg ?_)
    simp [go_sem]
    refine Pure.use (refMerge_c 900 900 a b hsa hsb (by omega)) ?_
    rw [← merge_law]
    simp [go_sem]
    refine WL_alloc tzero_51 (by simp) fun b12 hb12 => WL_run _ _ _ ?_
    simp [go_sem]
    have hs2 := Sub.trans (sub_obj hb12 [LF (mergeP a b).1, I (mergeP a b).2]) hs1
    generalize (mergeP a b).1 = m1 at hs2 ⊢
    generalize (mergeP a b).2 = m2 at hs2 ⊢
    refine (fun (h : ∀ s6 : St, Sub s6 s2 → VS.look s6.objs b12 = some [LF m1, I m2] → W Tryz.prog ⟨88, none⟩ _ _ s6 _) => h _ hs2 (by simp [VS.look])) ?_
    clear hs2 hs1 hb12 s1
    intro s1 hs1 v12
    obtain ⟨u, rs, e, hu1, hu2⟩ : ∃ (u : List Int) (rs : List Fr) (e : Int), usableP a o = .tup [LI u, LF rs, I e] ∧ usableR a o = .agg [LI u, LF rs, I e] := by
      unfold usableP usableR
      rw [validB_max]
      split
      · split
        · exact ⟨useP a o, restP a o, 0, rfl, by rw [use_law]; rfl⟩
        · exact ⟨[], [], 1, rfl, rfl⟩
      · exact ⟨[], [], 2, rfl, rfl⟩
    have hU := usable_c 900 a o hsa (by omega) (by omega)
    have hUR := refUsable_c 900 a o hsa (by omega) (by omega)
    rw [hu1] at hU
    rw [hu2] at hUR
    refine W_keep [(0, LF a), (1, LF b), (2, I pages), (3, I o), (9, Bo true), (10, LF m1), (11, I m2), (12, .v (.pointer (some ⟨b12, 0, none⟩)))] (by simp [go_sem]) ?_
    refine W_seq (W_reg ?_)
    simp [go_sem]
    refine Pure.use hU ?_
    simp [go_sem]
    refine W_keep [(0, LF a), (1, LF b), (2, I pages), (3, I o), (9, Bo true), (10, LF m1), (11, I m2), (12, .v (.pointer (some ⟨b12, 0, none⟩))), (13, LI u), (14, LF rs), (15, I e)] (by simp [go_sem]) ?_
    refine W_seq (W_reg ?_)
    simp [go_sem]
    refine Pure.use hUR ?_
    simp [go_sem]
    refine WL_alloc tzero_56 (by simp) fun b16 hb16 => WL_run _ _ _ ?_
    simp [go_sem]
    have hs2 := Sub.trans (sub_obj hb16 [LI u, LF rs, I e]) hs1
    refine (fun (h : ∀ s6 : St, Sub s6 s2 → VS.look s6.objs b12 = some [LF m1, I m2] → VS.look s6.objs b16 = some [LI u, LF rs, I e] → W Tryz.prog ⟨88, none⟩ _ _ s6 _) => h _ hs2 (by exact lookCons hb16.1 v12) (by simp [VS.look])) ?_
    clear hs2 hs1 hb16 v12 s1
    intro s1 hs1 v12 v16
    refine W_keep [(0, LF a), (2, I pages), (9, Bo true), (10, LF m1), (11, I m2), (12, .v (.pointer (some ⟨b12, 0, none⟩))), (13, LI u), (14, LF rs), (15, I e), (16, .v (.pointer (some ⟨b16, 0, none⟩)))] (by simp [go_sem]) ?_
    refine W_seq (W_seq (W_reg ?_))
    simp [go_sem]
    refine Pure.use (check_a a pages) ?_
    simp [go_sem]
    refine Pure.use (refCheck_c 900 a pages hsa (by omega)) ?_
    simp [go_sem]
    refine Pure.use (total_c a (by omega)) ?_
    simp [go_sem]
    refine Pure.use (refTotal_c a (by omega)) ?_
    simp [go_sem]
    refine W_ifs false (by simp [go_sem]) (fun h => by cases h) (fun _ => W_skip ?_)
    simp only [go_sem]
    refine W_keep [(9, Bo true), (10, LF m1), (11, I m2), (12, .v (.pointer (some ⟨b12, 0, none⟩))), (13, LI u), (14, LF rs), (15, I e), (16, .v (.pointer (some ⟨b16, 0, none⟩)))] (by simp [go_sem]) ?_
    refine W_seq (W_reg ?_)
    simp [go_sem, v12, v16]
    refine Pure.use (sameFreed_c m1 m1) ?_
    simp [go_sem, v12, v16]
    refine Pure.use (sameInts_c u u) ?_
    simp [go_sem, v12, v16]
    refine Pure.use (sameFreed_c rs rs) ?_
    simp [go_sem, v12, v16]
    refine W_ret ?_
    simp only [go_sem]
    exact ⟨trivial, _, rfl, s2, hs1, by simp [go_sem], rfl⟩
end Go.Proofs.YtpmknffollpnaaaGreat
namespace Go.Proofs.YtpmknffollpnaaaGreat
open Go Go.VS
theorem u3 : Tryz.prog.underlying 3 = some (.int .i64) := by kernel_rfl
theorem u4 : Tryz.prog.underlying 4 = some .bool := by kernel_rfl
theorem u23 : Tryz.prog.underlying 23 = some (.slice 3) := by kernel_rfl
theorem u26 : Tryz.prog.underlying 26 = some (.slice 64) := by kernel_rfl
theorem c3 : Tryz.prog.cellsOf 3 = 1 := by kernel_rfl
theorem c23 : Tryz.prog.cellsOf 23 = 1 := by kernel_rfl
theorem b3 : Tryz.prog.bytesOf 3 = 8 := by kernel_rfl
theorem b64 : Tryz.prog.bytesOf 64 = 32 := by kernel_rfl
theorem c64 : Tryz.prog.cellsOf 64 = 2 := by kernel_rfl
def fieldsOk (fs : Array Field) (l : List (TypeId × Nat)) : Bool := fs.toList.map (fun f => (f.type, f.offset)) == l
def structB (P : Program) (t : TypeId) (l : List (TypeId × Nat)) : Bool := match P.underlying t with
  | some (.struct fs) => fieldsOk fs l
  | _ => false
theorem struct_of {P : Program} {t : TypeId} {l : List (TypeId × Nat)} (h : structB P t l = true) : ∃ fs, P.underlying t = some (.struct fs) ∧ fs.toList.map (fun f => (f.type, f.offset)) = l := by
  unfold structB at h
  split at h
  · rename_i fs hu
    exact ⟨fs, hu, by simpa [fieldsOk] using h⟩
  · cases h
theorem struct2_of {P : Program} {t a b : TypeId} {o1 o2 : Nat} (h : structB P t [(a, o1), (b, o2)] = true) : ∃ f0 f1, P.underlying t = some (.struct #[f0, f1]) ∧ f0.type = a ∧ f0.offset = o1 ∧ f1.type = b ∧ f1.offset = o2 := by
  obtain ⟨⟨fs⟩, h1, h2⟩ := struct_of h
  match fs, h2 with
  | [f0, f1], h2 =>
    simp at h2
    exact ⟨f0, f1, h1, h2.1.1, h2.1.2, h2.2.1, h2.2.2⟩
theorem s64 : structB Tryz.prog 64 [(3, 0), (23, 1)] = true := by kernel_rfl
theorem Try.kids : Kids Tryz.prog (· < Tryz.prog.types.size) := kids_rows (by kernel_rfl) (by kernel_rfl)
theorem Try.full : ∀ t e, t < Tryz.prog.types.size → Tryz.prog.underlying t = some (.slice e) → 0 < Tryz.prog.cellsOf e := slices_full_of Tryz.prog (by kernel_rfl)
section
variable {H : Type} {enc : TypeId × Value → H} {w : World} {base : Nat} {sp : Nat → Bool} {hd : Bool}
theorem rd_int : Rd enc Tryz.prog w base sp hd 3 (fun n : Int => [I n]) (fun n => (Lit.int .i64 n).wf = true) := Rd_int u3
def okI (l : List Int) : Prop := l.length ≤ reachBytes
theorem rd_ints : Rd enc Tryz.prog w base sp hd 23 (fun l : List Int => [LI l]) okI :=
  (Rd_slice u23 c3 (by omega) (by rw [b3]; omega) rd_int).map id _ okI (fun q _ => rfl) (fun q h => h.1)
def okF1 (f : Fr) : Prop := f.p.length ≤ reachBytes
theorem rd_fr : Rd enc Tryz.prog w base sp hd 64 frC okF1 := by
  obtain ⟨f0, f1, hu, h1, h2, h3, h4⟩ := struct2_of s64
  refine (Rd_struct2 hu (z0 := 1) (z1 := 1) (by rw [h1]; exact c3) (by rw [h3]; exact c23) h2 h4 c64 (by rw [h1]; exact rd_int) (by rw [h3]; exact rd_ints)).map (fun q => ⟨q.1, q.2⟩) frC okF1 (fun q _ => rfl) (fun q h => h.2)
def okFs (l : List Fr) : Prop := l.length ≤ reachBytes ∧ ∀ f ∈ l, f.p.length ≤ reachBytes
theorem rd_frs : Rd enc Tryz.prog w base sp hd 26 (fun l : List Fr => [LF l]) okFs :=
  (Rd_slice u26 c64 (by omega) (by rw [b64]; omega) rd_fr).map id _ okFs (fun q _ => rfl) (fun q h => h)
/-- An argument of one cell. -/
theorem arg_of {t : TypeId} {α : Type} {f : α → C} {p : α → Prop} {v : Value} {d : DataW H} {ps : List MemPlace} (h : Rd enc Tryz.prog w base sp hd t (fun q => [f q]) p) (hv : v.cells.toList = [v]) (hd' : DataW.Trod enc Tryz.prog w base sp hd t v d ps) (hw : ∀ n ∈ d.weights Tryz.prog t, n ≤ reachBytes) : ∃ q, R w st0 gh0 (f q) v ∧ p q := by
  obtain ⟨n, hn⟩ := hd'
  rw [hv] at hn
  obtain ⟨q, _, h2, h3⟩ := h _ _ _ hn hw
  exact ⟨q, (h2 0 (by simp) (by simp)).1, h3⟩
end
end Go.Proofs.YtpmknffollpnaaaGreat
