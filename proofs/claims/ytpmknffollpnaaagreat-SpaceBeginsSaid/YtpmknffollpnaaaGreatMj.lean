/- Begin, the program and the reference; SpaceBegins. No condition. -/
import Derived.Test.YtpmknffollpnaaaGreatMh
set_option linter.unusedVariables false
set_option linter.unusedSimpArgs false
namespace Go.Proofs.YtpmknffollpnaaaGreat
open Go Go.VS
set_option maxRecDepth 4000 in
theorem begin1_c (b8 b9 : Nat) (s : St) (c8 : List C) (c9 : C) (h89 : b8 ≠ b9) (h8 : VS.look s.objs b8 = some c8) (hl8 : c8.length = 6) (h9 : VS.look s.objs b9 = some [c9]) :
    CallC Tryz.prog 78 [ptr b8 0, ptr b9 0] s (fun _ s' => s' = { s with objs := putAt (putAt s.objs b8 zspace) b9 [.v (.slice none 0 0)] }) (fun _ _ => False) := by
  refine CallC_of Tryz.func78 rfl (by rfl) Tryz.ntmps78 (by simp) ?_
  refine W_reg ?_
  have h9' : VS.look (putAt s.objs b8 zspace) b9 = some [c9] := by rw [look_putAt, if_neg h89.symm]; exact h9
  obtain ⟨x0, x1, x2, x3, x4, x5, rfl⟩ : ∃ x0 x1 x2 x3 x4 x5, c8 = [x0, x1, x2, x3, x4, x5] := by
    match c8, hl8 with
    | [x0, x1, x2, x3, x4, x5], _ => exact ⟨_, _, _, _, _, _, rfl⟩
  simp only [zspace] at h9'
  simp [go_sem, VS.partsC, h8, h9', zspace]
  exact Sub.refl _
theorem sameList_c (a b : List Fr) (hla : a.length ≤ 1000000000) (hp : ∀ f ∈ a, f.p.length ≤ 1000000000) : Pure Tryz.prog 79 [LF a, LF b] (Bo (decide (a = b))) := by
  intro s
  refine CallC_of Tryz.func79 rfl (by rfl) Tryz.ntmps79 (by simp) ?_
  refine W_seq (W_reg ?_)
  simp [go_sem]
  refine W_seq (W_reg ?_)
  simp [go_sem]
  refine Pure.use (equalF_c 125 a b hla hp same125_c) ?_
  simp [go_sem]
  refine W_ret ?_
  simp only [go_sem]
  exact ⟨trivial, _, rfl, s, Sub.refl _, by simp [go_sem], rfl⟩
theorem chainF_mem (P : List Pg) : ∀ (f : Nat) (n : Int) (seen : List Int) (ps : List Pg), chainF P f n seen = some ps → (∀ p ∈ ps, p ∈ P) ∧ ps.length ≤ f
  | 0, n, seen, ps, h => by cases h
  | f + 1, n, seen, ps, h => by
    unfold chainF at h
    split at h
    · cases h; simp
    · split at h
      · rename_i hok
        obtain ⟨q, hq, rfl⟩ := Option.map_eq_some_iff.1 h
        obtain ⟨h1, h2⟩ := chainF_mem P f _ _ q hq
        refine ⟨fun p hp => ?_, by simp; omega⟩
        rcases List.mem_cons.1 hp with rfl | hp
        · exact (okAt_pg hok).2.2.2.2.2
        · exact h1 p hp
      · cases h
theorem listOfS_sz {P : List Pg} (n : Int) (hsz : PgSz P 1000) (hl : P.length ≤ 4096) : Sz 5000000 (listOfS P n).1 ∧ (nums (listOfS P n).1).length ≤ 5000000 := by
  unfold listOfS
  split
  · rename_i ps hps
    split
    · obtain ⟨h1, h2⟩ := chainF_mem P _ _ _ ps hps
      exact joinF_Sz ps 1000 5000000 (fun p hp => hsz p (h1 p hp)) (by omega)
    · exact ⟨⟨by simp, by simp⟩, by simp [nums, pairs]⟩
  · exact ⟨⟨by simp, by simp⟩, by simp [nums, pairs]⟩
/-- The error of Begin; what it makes. -/
def beginE (x : Spc) (n : Int) (l : List Fr) (o : Int) : Int :=
  if validB l x.pg.length then (if (decide (1 ≤ x.ver) && decide (x.ver ≤ 1099511627775)) && (decide (1 ≤ o) && decide (o ≤ x.ver)) then (if (listOfS x.pg n).2.2 = 0 then (if (listOfS x.pg n).1 = l then 0 else 8) else (listOfS x.pg n).2.2) else 1) else 2
def beginX (x : Spc) (n : Int) (l : List Fr) (o : Int) : Spc := if beginE x n l o = 0 then ⟨x.pg, useP l o, [], (listOfS x.pg n).2.1, x.ver + 1, 0⟩ else ⟨[], [], [], [], 0, 0⟩
def beginL (x : Spc) (n : Int) (l : List Fr) (o : Int) : List Fr := if beginE x n l o = 0 then restP l o else []
structure BeD (s : St) (b4 b8 b9 b10 : Nat) : Prop where
  n4 : VS.look s.objs b4 = none
  n8 : VS.look s.objs b8 = none
  n9 : VS.look s.objs b9 = none
  n10 : VS.look s.objs b10 = none
  d48 : b4 ≠ b8
  d49 : b4 ≠ b9
  d410 : b4 ≠ b10
  d89 : b8 ≠ b9
  d810 : b8 ≠ b10
  d910 : b9 ≠ b10
def beDs (b8 b9 b10 : Nat) : List Deferred := [dCaught b10 78 #[.pointer (some ⟨b8, 0, none⟩), .pointer (some ⟨b9, 0, none⟩)]]
theorem begin_err {s s' : St} {x : Spc} {n o e : Int} {l : List Fr} {b4 b8 b9 b10 : Nat} {c8 : List C} {c9 : C} {f : Nat → C} (hD : BeD s b4 b8 b9 b10) (v8 : VS.look s'.objs b8 = some c8) (hl8 : c8.length = 6) (v9 : VS.look s'.objs b9 = some [c9]) (v10 : ∃ c, VS.look s'.objs b10 = some [c]) (hs : Sub s' s)
    (f8 : f 8 = ptr b8 0) (f9 : f 9 = ptr b9 0) (f10 : f 10 = ptr b10 0) (he0 : e ≠ 0) (hr : beginE x n l o = e) :
    leaveQ Tryz.prog [.cell 8 25, .cell 9 26, .cell 10 30] (fun c s' => c = .tup [.agg (spcC (beginX x n l o)), LF (beginL x n l o), I (beginE x n l o)] ∧ s' = s) (fun _ _ => False) f (beDs b8 b9 b10) (.panicking (fail e)) s' := by
  obtain ⟨c10, v10⟩ := v10
  refine leave2 v8 v9 v10 hD.d89 hD.d810 hD.d910 (fun s1 h8 h9 => begin1_c b8 b9 s1 c8 c9 hD.d89 h8 hl8 h9) fun O g8 g9 g10 ho => ?_
  simp only [zspace] at g8
  have hX : beginX x n l o = ⟨[], [], [], [], 0, 0⟩ := by unfold beginX; rw [hr, if_neg he0]
  have hL : beginL x n l o = [] := by unfold beginL; rw [hr, if_neg he0]
  refine ⟨.tup [.agg zspace, .v (.slice none 0 0), I e], by simp [go_sem, f8, f9, f10, g8, g9, g10, zspace], s, ⟨fun k y hk => ?_, hs.rows, hs.toks, hs.maps⟩, by rw [hX, hL, hr]; simp [go_sem, zspace, spcC, frsE, intsE, pgsE], rfl⟩
  exact ho k y (fun e => by subst e; rw [hD.n8] at hk; cases hk) (fun e => by subst e; rw [hD.n9] at hk; cases hk) (fun e => by subst e; rw [hD.n10] at hk; cases hk) (hs.objs _ _ hk)
set_option maxRecDepth 8000 in
theorem begin_c (x : Spc) (n : Int) (l : List Fr) (o : Int) (hsz : PgSz x.pg 1000) (hl : x.pg.length ≤ 4096) (hls : Sz 100000000 l) (hln : (nums l).length ≤ 100000000) :
    Pure Tryz.prog 35 [.agg (spcC x), I n, LF l, I o] (.tup [.agg (spcC (beginX x n l o)), LF (beginL x n l o), I (beginE x n l o)]) := by
  intro s
  refine CallC_ofD Tryz.func35 rfl (by rfl) Tryz.ntmps35 (by simp) ?_
  refine W_seq (W_reg ?_)
  simp [go_sem]
  refine WL_box (by simp [go_sem, spcC]) (by simp) fun b4 hb4 => WL_run _ _ _ ?_
  simp [go_sem]
  refine WL_alloc tzero_25 (by simp) fun b8 hb8 => WL_run _ _ _ ?_
  simp [go_sem]
  refine WL_alloc tzero_26 (by simp) fun b9 hb9 => WL_run _ _ _ ?_
  simp [go_sem]
  refine WL_alloc tzero_30 (by simp) fun b10 hb10 => WL_run _ _ _ ?_
  simp [go_sem]
  have nn : ∀ {O : List (Nat × List C)} {q k : Nat} {x : List C}, VS.look ((q, x) :: O) k = none → VS.look O k = none ∧ q ≠ k := fun {O q k x} h => by
    by_cases e : q = k
    · subst e; simp [VS.look] at h
    · exact ⟨by simpa [VS.look, e] using h, e⟩
  have lk : ∀ {O : List (Nat × List C)} {q k : Nat} {y : List C}, VS.look O q = none → VS.look O k = some y → q ≠ k := fun h1 h2 e => by subst e; rw [h1] at h2; cases h2
  have n4 := hb4.1
  obtain ⟨n8, d48⟩ := nn hb8.1
  obtain ⟨n9a, d89⟩ := nn hb9.1
  obtain ⟨n9, d49⟩ := nn n9a
  obtain ⟨n10a, d910⟩ := nn hb10.1
  obtain ⟨n10b, d810⟩ := nn n10a
  obtain ⟨n10, d410⟩ := nn n10b
  have hD : BeD s b4 b8 b9 b10 := ⟨n4, n8, n9, n10, d48, d49, d410, d89, d810, d910⟩
  refine (fun (h : ∀ s1 : St, VS.look s1.objs b4 = some (spcC x) → VS.look s1.objs b8 = some zspace → VS.look s1.objs b9 = some [.v (.slice none 0 0)] → VS.look s1.objs b10 = some [I 0] → s1.rows = s.rows → Sub s1 s → W Tryz.prog ⟨60, none⟩ _ _ s1 _) => h { s with objs := (b10, [I 0]) :: (b9, [.v (.slice none 0 0)]) :: (b8, zspace) :: (b4, spcC x) :: s.objs } (by simp [VS.look, Ne.symm d48, Ne.symm d49, Ne.symm d410]) (by simp [VS.look, Ne.symm d89, Ne.symm d810]) (by simp [VS.look, Ne.symm d910]) (by simp [VS.look]) rfl ⟨fun k y hk => by
      have e4 := lk n4 hk
      have e8 := lk n8 hk
      have e9 := lk n9 hk
      have e10 := lk n10 hk
      simp [VS.look, e4, e8, e9, e10, hk], fun _ _ h => h, fun _ _ h => h, fun _ _ h => h⟩) ?_
  clear nn lk n4 n8 n9a n9 n10a n10b n10 d48 d89 d49 d910 d810 d410 hb4 hb8 hb9 hb10
  intro s1 v4 v8 v9 v10 hrw hsub
  refine W_seq (W_reg ?_)
  simp [go_sem]
  refine WL_defer (k := 43) (first := #[]) (captured := #[]) (l := [.pointer (some ⟨b10, 0, none⟩), .func (.func 78) #[] #[.pointer (some ⟨b8, 0, none⟩), .pointer (some ⟨b9, 0, none⟩)]]) rfl (by simp [go_sem]) (by simp [go_sem, valsOf]) (WL_run _ _ _ ?_)
  simp [go_sem]
  refine W_keep [(1, I n), (2, LF l), (3, I o), (4, ptr b4 0), (8, ptr b8 0), (9, ptr b9 0), (10, ptr b10 0)] (by simp [go_sem]) ?_
  have v4' := v4
  simp only [spcC] at v4'
  refine W_seq (W_reg ?_)
  simp [go_sem, v4', pgsE_length]
  refine Pure.use (valid_c l x.pg.length (by omega) (by omega)) ?_
  cases hvb : validB l x.pg.length
  · simp [go_sem]
    refine (need_c _ _ _).use (fun c s3 hc => absurd hc.1 (by simp)) (fun ch s3 hc => ?_)
    obtain ⟨_, rfl, rfl⟩ := hc
    simp only [nextQ_panic, retD]
    exact begin_err hD v8 rfl v9 ⟨_, v10⟩ hsub (by simp [go_sem]) (by simp [go_sem]) (by simp [go_sem]) (by omega) (by simp [beginE, hvb])
  simp [go_sem]
  refine (need_c _ _ _).use (fun c s3 hc => ?_) (fun ch s3 hc => absurd hc.1 (by simp))
  have hc3 := hc.2.symm
  subst hc3
  simp [go_sem]
  refine W_keep [(1, I n), (2, LF l), (3, I o), (4, ptr b4 0), (8, ptr b8 0), (9, ptr b9 0), (10, ptr b10 0)] (by simp [go_sem]) ?_
  refine W_seq (W_reg ?_)
  simp [go_sem, v4']
  refine Pure.use (within_c _ _ _) ?_
  have hfin1 : ((decide (1 ≤ x.ver) && decide (x.ver ≤ 1099511627775)) && (decide (1 ≤ o) && decide (o ≤ x.ver))) = false → beginE x n l o = 1 := fun h => by unfold beginE; rw [hvb, h]; rfl
  cases hw1 : (decide (1 ≤ x.ver) && decide (x.ver ≤ 1099511627775))
  · simp [go_sem]
    refine (need_c _ _ _).use (fun c s4 hc => absurd hc.1 (by simp)) (fun ch s4 hc => ?_)
    obtain ⟨_, rfl, rfl⟩ := hc
    simp only [nextQ_panic, retD]
    exact begin_err hD v8 rfl v9 ⟨_, v10⟩ hsub (by simp [go_sem]) (by simp [go_sem]) (by simp [go_sem]) (by omega) (hfin1 (by rw [hw1]; rfl))
  simp [go_sem, v4']
  refine Pure.use (within_c _ _ _) ?_
  cases hw2 : (decide (1 ≤ o) && decide (o ≤ x.ver))
  · simp [go_sem]
    refine (need_c _ _ _).use (fun c s4 hc => absurd hc.1 (by simp)) (fun ch s4 hc => ?_)
    obtain ⟨_, rfl, rfl⟩ := hc
    simp only [nextQ_panic, retD]
    exact begin_err hD v8 rfl v9 ⟨_, v10⟩ hsub (by simp [go_sem]) (by simp [go_sem]) (by simp [go_sem]) (by omega) (hfin1 (by rw [hw1, hw2]; rfl))
  simp [go_sem]
  refine (need_c _ _ _).use (fun c s4 hc => ?_) (fun ch s4 hc => absurd hc.1 (by simp))
  have hc4 := hc.2.symm
  subst hc4
  simp [go_sem]
  have hE : beginE x n l o = if (listOfS x.pg n).2.2 = 0 then (if (listOfS x.pg n).1 = l then 0 else 8) else (listOfS x.pg n).2.2 := by
    unfold beginE; rw [hvb, hw1, hw2]; rfl
  clear hfin1
  refine W_keep [(1, I n), (2, LF l), (3, I o), (4, ptr b4 0), (8, ptr b8 0), (9, ptr b9 0), (10, ptr b10 0)] (by simp [go_sem]) ?_
  refine W_seq (W_reg ?_)
  simp [go_sem, v4']
  refine Pure.use (listOf_c x n hsz hl) ?_
  simp [go_sem, v10]
  obtain ⟨hsz1, hsz2⟩ := listOfS_sz n hsz hl
  have hX0 : beginE x n l o = 0 → beginX x n l o = ⟨x.pg, useP l o, [], (listOfS x.pg n).2.1, x.ver + 1, 0⟩ ∧ beginL x n l o = restP l o := fun h => by unfold beginX beginL; rw [h]; simp
  generalize listOfS x.pg n = ls at hE hsz1 hsz2 hX0
  obtain ⟨lL, lN, lE⟩ := ls
  simp only at hE hsz1 hsz2 hX0
  have w4 : VS.look (putAt s1.objs b10 [I lE]) b4 = some [LPg x.pg, LI x.free, LI x.fresh, LI x.gone, I x.ver, I x.tree] := by rw [look_putAt, if_neg hD.d410]; exact v4'
  have w8 : VS.look (putAt s1.objs b10 [I lE]) b8 = some zspace := by rw [look_putAt, if_neg hD.d810]; exact v8
  have w9 : VS.look (putAt s1.objs b10 [I lE]) b9 = some [.v (.slice none 0 0)] := by rw [look_putAt, if_neg hD.d910]; exact v9
  have w10 : VS.look (putAt s1.objs b10 [I lE]) b10 = some [I lE] := by rw [look_putAt, if_pos rfl, v10]; rfl
  refine (fun (h : ∀ s5 : St, VS.look s5.objs b4 = some [LPg x.pg, LI x.free, LI x.fresh, LI x.gone, I x.ver, I x.tree] → VS.look s5.objs b8 = some zspace → VS.look s5.objs b9 = some [.v (.slice none 0 0)] → VS.look s5.objs b10 = some [I lE] → s5.rows = s.rows → Sub s5 s → W Tryz.prog ⟨60, none⟩ _ _ s5 _) => h { s1 with objs := putAt s1.objs b10 [I lE] } w4 w8 w9 w10 hrw (sub_put hsub hD.n10 _)) ?_
  clear w4 w8 w9 w10 v4 v4' v8 v9 v10 hrw hsub
  intro s5 v4 v8 v9 v10 hrw hsub
  refine W_keep [(2, LF l), (3, I o), (4, ptr b4 0), (8, ptr b8 0), (9, ptr b9 0), (10, ptr b10 0), (11, LF lL), (12, LI lN)] (by simp [go_sem]) ?_
  refine W_seq (W_reg ?_)
  simp [go_sem, v10]
  refine (must_c _ _).use (fun c s6 hc => ?_) (fun ch s6 hc => ?_)
  rotate_left
  · obtain ⟨he, rfl, rfl⟩ := hc
    simp only [nextQ_panic, retD]
    exact begin_err hD v8 rfl v9 ⟨_, v10⟩ hsub (by simp [go_sem]) (by simp [go_sem]) (by simp [go_sem]) he (by rw [hE, if_neg he])
  obtain ⟨he0, hc6⟩ := hc
  subst hc6
  rw [if_pos he0] at hE
  simp [go_sem]
  refine W_keep [(2, LF l), (3, I o), (4, ptr b4 0), (8, ptr b8 0), (9, ptr b9 0), (10, ptr b10 0), (11, LF lL), (12, LI lN)] (by simp [go_sem]) ?_
  refine W_seq (W_reg ?_)
  simp [go_sem]
  refine Pure.use (sameList_c lL l (by have := hsz1.len; omega) (fun f hf => by have := hsz1.p f hf; omega)) ?_
  by_cases hsame : lL = l
  · rw [if_pos hsame] at hE
    obtain ⟨hX, hL⟩ := hX0 hE
    simp [go_sem, hsame]
    refine (need_c _ _ _).use (fun c s7 hc => ?_) (fun ch s7 hc => absurd hc.1 (by simp))
    have hc7 := hc.2.symm
    subst hc7
    simp [go_sem]
    refine W_keep [(2, LF l), (3, I o), (4, ptr b4 0), (8, ptr b8 0), (9, ptr b9 0), (10, ptr b10 0), (12, LI lN)] (by simp [go_sem]) ?_
    refine W_seq (W_reg ?_)
    simp [go_sem]
    refine Pure.use (split_c 100000000 l o hls (by omega) (by omega)) ?_
    simp [go_sem, v9]
    have w4 : VS.look (putAt s6.objs b9 [LF (restP l o)]) b4 = some [LPg x.pg, LI x.free, LI x.fresh, LI x.gone, I x.ver, I x.tree] := by rw [look_putAt, if_neg hD.d49]; exact v4
    have w8 : VS.look (putAt s6.objs b9 [LF (restP l o)]) b8 = some zspace := by rw [look_putAt, if_neg hD.d89]; exact v8
    have w9 : VS.look (putAt s6.objs b9 [LF (restP l o)]) b9 = some [LF (restP l o)] := by rw [look_putAt, if_pos rfl, v9]; rfl
    have w10 : VS.look (putAt s6.objs b9 [LF (restP l o)]) b10 = some [I lE] := by rw [look_putAt, if_neg hD.d910.symm]; exact v10
    refine (fun (h : ∀ s7 : St, VS.look s7.objs b4 = some [LPg x.pg, LI x.free, LI x.fresh, LI x.gone, I x.ver, I x.tree] → VS.look s7.objs b8 = some zspace → VS.look s7.objs b9 = some [LF (restP l o)] → VS.look s7.objs b10 = some [I lE] → s7.rows = s.rows → Sub s7 s → W Tryz.prog ⟨60, none⟩ _ _ s7 _) => h { s6 with objs := putAt s6.objs b9 [LF (restP l o)] } w4 w8 w9 w10 hrw (sub_put hsub hD.n9 _)) ?_
    clear w4 w8 w9 w10 v4 v8 v9 v10 hrw hsub
    intro s7 v4 v8 v9 v10 hrw hsub
    refine W_keep [(4, ptr b4 0), (8, ptr b8 0), (9, ptr b9 0), (10, ptr b10 0), (12, LI lN), (13, LI (useP l o))] (by simp [go_sem]) ?_
    have hp2 : 2 ≤ x.pg.length := by
      rw [validB_isB] at hvb
      simp only [Bool.and_eq_true, decide_eq_true_eq] at hvb
      omega
    have hpne : pgsE x.pg ≠ [] := fun e => by
      have : x.pg.length = 0 := by rw [← pgsE_length, e]; rfl
      omega
    have hwv : IntKind.i64.wrap (x.ver + 1) = x.ver + 1 := by
      have hw1' : 1 ≤ x.ver ∧ x.ver ≤ 1099511627775 := by simpa using hw1
      exact wrap_in (by omega) (by omega)
    have hpe : PgE (pgsE x.pg) := pgE_sp x
    refine W_seq (W_draws (Ef := ?_) 11 [2, 8, 10] (fun s' => VS.look s'.objs b4 = some [LPg x.pg, LI x.free, LI x.fresh, LI x.gone, I x.ver, I x.tree] ∧ VS.look s'.objs b9 = some [LF (restP l o)]) Tryz.mixed (by kernel_rfl) ⟨v4, v9⟩ (fun s' hs' => ?_) ?_)
    rotate_left
    · simp [go_sem, hs'.1, hs'.2, hwv]
      rfl
    · refine LL_cons fun Q' hQ => ?_
      refine WL_callC (k := 49) (first := #[]) (captured := #[]) (xs := [LPg x.pg]) (by simp [go_sem]) (by simp [go_sem]) (by simp [go_sem]) (clonePg_c (pgsE x.pg) hpe (by rw [pgsE_length]; omega) s7) (fun c s8 hc => ?_) (fun _ _ h => h.elim)
      obtain ⟨R8, rfl, hR8, hne8⟩ := hc
      rcases hR8.row with ⟨_, h⟩ | ⟨_, h⟩ | ⟨bp, rfl, hbp⟩
      · exact absurd h hpne
      · exact absurd h hpne
      refine hQ _ _ ⟨v4, v9⟩ ?_
      have hR8' : RowIn s.rows R8 (.rs bp (pgsE x.pg).length) 10 (pgsE x.pg) := by rw [← hrw]; exact hR8
      generalize hql : (pgsE x.pg).length = q at hR8' ⊢
      refine LL_cons fun Q' hQ => WL_rd (c := .agg [.rs bp q, LI (useP l o), .v (.slice none 0 0), LI lN, I (x.ver + 1), I 0]) (by simp [go_sem, VS.partsC]) (by simp [go_sem]) (hQ _ _ ⟨v4, v9⟩ ?_)
      refine LL_cons fun Q' hQ => ?_
      have z4 : VS.look (putAt s7.objs b8 [.rs bp q, LI (useP l o), .v (.slice none 0 0), LI lN, I (x.ver + 1), I 0]) b4 = some [LPg x.pg, LI x.free, LI x.fresh, LI x.gone, I x.ver, I x.tree] := by rw [look_putAt, if_neg hD.d48]; exact v4
      have z9 : VS.look (putAt s7.objs b8 [.rs bp q, LI (useP l o), .v (.slice none 0 0), LI lN, I (x.ver + 1), I 0]) b9 = some [LF (restP l o)] := by rw [look_putAt, if_neg hD.d89.symm]; exact v9
      have z8 : VS.look (putAt s7.objs b8 [.rs bp q, LI (useP l o), .v (.slice none 0 0), LI lN, I (x.ver + 1), I 0]) b8 = some [.rs bp q, LI (useP l o), .v (.slice none 0 0), LI lN, I (x.ver + 1), I 0] := by rw [look_putAt, if_pos rfl, v8]; rfl
      have z10 : ∀ y : List C, VS.look (putAt (putAt s7.objs b8 [.rs bp q, LI (useP l o), .v (.slice none 0 0), LI lN, I (x.ver + 1), I 0]) b9 y) b10 = some [I lE] := fun y => by rw [look_putAt, if_neg hD.d910.symm, look_putAt, if_neg hD.d810.symm]; exact v10
      have v8' := v8
      simp only [zspace] at v8'
      refine WL_st (s' := { s7 with objs := putAt s7.objs b8 [.rs bp q, LI (useP l o), .v (.slice none 0 0), LI lN, I (x.ver + 1), I 0], rows := R8 }) (by simp [go_sem, v8']) (hQ .junk _ ⟨z4, z9⟩ ?_)
      refine LL_nil (WL_run _ _ _ ?_)
      simp [go_sem, z9, z10]
      have y8 : VS.look (putAt (putAt (putAt s7.objs b8 [.rs bp q, LI (useP l o), .v (.slice none 0 0), LI lN, I (x.ver + 1), I 0]) b9 [LF (restP l o)]) b10 [I 0]) b8 = some [.rs bp q, LI (useP l o), .v (.slice none 0 0), LI lN, I (x.ver + 1), I 0] := by rw [look_putAt, if_neg hD.d810, look_putAt, if_neg hD.d89]; exact z8
      have y9 : VS.look (putAt (putAt (putAt s7.objs b8 [.rs bp q, LI (useP l o), .v (.slice none 0 0), LI lN, I (x.ver + 1), I 0]) b9 [LF (restP l o)]) b10 [I 0]) b9 = some [LF (restP l o)] := by rw [look_putAt, if_neg hD.d910, look_putAt, if_pos rfl, z9]; rfl
      have y10 : VS.look (putAt (putAt (putAt s7.objs b8 [.rs bp q, LI (useP l o), .v (.slice none 0 0), LI lN, I (x.ver + 1), I 0]) b9 [LF (restP l o)]) b10 [I 0]) b10 = some [I 0] := by rw [look_putAt, if_pos rfl, z10]; rfl
      have hone : (pgsE x.pg).all (fun e => e.all VS.one) = true := List.all_eq_true.2 fun e he => (hpe e he).2
      have hsub8 : ∀ k y, VS.look s.objs k = some y → VS.look (putAt (putAt (putAt s7.objs b8 [.rs bp q, LI (useP l o), .v (.slice none 0 0), LI lN, I (x.ver + 1), I 0]) b9 [LF (restP l o)]) b10 [I 0]) k = some y := (sub_put (sub_put (sub_put hsub hD.n8 _) hD.n9 _) hD.n10 _).objs
      refine W_freezec (b := b8) (cs := [.rs bp q, LI (useP l o), .v (.slice none 0 0), LI lN, I (x.ver + 1), I 0]) 0 10 (cj := .rs bp q) (pgsE x.pg) s.rows y8 rfl hR8' hone ?_
      refine W_ret ?_
      simp only [retD, envL_ds, set_ds]
      refine leave_ret ⟨.tup [.agg [LPg x.pg, LI (useP l o), .v (.slice none 0 0), LI lN, I (x.ver + 1), I 0], LF (restP l o), I 0], ?_, s, ⟨fun k y hk => ?_, fun _ _ h => h, hsub.toks, hsub.maps⟩, ?_, rfl⟩
      · generalize putAt (putAt (putAt s7.objs b8 [.rs bp q, LI (useP l o), .v (.slice none 0 0), LI lN, I (x.ver + 1), I 0]) b9 [LF (restP l o)]) b10 [I 0] = O at y8 y9 y10
        have x8 : VS.look (putAt O b8 ([.rs bp q, LI (useP l o), .v (.slice none 0 0), LI lN, I (x.ver + 1), I 0].set 0 (LPg x.pg))) b8 = some [LPg x.pg, LI (useP l o), .v (.slice none 0 0), LI lN, I (x.ver + 1), I 0] := by rw [look_putAt, if_pos rfl, y8]; rfl
        have x9 : VS.look (putAt O b8 ([.rs bp q, LI (useP l o), .v (.slice none 0 0), LI lN, I (x.ver + 1), I 0].set 0 (LPg x.pg))) b9 = some [LF (restP l o)] := by rw [look_putAt, if_neg hD.d89.symm]; exact y9
        have x10 : VS.look (putAt O b8 ([.rs bp q, LI (useP l o), .v (.slice none 0 0), LI lN, I (x.ver + 1), I 0].set 0 (LPg x.pg))) b10 = some [I 0] := by rw [look_putAt, if_neg hD.d810.symm]; exact y10
        generalize putAt O b8 ([.rs bp q, LI (useP l o), .v (.slice none 0 0), LI lN, I (x.ver + 1), I 0].set 0 (LPg x.pg)) = O2 at x8 x9 x10 ⊢
        simp [go_sem, x8, x9, x10]
      · show VS.look (putAt _ b8 _) k = some y
        rw [look_putAt, if_neg (fun e => by subst e; rw [hD.n8] at hk; cases hk)]
        exact hsub8 k y hk
      · rw [hX, hL, hE]
        simp [go_sem, spcC, intsE]
  · rw [if_neg hsame] at hE
    simp [go_sem, hsame]
    refine (need_c _ _ _).use (fun c s7 hc => absurd hc.1 (by simp)) (fun ch s7 hc => ?_)
    obtain ⟨_, rfl, rfl⟩ := hc
    simp only [nextQ_panic, retD]
    exact begin_err hD v8 rfl v9 ⟨_, v10⟩ hsub (by simp [go_sem]) (by simp [go_sem]) (by simp [go_sem]) (by omega) hE
end Go.Proofs.YtpmknffollpnaaaGreat
namespace Go.Proofs.YtpmknffollpnaaaGreat
open Go Go.VS
def begC (x : Spc) (L : List Fr) (e : Int) : C := .agg [LPg x.pg, LI x.free, LI x.fresh, LI x.gone, I x.ver, I x.tree, LF L, I 0, I e]
set_option maxRecDepth 8000 in
theorem refBegin_c (x : Spc) (n : Int) (l : List Fr) (o : Int) (hsz : PgSz x.pg 1000) (hl : x.pg.length ≤ 4096) (hls : Sz 100000000 l) (hln : (nums l).length ≤ 100000000) :
    Pure Tryz.prog 36 [.agg (spcC x), I n, LF l, I o] (begC (beginX x n l o) (beginL x n l o) (beginE x n l o)) := by
  intro s
  refine CallC_of Tryz.func36 rfl (by rfl) Tryz.ntmps36 (by simp) ?_
  refine W_seq (W_reg ?_)
  simp [go_sem]
  refine WL_box (by simp [go_sem, spcC]) (by simp) fun b4 hb4 => WL_run _ _ _ ?_
  simp [go_sem]
  refine WL_alloc tzero_34 (by simp) fun b8 hb8 => WL_run _ _ _ ?_
  simp [go_sem]
  have n4 := hb4.1
  have d48 : b4 ≠ b8 := fun e => by have := hb8.1; simp [VS.look, e] at this
  have n8 : VS.look s.objs b8 = none := by have := hb8.1; simpa [VS.look, d48] using this
  have lk : ∀ {O : List (Nat × List C)} {q k : Nat} {y : List C}, VS.look O q = none → VS.look O k = some y → q ≠ k := fun h1 h2 e => by subst e; rw [h1] at h2; cases h2
  refine (fun (h : ∀ s1 : St, VS.look s1.objs b4 = some (spcC x) → VS.look s1.objs b8 = some zspd → Sub s1 s → W Tryz.prog ⟨75, none⟩ _ _ s1 _) => h { s with objs := (b8, zspd) :: (b4, spcC x) :: s.objs } (by simp [VS.look, Ne.symm d48]) (by simp [VS.look]) ⟨fun k y hk => by
      have e4 := lk n4 hk
      have e8 := lk n8 hk
      simp [VS.look, e4, e8, hk], fun _ _ h => h, fun _ _ h => h, fun _ _ h => h⟩) ?_
  clear lk n4 hb4 hb8
  intro s1 v4 v8 hsub
  have v4' := v4
  simp only [spcC] at v4'
  have v8' := v8
  simp only [zspd] at v8'
  have hpu : ∀ (s' : St) (y : List C), VS.look s'.objs b8 = some zspd → VS.look (putAt s'.objs b8 y) b8 = some y := fun s' y h => by rw [look_putAt, if_pos rfl, h]; rfl
  have herr : ∀ e, e ≠ 0 → beginE x n l o = e → begC (beginX x n l o) (beginL x n l o) (beginE x n l o) = .agg [LPg [], LI [], LI [], LI [], I 0, I 0, LF [], I 0, I e] := fun e h0 he => by
    unfold begC beginX beginL
    rw [he, if_neg h0, if_neg h0]
  refine W_keep [(1, I n), (2, LF l), (3, I o), (4, ptr b4 0), (8, ptr b8 0)] (by simp [go_sem]) ?_
  refine W_seq (W_reg ?_)
  simp [go_sem, v4', pgsE_length]
  refine W_keep [(1, I n), (2, LF l), (3, I o), (4, ptr b4 0), (8, ptr b8 0), (9, I x.pg.length)] (by simp [go_sem]) ?_
  refine W_seq (W_seq_k fun K hK => W_reg ?_)
  have key : ∀ E' t, Has E' [(23, Bo t), (1, I n), (2, LF l), (3, I o), (4, ptr b4 0), (8, ptr b8 0)] → E'.ds = [] → t = !validB l x.pg.length → K E' s1 := fun E' t h1 h2 ht => hK _ _ (W_keep _ h1 (by
    rw [h2]
    refine W_ifs t (by simp [go_sem]) (fun h => W_seq (W_reg ?_)) (fun h => W_skip ?_)
    · have hv : validB l x.pg.length = false := by rw [h] at ht; simpa using ht.symm
      simp [go_sem, VS.partsC, v8']
      refine W_ret ?_
      simp only [go_sem]
      refine ⟨trivial, .agg [.v (.slice none 0 0), .v (.slice none 0 0), .v (.slice none 0 0), .v (.slice none 0 0), I 0, I 0, .v (.slice none 0 0), I 0, I 2], by simp [go_sem, hpu s1 _ v8], s, sub_put hsub n8 _, ?_, rfl⟩
      rw [herr 2 (by omega) (by simp [beginE, hv])]
      simp [go_sem, frsE, intsE, pgsE]
    · have hvb : validB l x.pg.length = true := by rw [h] at ht; simpa using ht.symm
      simp only [go_sem]
      refine W_keep [(1, I n), (2, LF l), (3, I o), (4, ptr b4 0), (8, ptr b8 0)] (by simp [go_sem]) ?_
      refine W_seq (W_seq_k fun K2 hK2 => W_reg ?_)
      have key2 : ∀ E' t, Has E' [(42, Bo t), (1, I n), (2, LF l), (3, I o), (4, ptr b4 0), (8, ptr b8 0)] → E'.ds = [] → t = !((decide (1 ≤ x.ver) && decide (x.ver ≤ 1099511627775)) && (decide (1 ≤ o) && decide (o ≤ x.ver))) → K2 E' s1 := fun E' t h1 h2 ht => hK2 _ _ (W_keep _ h1 (by
        rw [h2]
        refine W_ifs t (by simp [go_sem]) (fun h => W_seq (W_reg ?_)) (fun h => W_skip ?_)
        · have hv : ((decide (1 ≤ x.ver) && decide (x.ver ≤ 1099511627775)) && (decide (1 ≤ o) && decide (o ≤ x.ver))) = false := by rw [h] at ht; rw [← Bool.not_eq_true', ← ht]
          simp [go_sem, VS.partsC, v8']
          refine W_ret ?_
          simp only [go_sem]
          refine ⟨trivial, .agg [.v (.slice none 0 0), .v (.slice none 0 0), .v (.slice none 0 0), .v (.slice none 0 0), I 0, I 0, .v (.slice none 0 0), I 0, I 1], by simp [go_sem, hpu s1 _ v8], s, sub_put hsub n8 _, ?_, rfl⟩
          rw [herr 1 (by omega) (by unfold beginE; rw [hvb, hv]; rfl)]
          simp [go_sem, frsE, intsE, pgsE]
        · have hv : ((decide (1 ≤ x.ver) && decide (x.ver ≤ 1099511627775)) && (decide (1 ≤ o) && decide (o ≤ x.ver))) = true := by rw [h] at ht; rw [← Bool.not_eq_false', ← ht]
          have hE : beginE x n l o = if (listOfS x.pg n).2.2 = 0 then (if (listOfS x.pg n).1 = l then 0 else 8) else (listOfS x.pg n).2.2 := by
            unfold beginE; rw [hvb, hv]; rfl
          simp only [go_sem]
          have hX0 : beginE x n l o = 0 → beginX x n l o = ⟨x.pg, useP l o, [], (listOfS x.pg n).2.1, x.ver + 1, 0⟩ ∧ beginL x n l o = restP l o := fun h => by unfold beginX beginL; rw [h]; simp
          refine W_keep [(1, I n), (2, LF l), (3, I o), (4, ptr b4 0), (8, ptr b8 0)] (by simp [go_sem]) ?_
          refine W_seq (W_reg ?_)
          simp [go_sem, v4']
          refine Pure.use (refListOf_c x n hsz hl) ?_
          generalize listOfS x.pg n = ls at hE hX0
          obtain ⟨lL, lN, lE⟩ := ls
          simp only at hE hX0
          simp [go_sem]
          refine WL_alloc tzero_68 (by simp) fun b10 hb10 => WL_run _ _ _ ?_
          simp [go_sem]
          refine (fun (h : ∀ s2 : St, VS.look s2.objs b4 = some [LPg x.pg, LI x.free, LI x.fresh, LI x.gone, I x.ver, I x.tree] → VS.look s2.objs b8 = some zspd → VS.look s2.objs b10 = some [LF lL, LI lN, I lE] → Sub s2 s → W Tryz.prog ⟨75, none⟩ _ _ s2 _) => h { s1 with objs := (b10, [LF lL, LI lN, I lE]) :: s1.objs } (lookCons hb10.1 v4') (lookCons hb10.1 v8) (by simp [VS.look]) (Sub.trans (sub_obj hb10 _) hsub)) ?_
          clear hb10
          intro s2 w4 w8 w10 hsub2
          have w8' := w8
          simp only [zspd] at w8'
          refine W_keep [(2, LF l), (3, I o), (4, ptr b4 0), (8, ptr b8 0), (10, ptr b10 0)] (by simp [go_sem]) ?_
          refine W_seq (W_seq (W_reg ?_))
          by_cases he0 : lE = 0
          · rw [if_pos he0] at hE
            rw [he0] at w10
            simp [go_sem, w10, bne]
            refine W_ifs false (by simp [go_sem]) (fun h => by cases h) (fun _ => W_skip ?_)
            simp only [go_sem]
            refine W_seq (W_seq (W_reg ?_))
            simp [go_sem, w10]
            refine Pure.use (sameFreed_c lL l) ?_
            by_cases hsame : lL = l
            · rw [if_pos hsame] at hE
              obtain ⟨hX, hL⟩ := hX0 hE
              simp [go_sem, hsame]
              refine W_ifs false (by simp [go_sem]) (fun h => by cases h) (fun _ => W_skip ?_)
              simp only [go_sem]
              refine W_keep [(2, LF l), (3, I o), (4, ptr b4 0), (8, ptr b8 0), (10, ptr b10 0)] (by simp [go_sem]) ?_
              have hU : usableR l o = .agg [LI (useP l o), LF (restP l o), I 0] := by
                have h1 : isB l 4096 = true := by
                  rw [validB_isB] at hvb
                  simp only [Bool.and_eq_true, decide_eq_true_eq] at hvb
                  exact (isB_iff _ _).2 (((isB_iff _ _).1 hvb.2).mono (by omega))
                have h2 : inV o = true := by simp [inV] at hv ⊢; omega
                unfold usableR
                rw [h1, h2, use_law]
                rfl
              have hRU := refUsable_c 100000000 l o hls (by omega) (by omega)
              rw [hU] at hRU
              refine W_seq (W_reg ?_)
              simp [go_sem]
              refine Pure.use hRU ?_
              simp [go_sem]
              refine WL_alloc tzero_56 (by simp) fun b11 hb11 => WL_run _ _ _ ?_
              simp [go_sem]
              refine (fun (h : ∀ s3 : St, VS.look s3.objs b4 = some [LPg x.pg, LI x.free, LI x.fresh, LI x.gone, I x.ver, I x.tree] → VS.look s3.objs b8 = some zspd → VS.look s3.objs b10 = some [LF lL, LI lN, I 0] → VS.look s3.objs b11 = some [LI (useP l o), LF (restP l o), I 0] → Sub s3 s → W Tryz.prog ⟨75, none⟩ _ _ s3 _) => h { s2 with objs := (b11, [LI (useP l o), LF (restP l o), I 0]) :: s2.objs } (lookCons hb11.1 w4) (lookCons hb11.1 w8) (lookCons hb11.1 w10) (by simp [VS.look]) (Sub.trans (sub_obj hb11 _) hsub2)) ?_
              clear hb11
              intro s3 z4 z8 z10 z11 hsub3
              have z8' := z8
              simp only [zspd] at z8'
              have hwv : IntKind.i64.wrap (x.ver + 1) = x.ver + 1 := by
                have hw1' : 1 ≤ x.ver ∧ x.ver ≤ 1099511627775 := by simp at hv; omega
                exact wrap_in (by omega) (by omega)
              refine W_seq (W_reg ?_)
              simp [go_sem, VS.partsC, z4, z8', z10, z11, hwv]
              refine W_ret ?_
              simp only [go_sem]
              refine ⟨trivial, .agg [LPg x.pg, LI (useP l o), .v (.slice none 0 0), LI lN, I (x.ver + 1), I 0, LF (restP l o), I 0, I 0], by simp [go_sem, hpu s3 _ z8], s, sub_put hsub3 n8 _, ?_, rfl⟩
              rw [hX, hL, hE]
              simp [go_sem, begC, intsE]
            · rw [if_neg hsame] at hE
              simp [go_sem, hsame]
              refine W_ifs true (by simp [go_sem]) (fun _ => W_seq (W_reg ?_)) (fun h => by cases h)
              simp [go_sem, VS.partsC, w8']
              refine W_ret ?_
              simp only [go_sem]
              refine ⟨trivial, .agg [.v (.slice none 0 0), .v (.slice none 0 0), .v (.slice none 0 0), .v (.slice none 0 0), I 0, I 0, .v (.slice none 0 0), I 0, I 8], by simp [go_sem, hpu s2 _ w8], s, sub_put hsub2 n8 _, ?_, rfl⟩
              rw [herr 8 (by omega) hE]
              simp [go_sem, frsE, intsE, pgsE]
          · rw [if_neg he0] at hE
            have he' : (lE == 0) = false := by simpa using he0
            simp [go_sem, w10, bne, he']
            refine W_ifs true (by simp [go_sem]) (fun _ => W_seq (W_reg ?_)) (fun h => by cases h)
            simp [go_sem, VS.partsC, w8', w10]
            refine W_ret ?_
            simp only [go_sem]
            refine ⟨trivial, .agg [.v (.slice none 0 0), .v (.slice none 0 0), .v (.slice none 0 0), .v (.slice none 0 0), I 0, I 0, .v (.slice none 0 0), I 0, I lE], by simp [go_sem, hpu s2 _ w8], s, sub_put hsub2 n8 _, ?_, rfl⟩
            rw [herr lE he0 hE]
            simp [go_sem, frsE, intsE, pgsE]))
      by_cases c1 : x.ver < 1
      · simp [go_sem, v4', c1]
        exact key2 _ true (by simp [go_sem]) (by simp [go_sem]) (by simp; omega)
      · by_cases c2 : (1099511627776 : Int) ≤ x.ver
        · simp [go_sem, v4', c1, c2]
          exact key2 _ true (by simp [go_sem]) (by simp [go_sem]) (by simp; omega)
        · by_cases c3 : o < 1
          · simp [go_sem, v4', c1, c2, c3]
            exact key2 _ true (by simp [go_sem]) (by simp [go_sem]) (by simp; omega)
          · simp [go_sem, v4', c1, c2, c3]
            exact key2 _ (decide (x.ver < o)) (by simp [go_sem]) (by simp [go_sem]) (by
              have e1 : decide (1 ≤ x.ver) = true := by simp; omega
              have e2 : decide (x.ver ≤ 1099511627775) = true := by simp; omega
              have e3 : decide (1 ≤ o) = true := by simp; omega
              rw [e1, e2, e3]
              by_cases c4 : x.ver < o
              · have : ¬ o ≤ x.ver := by omega
                simp [c4]
              · have : o ≤ x.ver := by omega
                simp [c4, this])))
  have hvis := validB_isB l x.pg.length
  simp [go_sem]
  refine Pure.use (size_c _) ?_
  cases hw : (decide ((2 : Int) ≤ (x.pg.length : Int)) && decide ((x.pg.length : Int) ≤ 4096))
  · rw [hw] at hvis
    simp [go_sem]
    exact key _ true (by simp [go_sem]) (by simp [go_sem]) (by rw [hvis]; rfl)
  · rw [hw] at hvis
    simp [go_sem]
    refine Pure.use (is_c 100000000 x.pg.length l hls (by omega) (by omega)) ?_
    simp [go_sem]
    exact key _ (!isB l x.pg.length) (by simp [go_sem]) (by simp [go_sem]) (by rw [hvis]; rfl)
end Go.Proofs.YtpmknffollpnaaaGreat
namespace Go.Proofs.YtpmknffollpnaaaGreat
open Go Go.VS
set_option maxRecDepth 8000 in
theorem spaceBegins_c (x : Spc) (n : Int) (fl : Bool) (l : List Fr) (o : Int) (s : St) (hx : ∀ p ∈ x.pg, okFl p.fr) (hl : okFl l) :
    CallC Tryz.prog 6 [.agg (spcC x), I n, Bo fl, LF l, I o] s (fun c s' => c = Bo true ∧ s' = s) (fun _ _ => False) := by
  refine CallC_of Tryz.func6 rfl (by rfl) Tryz.ntmps6 (by simp) ?_
  refine W_seq (W_reg ?_)
  simp [go_sem]
  refine WL_box (by simp [go_sem, spcC]) (by simp) fun b5 hb5 => WL_run _ _ _ ?_
  simp [go_sem]
  refine (fun (h : ∀ s1 : St, VS.look s1.objs b5 = some (spcC x) → Sub s1 s → W Tryz.prog ⟨95, none⟩ _ _ s1 _) => h _ (by simp [VS.look]) (sub_obj hb5 _)) ?_
  clear hb5
  intro s1 v5 hsub
  refine W_seq (W_reg ?_)
  simp [go_sem]
  refine (sane_c s1).use (fun c s2 hc => ?_) (fun _ _ h => h.elim)
  obtain ⟨rfl, hc2⟩ := hc
  subst hc2
  simp [go_sem]
  have v5' := v5
  simp only [spcC] at v5'
  refine W_keep [(1, I n), (2, Bo fl), (3, LF l), (4, I o), (5, ptr b5 0), (11, Bo true)] (by simp [go_sem]) ?_
  refine W_seq (W_seq_k fun K hK => W_reg ?_)
  have key : ∀ E' s3 t, Has E' [(29, Bo t), (1, I n), (2, Bo fl), (3, LF l), (4, I o), (5, ptr b5 0), (11, Bo true)] → E'.ds = [] → Sub s3 s2 → (t = false → smallB x = true ∧ shortL l = true) → K E' s3 := fun E' s3 t h1 h2 hs3 ht => hK _ _ (W_keep _ h1 (by
    rw [h2]
    clear hK
    refine W_ifs t (by simp [go_sem]) (fun h => W_seq (W_reg ?_)) (fun h => W_skip ?_)
    · simp [go_sem]
      refine W_ret ?_
      simp only [go_sem]
      exact ⟨trivial, _, rfl, s, Sub.trans hs3 hsub, by simp [go_sem], rfl⟩
    · obtain ⟨hsm, hsh⟩ := ht h
      obtain ⟨p1, p2, p3, p4⟩ := smallB_sz hsm
      obtain ⟨hsz, hsum⟩ := shortL_sz hsh
      have hnl := nums_sum l
      have v5 := hs3.objs _ _ v5
      have v5' := hs3.objs _ _ v5'
      have hsub := Sub.trans hs3 hsub
      clear hs3 h1
      have hpq := small_pgs hsm
      obtain ⟨hz1, hz2⟩ := listOfS_sz n hpq (by omega)
      simp only [go_sem]
      refine W_keep [(1, I n), (2, Bo fl), (3, LF l), (4, I o), (5, ptr b5 0), (11, Bo true)] (by simp [go_sem]) ?_
      have hRL := refListOf_c x n hpq (by omega)
      have hPL := listOf_c x n hpq (by omega)
      have hPB := fun l' h1 h2 => begin_c x n l' o hpq (by omega) h1 h2
      have hRB := fun l' h1 h2 => refBegin_c x n l' o hpq (by omega) h1 h2
      generalize hlo : listOfS x.pg n = ls at hRL hPL hz1 hz2
      obtain ⟨lL, lN, lE⟩ := ls
      simp only at hRL hPL hz1 hz2
      refine W_seq (W_reg ?_)
      simp [go_sem, v5']
      refine Pure.use hRL ?_
      simp [go_sem]
      refine WL_alloc tzero_68 (by simp) fun b12 hb12 => WL_run _ _ _ ?_
      simp [go_sem]
      refine (fun (h : ∀ s4 : St, VS.look s4.objs b5 = some [LPg x.pg, LI x.free, LI x.fresh, LI x.gone, I x.ver, I x.tree] → VS.look s4.objs b12 = some [LF lL, LI lN, I lE] → Sub s4 s → W Tryz.prog ⟨95, none⟩ _ _ s4 _) => h { s3 with objs := (b12, [LF lL, LI lN, I lE]) :: s3.objs } (lookCons hb12.1 v5') (by simp [VS.look]) (Sub.trans (sub_obj hb12 _) hsub)) ?_
      clear hb12 v5 v5' hsub
      intro s4 v5 v12 hsub
      refine W_keep [(1, I n), (2, Bo fl), (3, LF l), (4, I o), (5, ptr b5 0), (11, Bo true), (12, ptr b12 0)] (by simp [go_sem]) ?_
      refine W_seq_k fun K2 hK2 => W_seq (W_reg ?_)
      simp [go_sem]
      have key2 : ∀ E' l', Has E' [(1, I n), (3, LF l'), (4, I o), (5, ptr b5 0), (11, Bo true), (12, ptr b12 0)] → E'.ds = [] → Sz 100000000 l' → (nums l').length ≤ 100000000 → K2 E' s4 := fun E' l' h1 h2 hzl hzn => hK2 _ _ (W_keep _ h1 (by
        rw [h2]
        clear hK2
        have hB := hPB l' hzl hzn
        have hR := hRB l' hzl hzn
        generalize beginX x n l' o = bx at hB hR
        generalize beginL x n l' o = bl at hB hR
        generalize beginE x n l' o = be at hB hR
        refine W_seq (W_reg ?_)
        simp [go_sem, v5]
        refine Pure.use hPL ?_
        simp [go_sem]
        refine W_keep [(1, I n), (3, LF l'), (4, I o), (5, ptr b5 0), (11, Bo true), (12, ptr b12 0), (13, LF lL), (14, LI lN), (15, I lE)] (by simp [go_sem]) ?_
        refine W_seq (W_reg ?_)
        simp [go_sem, v5]
        refine Pure.use hB ?_
        simp [go_sem, spcC]
        refine WL_alloc tzero_25 (by simp) fun b16 hb16 => WL_run _ _ _ ?_
        simp [go_sem]
        refine (fun (h : ∀ s5 : St, VS.look s5.objs b5 = some [LPg x.pg, LI x.free, LI x.fresh, LI x.gone, I x.ver, I x.tree] → VS.look s5.objs b12 = some [LF lL, LI lN, I lE] → VS.look s5.objs b16 = some [LPg bx.pg, LI bx.free, LI bx.fresh, LI bx.gone, I bx.ver, I bx.tree] → Sub s5 s → W Tryz.prog ⟨95, none⟩ _ _ s5 _) => h { s4 with objs := (b16, [LPg bx.pg, LI bx.free, LI bx.fresh, LI bx.gone, I bx.ver, I bx.tree]) :: s4.objs } (lookCons hb16.1 v5) (lookCons hb16.1 v12) (by simp [VS.look]) (Sub.trans (sub_obj hb16 _) hsub)) ?_
        clear hb16
        intro s5 w5 w12 w16 hsub5
        refine W_keep [(1, I n), (3, LF l'), (4, I o), (5, ptr b5 0), (11, Bo true), (12, ptr b12 0), (13, LF lL), (14, LI lN), (15, I lE), (16, ptr b16 0), (17, LF bl), (18, I be)] (by simp [go_sem]) ?_
        refine W_seq (W_reg ?_)
        simp [go_sem, w5]
        simp only [begC] at hR
        refine Pure.use hR ?_
        simp [go_sem]
        refine WL_alloc tzero_34 (by simp) fun b19 hb19 => WL_run _ _ _ ?_
        simp [go_sem]
        refine (fun (h : ∀ s6 : St, VS.look s6.objs b12 = some [LF lL, LI lN, I lE] → VS.look s6.objs b16 = some [LPg bx.pg, LI bx.free, LI bx.fresh, LI bx.gone, I bx.ver, I bx.tree] → VS.look s6.objs b19 = some [LPg bx.pg, LI bx.free, LI bx.fresh, LI bx.gone, I bx.ver, I bx.tree, LF bl, I 0, I be] → Sub s6 s → W Tryz.prog ⟨95, none⟩ _ _ s6 _) => h { s5 with objs := (b19, [LPg bx.pg, LI bx.free, LI bx.fresh, LI bx.gone, I bx.ver, I bx.tree, LF bl, I 0, I be]) :: s5.objs } (lookCons hb19.1 w12) (lookCons hb19.1 w16) (by simp [VS.look]) (Sub.trans (sub_obj hb19 _) hsub5)) ?_
        clear hb19
        intro s6 z12 z16 z19 hsub6
        refine W_keep [(11, Bo true), (12, ptr b12 0), (13, LF lL), (14, LI lN), (15, I lE), (16, ptr b16 0), (17, LF bl), (18, I be), (19, ptr b19 0)] (by simp [go_sem]) ?_
        refine W_seq (W_reg ?_)
        simp [go_sem, z12]
        refine Pure.use (sameFreed_c lL lL) ?_
        simp [go_sem, z12]
        refine Pure.use (sameInts_c lN lN) ?_
        simp [go_sem, z12, z16, z19]
        refine Pure.use (sameSpace_c bx bx (fun i hi hj => .inl rfl)) ?_
        simp [go_sem, z19]
        refine Pure.use (sameFreed_c bl bl) ?_
        simp [go_sem, z19]
        refine W_ret ?_
        simp only [go_sem]
        exact ⟨trivial, _, rfl, s, hsub6, by simp [go_sem], rfl⟩))
      cases fl
      · refine W_ifs false (by simp [go_sem]) (fun h => by cases h) (fun _ => W_skip ?_)
        simp only [go_sem]
        exact key2 _ l (by simp [go_sem]) (by simp [go_sem]) ⟨by have := hsz.len; omega, fun f hf => by have := hsz.p f hf; omega⟩ (by omega)
      · refine W_ifs true (by simp [go_sem]) (fun _ => W_reg ?_) (fun h => by cases h)
        simp [go_sem, v12]
        exact key2 _ lL (by simp [go_sem]) (by simp [go_sem]) ⟨by have := hz1.len; omega, fun f hf => by have := hz1.p f hf; omega⟩ (by omega)))
  simp [go_sem, v5']
  refine Pure.use (small_c x hx) ?_
  cases hsm : smallB x
  · simp [go_sem]
    exact key _ s2 true (by simp [go_sem]) (by simp [go_sem]) (Sub.refl _) (fun h => by cases h)
  · simp [go_sem]
    refine WL_buildSlice tel_90 (by simp [go_sem]) (by rfl) (by rfl) (by simp [VS.partsC, go_sem]) (by simp [VS.partsC, go_sem]) (by simp [go_sem]) (by simp) (by simp) fun r9 hr9 => WL_run _ _ _ ?_
    simp [go_sem, VS.partsC]
    have hs1 := sub_tok hr9 (tsz Tryz.prog 26, 1)
    refine (((short_c [l] (by simp) (by simp; exact hl)) _).le (.cons le_tok .nil)).use (fun c s8 hc => ?_) (fun _ _ h => h.elim)
    obtain ⟨rfl, hc2⟩ := hc
    have hsB : shortB [l] = shortL l := by simp [shortB]
    rw [hsB]
    have hs8 : Sub s8 s2 := by rw [hc2]; exact hs1
    simp [go_sem]
    exact key _ s8 (!shortL l) (by simp [go_sem]) (by simp [go_sem]) hs8 (fun h => ⟨hsm, by simpa using h⟩)
end Go.Proofs.YtpmknffollpnaaaGreat
