/-
  An abstract machine over the model, and its soundness, part 2: drawn regions, control, loops, calls, defers, maps, sorting.
-/
import Derived.Test.YtepdnmaofbeeaaaDoorMa
import Derived.Scope
import Derived.IntWalk
import Derived.Maps.RangeRun
import Derived.MapKept
import Derived.Sort.OwnSorted
namespace Go.AM
open Go
set_option autoImplicit false
set_option linter.unusedVariables false

section
variable {C : Cx} {o : Oper} {op : Op} {env env' : Env} {own own' : List SO} {p : Prop} {sv : SV} {K K' : Env → List SO → Prop} {all : List Oper} {a a0 : Act} {s s0 : St}

/-! ### One operation whose own operands are known -/
def mask (env : Env) : List Nat → Env
  | [] => []
  | t :: l => (t, env.get t) :: mask env l
theorem mask_get (env : Env) : ∀ (l : List Nat) (t : Nat), t ∈ l → (mask env l).get t = env.get t
  | [], t, h => by simp at h
  | u :: l, t, h => by
    simp only [mask, Env.get]
    split
    · rename_i e; rw [e]
    · rename_i e
      exact mask_get env l t (by simpa [Ne.symm e] using h)
theorem mask_any (env : Env) : ∀ (l : List Nat) (t : Nat), t ∉ l → (mask env l).get t = .any
  | [], t, h => rfl
  | u :: l, t, h => by
    simp only [List.mem_cons, not_or] at h
    simp only [mask, Env.get]
    rw [if_neg (fun e => h.1 e.symm)]
    exact mask_any env l t h.2

theorem mem_opTmps {t : Nat} : t ∈ opTmps o ↔ .tmp t ∈ o.op.operands := by
  unfold opTmps
  simp only [List.mem_filterMap, Array.mem_toList_iff]
  constructor
  · rintro ⟨x, hx, he⟩
    cases x <;> simp at he
    subst he; exact hx
  · intro h; exact ⟨_, h, rfl⟩

theorem ev_same (h : ∀ t ∈ opTmps o, env.get t = env'.get t) : ∀ x ∈ o.op.operands, ev C env x = ev C env' x := by
  intro x hx
  cases x with
  | tmp t => exact h t (mem_opTmps.2 hx)
  | _ => rfl

theorem vop_sound_ops (h : vop C o K env own) (hE : ∀ t ∈ opTmps o, VRel s.F s.ρ (env.get t) (a.tmps.getD t undef)) (hR : Rel C.G own s) :
    o.wp C.P a s.w (LocN C o a s fun sv own' => K (env.put o.dst sv) own') (fun _ _ _ => False) := by
  have hM : ERel (mask env (opTmps o)) a s := by
    intro t
    by_cases ht : t ∈ opTmps o
    · rw [mask_get _ _ _ ht]; exact hE t ht
    · rw [mask_any _ _ _ ht]; trivial
  have hv : vop C o (fun e' own' => ∃ sv', e' = (mask env (opTmps o)).put o.dst sv' ∧ K (env.put o.dst sv') own') (mask env (opTmps o)) own :=
    vop_congr (ev_same fun t ht => (mask_get _ _ _ ht).symm) (fun sv own' hK => ⟨sv, rfl, hK⟩) h
  refine wp_mono2 (vop_sound hv hM hR) ?_
  rintro a' w' ⟨v, sv, own', s', h1, h2, h3, h4, h5, h6, sv', h7, h8⟩
  refine ⟨v, sv, own', s', h1, h2, h3, h4, h5, h6, ?_⟩
  cases hd : o.dst with
  | none => rw [hd] at h8; exact h8
  | some d =>
    rw [hd] at h7 h8
    simp only [Env.put, List.cons.injEq, Prod.mk.injEq, true_and, and_true] at h7
    rw [h7]; exact h8

theorem gslot_yielded {ops : Array Oper} (hdst : ∀ o ∈ ops.toList, dstOk a.tmps.size o = true) {j : Nat} {b : Bool} (hb : gslot ops.toList env j = some (.v (.bool b)))
    (hE : ∀ g, ops[j]? = some g → ∀ d, g.dst = some d → VRel s.F s.ρ (env.get d) (a.tmps.getD d undef)) : yielded ops a.tmps j = some b := by
  unfold gslot at hb
  split at hb
  · rename_i oj hoj
    split at hb
    · rename_i dj hdj
      injection hb with hb
      have hoj' : ops[j]? = some oj := by simpa using hoj
      have hr := hE oj hoj' dj hdj
      rw [hb] at hr
      simp only [VRel] at hr
      have hdl : dj < a.tmps.size := by
        have := hdst oj (List.mem_of_getElem? hoj)
        simpa only [dstOk, hdj, decide_eq_true_eq] using this
      have : a.tmps[dj]? = some (.bool b) := by
        rw [Array.getElem?_eq_getElem hdl]
        rw [← hr, Array.getD_eq_getD_getElem?, Array.getElem?_eq_getElem hdl]; rfl
      simp [yielded, hoj', hdj, this]
    · cases hb
  · cases hb

/-- One operation of a drawn region. -/
theorem wpOp_vopg {ops : Array Oper} {i : Nat} {Q : Exit → Act → World → Prop} {K' : Act → World → Prop} (ho : ops[i]? = some o) (hdst : ∀ o ∈ ops.toList, dstOk a.tmps.size o = true)
    (h : vopg C ops.toList o K env own) (hE : ∀ t ∈ looks ops.toList o, VRel s.F s.ρ (env.get t) (a.tmps.getD t undef)) (hR : Rel C.G own s)
    (hk : ∀ v sv own' s', VRel s'.F s'.ρ sv v → Rel C.G own' s' → Step s s' → Rle s.ρ s'.ρ → K (env.put o.dst sv) own' → K' (a.put o.dst v) s'.w) :
    wpOp C.P ops Q i K' a s.w := by
  have hstep : vop C o K env own → o.wp C.P a s.w K' Q := fun hv =>
    wp_mono2 (vop_sound_ops hv (fun t ht => hE t (List.mem_append_left _ ht)) hR) fun a' w' hn => by
      obtain ⟨v, sv, own1, s1, e1, e2, e3, e4, e5, e6, e7⟩ := hn
      rw [e1, ← e2]; exact hk v sv own1 s1 e3 e4 e5 e6 e7
  unfold wpOp
  simp only [ho]
  unfold vopg at h
  split at h
  · rename_i hg
    have hw : Region.wanted o (yielded ops a.tmps) = true := by simp [Region.wanted, hg]
    rw [if_pos hw]
    exact .inl (hstep h)
  · rename_i j want hg
    unfold vguard at h
    split at h
    · rename_i b hb
      have hy : yielded ops a.tmps j = some b := gslot_yielded hdst hb fun g hgo d hd => hE d (by
        refine List.mem_append_right _ ?_
        have : ops.toList[j]? = some g := by simpa using hgo
        simp [gdst, hg, this, hd])
      by_cases hbw : b = want
      · have hw : Region.wanted o (yielded ops a.tmps) = true := by simp [Region.wanted, hg, hy, hbw]
        rw [if_pos hw]
        exact .inl (hstep (h.1 hbw))
      · have hw : Region.wanted o (yielded ops a.tmps) = false := by simp [Region.wanted, hg, hy, hbw]
        rw [if_neg (by rw [hw]; nofun)]
        exact hk undef (.tup []) own s ⟨#[], rfl, rfl⟩ hR (Step.refl _) (Rle.refl _) (h.2 (by cases b <;> cases want <;> simp_all))
    · rename_i xs hb
      have hy : yielded ops a.tmps j = none := gslot_undef hb fun g hgo d hd => hE d (by
        refine List.mem_append_right _ ?_
        have : ops.toList[j]? = some g := by simpa using hgo
        simp [gdst, hg, this, hd])
      have hw : Region.wanted o (yielded ops a.tmps) = false := by simp [Region.wanted, hg, hy]
      rw [if_neg (by rw [hw]; nofun)]
      exact hk undef (.tup []) own s ⟨#[], rfl, rfl⟩ hR (Step.refl _) (Rle.refl _) h
    · exact h.elim

/-! ### What floats stays -/
def gOk (all : List Oper) (o : Oper) (env : Env) : Option Bool := match o.guard with
  | none => some true
  | some (j, want) => match gslot all env j with
    | some (.v (.bool b)) => some (b == want)
    | some (.tup _) => some false
    | _ => none
def Stab (C : Cx) (all : List Oper) (o : Oper) (env : Env) (own : List SO) : Prop := match gOk all o env with
  | some true => ∃ p sv, flV C o.op env own = some (p, sv) ∧ p ∧ ∀ d, o.dst = some d → env.get d = sv
  | some false => ∀ d, o.dst = some d → env.get d = .tup []
  | none => False

theorem gslot_same {j : Nat} (h : ∀ g, all[j]? = some g → ∀ d, g.dst = some d → env.get d = env'.get d) : gslot all env j = gslot all env' j := by
  unfold gslot
  split
  · rename_i g hg
    split
    · rename_i d hd; rw [h g hg d hd]
    · rfl
  · rfl
theorem gOk_same (h : ∀ t ∈ gdst all o, env.get t = env'.get t) : gOk all o env = gOk all o env' := by
  unfold gOk
  split
  · rfl
  · rename_i j want hg
    rw [gslot_same fun g hgo d hd => h d (by simp [gdst, hg, hgo, hd])]

theorem put_get_ne {d : Option Tmp} {t : Nat} (h : d ≠ some t) : (env.put d sv).get t = env.get t := by
  cases d with
  | none => rfl
  | some d => simp only [Env.put, Env.get]; rw [if_neg (fun e => h (by rw [e]))]
theorem put_get_eq {d : Nat} : (env.put (some d) sv).get d = sv := by simp [Env.put, Env.get]

theorem apart1_spec {x y : Oper} (h : apart1 all x y = true) : ∀ t ∈ looks all y, x.dst ≠ some t := by
  intro t ht he
  simp only [apart1, he, Bool.not_eq_true'] at h
  simp [ht] at h
theorem dstNe_spec {x y : Oper} (h : dstNe x y = true) : ∀ d, x.dst = some d → y.dst ≠ some d := by
  intro d he hy
  simp [dstNe, he, hy] at h

theorem vopg_fl (hf : isF o.op = true) (hap : apart1 all o o = true) (h : vopg C all o K env own) : ∃ sv, K (env.put o.dst sv) own ∧ Stab C all o (env.put o.dst sv) own := by
  have hl : ∀ sv, ∀ t ∈ looks all o, (env.put o.dst sv).get t = env.get t := fun sv t ht => put_get_ne (apart1_spec hap t ht)
  have key : vop C o K env own → gOk all o env = some true → ∃ sv, K (env.put o.dst sv) own ∧ Stab C all o (env.put o.dst sv) own := by
    intro hv hg
    obtain ⟨p, sv, h1, h2, h3⟩ := vop_fl hf hv
    refine ⟨sv, h3, ?_⟩
    have hg' : gOk all o (env.put o.dst sv) = some true := by rw [gOk_same fun t ht => hl sv t (List.mem_append_right _ ht)]; exact hg
    unfold Stab
    rw [hg']
    refine ⟨p, sv, ?_, h2, ?_⟩
    · rw [flV_congr (ev_same fun t ht => hl sv t (List.mem_append_left _ ht))]; exact h1
    · intro d hd; rw [hd]; exact put_get_eq
  unfold vopg at h
  split at h
  · rename_i hg
    exact key h (by simp [gOk, hg])
  · rename_i j want hg
    unfold vguard at h
    split at h
    · rename_i b hb
      by_cases hbw : b = want
      · exact key (h.1 hbw) (by simp [gOk, hg, hb, hbw])
      · refine ⟨.tup [], h.2 (by cases b <;> cases want <;> simp_all), ?_⟩
        have hg' : gOk all o (env.put o.dst (.tup [])) = some false := by
          rw [gOk_same fun t ht => hl (.tup []) t (List.mem_append_right _ ht)]
          simp [gOk, hg, hb, hbw]
        unfold Stab
        rw [hg']
        intro d hd; rw [hd]; exact put_get_eq
    · rename_i xs hb
      refine ⟨.tup [], h, ?_⟩
      have hg' : gOk all o (env.put o.dst (.tup [])) = some false := by
        rw [gOk_same fun t ht => hl (.tup []) t (List.mem_append_right _ ht)]
        simp [gOk, hg, hb]
      unfold Stab
      rw [hg']
      intro d hd; rw [hd]; exact put_get_eq
    · exact h.elim

theorem stab_keep (hf : isF o.op = true) (hl : ∀ t ∈ looks all o, env.get t = env'.get t) (hd : ∀ d, o.dst = some d → env.get d = env'.get d)
    (hP : own' = own ∨ isP o.op = true ∨ again1 C all env' own' (some o)) (h : Stab C all o env own) : Stab C all o env' own' := by
  have hg := gOk_same (all := all) (o := o) (env := env) (env' := env') fun t ht => hl t (List.mem_append_right _ ht)
  unfold Stab at h ⊢
  rw [hg] at h
  split at h
  · rename_i hg'
    obtain ⟨p, sv, h1, h2, h3⟩ := h
    rw [flV_congr (ev_same fun t ht => hl t (List.mem_append_left _ ht))] at h1
    rcases hP with rfl | hP | hA
    · exact ⟨p, sv, h1, h2, fun d hd' => by rw [← hd d hd']; exact h3 d hd'⟩
    · exact ⟨p, sv, flV_P hP _ h1, h2, fun d hd' => by rw [← hd d hd']; exact h3 d hd'⟩
    · have hs : same3 o.dst env' (stepv C o.op env' own') := by
        unfold again1 at hA
        simp only at hA
        split at hA
        · exact hA
        · rename_i j want hgu
          simp only [gOk, hgu] at hg'
          split at hA
          · rename_i b hb
            simp only [hb, Option.some.injEq, beq_iff_eq] at hg'
            exact hA hg'
          · rename_i xs hb
            simp only [hb] at hg'; cases hg'
          · exact hA.elim
      unfold same3 at hs
      split at hs
      · rename_i p' s' own'' heq
        refine ⟨p', s', ?_, hs.1, ?_⟩
        · unfold flV
          split
          · rename_i hop; rw [hop] at heq; cases heq
          · rw [heq]
        · intro d hd'
          have := hs.2
          rw [hd'] at this
          exact this
      · exact hs.elim
  · intro d hd'
    rw [← hd d hd']; exact h d hd'
  · exact h.elim

/-- A floating operation that stays: as one that is run. -/
theorem vopg_of_stab (hf : isF o.op = true) (h : Stab C all o env own) : vopg C all o (fun e' own' => own' = own ∧ ∃ sv, e' = env.put o.dst sv ∧ ∀ d, o.dst = some d → sv = env.get d) env own := by
  unfold Stab at h
  unfold vopg
  split at h
  · rename_i hg
    obtain ⟨p, sv, h1, h2, h3⟩ := h
    have hv := vop_of_fl (K := fun e' own' => own' = own ∧ ∃ sv, e' = env.put o.dst sv ∧ ∀ d, o.dst = some d → sv = env.get d) hf h1 h2 ⟨rfl, sv, rfl, fun d hd => (h3 d hd).symm⟩
    split
    · exact hv
    · rename_i j want hgu
      simp only [gOk, hgu] at hg
      split at hg
      · rename_i b hb
        simp only [Option.some.injEq, beq_iff_eq] at hg
        subst hg
        simp only [hb, vguard]
        exact ⟨fun _ => hv, fun e => by cases b <;> cases e⟩
      · cases hg
      · cases hg
  · rename_i hg
    split
    · rename_i hgu
      simp [gOk, hgu] at hg
    · rename_i j want hgu
      simp only [gOk, hgu] at hg
      split at hg
      · rename_i b hb
        simp only [Option.some.injEq, beq_eq_false_iff_ne] at hg
        simp only [hb, vguard]
        exact ⟨fun e => absurd e hg, fun _ => ⟨trivial, .tup [], rfl, fun d hd => (h d hd).symm⟩⟩
      · rename_i xs hb
        simp only [hb, vguard]
        exact ⟨trivial, .tup [], rfl, fun d hd => (h d hd).symm⟩
      · cases hg
  · exact h.elim
end
end Go.AM
namespace Go.AM
open Go
set_option autoImplicit false
set_option linter.unusedVariables false

section
variable {C : Cx} {o : Oper} {env env' : Env} {own own' : List SO} {p : Prop} {sv : SV} {K K' : Env → List SO → Prop} {all : List Oper} {a a0 : Act} {s s0 : St} {pms dn : List Nat} {t : DT}

theorem vtree_mv {j : Nat} {chk : List Nat} {t o : DT} (h : vtree C all K (.mv j chk t o) env own) :
    vopo C all all[j]? (vpk C all chk (vtree C all K t)) env own ∧ vtree C all K o env own := by
  cases o with
  | no => simp only [vtree] at h ⊢; exact ⟨h, trivial⟩
  | _ => simp only [vtree] at h ⊢; exact h

theorem cover_spec {hs : List Nat} (h : cover all dn hs = true) {i : Nat} {o : Oper} (ho : all[i]? = some o) (hd : i ∉ dn)
    (hr : ∀ e ∈ o.after.toList, Region.binds .any e = true → e.on ∈ dn) : i ∈ hs := by
  have hi : i < all.length := by
    rcases Nat.lt_or_ge i all.length with h | h
    · exact h
    · rw [List.getElem?_eq_none h] at ho; cases ho
  have := List.all_eq_true.1 h i (by simpa using hi)
  simp only [ho, Bool.or_eq_true, List.any_eq_true, Bool.and_eq_true, Bool.not_eq_true'] at this
  rcases this with (h | h) | ⟨e, he, hb, hn⟩
  · exact absurd (by simpa using h) hd
  · simpa using h
  · have := hr e he hb
    simp [this] at hn

/-- The order that begins with `i`. -/
theorem chain_find {i : Nat} {o : Oper} (ho : all[i]? = some o) (hd : i ∉ dn) (hr : ∀ e ∈ o.after.toList, Region.binds .any e = true → e.on ∈ dn) :
    ∀ (t : DT) (hs : Option (List Nat)), okT all pms t dn hs = true → (∀ j t', t ≠ .fl j t') → (hs.getD [] |>.contains i) = false → vtree C all K t env own →
      (t = .done ∧ hs = none) ∨ ∃ chk t', mvOk all pms dn chk i = true ∧ okT all pms t' (i :: dn) none = true ∧ vopo C all all[i]? (vpk C all chk (vtree C all K t')) env own
  | .done, hs, hok, hf, hi, hv => by
    cases hs with
    | none => exact .inl ⟨rfl, rfl⟩
    | some hs => simp [okT] at hok
  | .fl j t, hs, hok, hf, hi, hv => absurd rfl (hf j t)
  | .no, hs, hok, hf, hi, hv => by
    cases hs with
    | none => simp [okT] at hok
    | some hs =>
      simp only [okT] at hok
      have := cover_spec hok ho hd hr
      simp only [Option.getD_some, List.contains_eq_mem, decide_eq_false_iff_not] at hi
      exact absurd this hi
  | .mv j chk t o', hs, hok, hf, hi, hv => by
    simp only [okT, Bool.and_eq_true] at hok
    obtain ⟨⟨h1, h2⟩, h3⟩ := hok
    obtain ⟨hv1, hv2⟩ := vtree_mv hv
    by_cases hij : j = i
    · subst hij
      exact .inr ⟨chk, t, h1, h2, hv1⟩
    · have hnf : ∀ j t', o' ≠ .fl j t' := by
        rintro k t' rfl
        simp [okT] at h3
      rcases chain_find ho hd hr o' (some (j :: hs.getD [])) h3 hnf (by simp at hi ⊢; exact ⟨fun e => hij e.symm, hi⟩) hv2 with ⟨_, h⟩ | h
      · cases h
      · exact .inr h

/-- Where a drawn region stands. -/
structure Inv (C : Cx) (all : List Oper) (a0 : Act) (s0 : St) (listed : Nat → Bool) (dn : List Nat) (env : Env) (own : List SO) (a : Act) (s : St) : Prop where
  defers : a.defers = a0.defers
  size : a.tmps.size = a0.tmps.size
  R : Rel C.G own s
  S : Step s0 s
  ρ : Rle s0.ρ s.ρ
  sub : ∀ j, listed j = true → j ∈ dn
  fl : ∀ j ∈ dn, listed j = false → ∃ o, all[j]? = some o ∧ isF o.op = true ∧ apart1 all o o = true ∧ Stab C all o env own
  sep : ∀ j ∈ dn, ∀ k ∈ dn, ∀ oj ok, all[j]? = some oj → all[k]? = some ok → isF oj.op = true → isF ok.op = true → j ≠ k → apart1 all ok oj = false → ((pmasks all []).getD j 0).testBit k = true
  E : ∀ t, (∀ j ∈ dn, listed j = false → ∀ o, all[j]? = some o → o.dst ≠ some t) → VRel s.F s.ρ (env.get t) (a.tmps.getD t undef)
  down : ∀ i o, all[i]? = some o → listed i = true → ∀ e ∈ o.after.toList, Region.binds .any e = true → listed e.on = true

theorem apart1_false {x y : Oper} (h : ∀ t ∈ looks all y, x.dst ≠ some t) : apart1 all x y = true := by
  unfold apart1
  split
  · rename_i d hd
    have : d ∉ looks all y := fun hm => h d hm hd
    simp [this]
  · rfl

/-- Gone on as far as nothing turns. -/
theorem adv {listed : Nat → Bool} : ∀ (t : DT) (dn : List Nat) (env : Env), okT all (pmasks all []) t dn none = true → vtree C all K t env own → Inv C all a0 s0 listed dn env own a s →
    ∃ t' dn' env', okT all (pmasks all []) t' dn' none = true ∧ (∀ j t'', t' ≠ .fl j t'') ∧ vtree C all K t' env' own ∧ Inv C all a0 s0 listed dn' env' own a s
  | .done, dn, env, hok, hv, hi => ⟨.done, dn, env, hok, nofun, hv, hi⟩
  | .no, dn, env, hok, hv, hi => ⟨.no, dn, env, hok, nofun, hv, hi⟩
  | .mv j chk t o, dn, env, hok, hv, hi => ⟨.mv j chk t o, dn, env, hok, nofun, hv, hi⟩
  | .fl j t, dn, env, hok, hv, hi => by
    simp only [okT, Bool.and_eq_true] at hok
    obtain ⟨hfl, hok⟩ := hok
    simp only [vtree, vopo] at hv
    unfold flOk at hfl
    split at hfl
    case h_2 => cases hfl
    rename_i oj hoj
    rw [hoj] at hv
    simp only [Bool.and_eq_true, Bool.not_eq_true', List.all_eq_true] at hfl
    obtain ⟨⟨⟨hF, hnd⟩, hself⟩, hall⟩ := hfl
    have hnd : j ∉ dn := by simpa using hnd
    have hall : ∀ k ∈ dn, ∀ ok, all[k]? = some ok → isF ok.op = true → apart1 all oj ok = true ∧ dstNe oj ok = true ∧ (apart1 all ok oj = true ∨ ((pmasks all []).getD j 0).testBit k = true) := by
      intro k hk ok hok hfk
      have := hall k hk
      simp only [hok, hfk, Bool.not_true, Bool.false_or, Bool.and_eq_true, Bool.or_eq_true] at this
      exact ⟨this.1.1, this.1.2, this.2⟩
    obtain ⟨sv, hK, hst⟩ := vopg_fl hF hself hv
    have hlj : listed j = false := by
      cases h : listed j with
      | false => rfl
      | true => exact absurd (hi.sub j h) hnd
    refine adv t (j :: dn) (env.put oj.dst sv) hok hK { hi with sub := ?_, fl := ?_, sep := ?_, E := ?_ }
    · intro k hk; exact List.mem_cons_of_mem _ (hi.sub k hk)
    · intro k hk hlk
      rcases List.mem_cons.1 hk with rfl | hk
      · exact ⟨oj, hoj, hF, hself, hst⟩
      · obtain ⟨ok, h1, h2, h3, h4⟩ := hi.fl k hk hlk
        obtain ⟨h5, h6, h7⟩ := hall k hk ok h1 h2
        refine ⟨ok, h1, h2, h3, stab_keep h2 ?_ ?_ (.inl rfl) h4⟩
        · intro t ht; exact (put_get_ne (apart1_spec h5 t ht)).symm
        · intro d hd; exact (put_get_ne (fun he => dstNe_spec h6 d he hd)).symm
    · intro i hi' k hk oi ok hoi hok' hfi hfk hne hap
      rcases List.mem_cons.1 hi' with rfl | hi2
      · rcases List.mem_cons.1 hk with rfl | hk
        · exact absurd rfl hne
        · rw [hoj] at hoi; injection hoi with hoi; subst hoi
          rcases (hall k hk ok hok' hfk).2.2 with h | h
          · rw [h] at hap; cases hap
          · exact h
      · rcases List.mem_cons.1 hk with rfl | hk
        · rw [hoj] at hok'; injection hok' with hok'; subst hok'
          rw [(hall i hi2 oi hoi hfi).1] at hap; cases hap
        · exact hi.sep i hi2 k hk oi ok hoi hok' hfi hfk hne hap
    · intro t ht
      have h1 : oj.dst ≠ some t := ht j (by simp) hlj oj hoj
      rw [put_get_ne h1]
      exact hi.E t fun k hk => ht k (List.mem_cons_of_mem _ hk)

/-- How many are left. -/
def left (l : Array Bool) : Nat → Nat
  | 0 => 0
  | n + 1 => left l n + if l.getD n true then 0 else 1
theorem left_set_le {l : Array Bool} {i : Nat} : ∀ n, left (l.setIfInBounds i true) n ≤ left l n
  | 0 => Nat.le_refl _
  | n + 1 => by
    have := left_set_le (l := l) (i := i) n
    simp only [left]
    by_cases h : i = n
    · subst h
      have : (l.setIfInBounds i true).getD i true = true := by
        by_cases hs : i < l.size <;> simp [Array.getD_eq_getD_getElem?, hs]
      rw [this]; simp; omega
    · rw [getD_set_ne true h]; omega
theorem left_set {l : Array Bool} {i : Nat} (hi : l.getD i true = false) : ∀ n, i < n → left (l.setIfInBounds i true) n < left l n
  | 0, h => by omega
  | n + 1, h => by
    simp only [left]
    by_cases he : i = n
    · subst he
      have h1 : (l.setIfInBounds i true).getD i true = true := by
        by_cases hs : i < l.size <;> simp [Array.getD_eq_getD_getElem?, hs]
      have := left_set_le (l := l) (i := i) i
      rw [h1, hi]; simp; omega
    · have := left_set hi n (by omega)
      rw [getD_set_ne true he]; omega
theorem left_zero {l : Array Bool} : ∀ n, left l n = 0 → ∀ i, i < n → l.getD i true = true
  | 0, h, i, hi => by omega
  | n + 1, h, i, hi => by
    simp only [left] at h
    by_cases he : i = n
    · subst he
      cases hl : l.getD i true with
      | true => rfl
      | false => rw [hl] at h; simp at h
    · exact left_zero n (by omega) i (by omega)
end
end Go.AM
namespace Go.AM
open Go
set_option autoImplicit false
set_option linter.unusedVariables false

section
variable {C : Cx} {o : Oper} {env env' : Env} {own own' : List SO} {p : Prop} {sv : SV} {K K' : Env → List SO → Prop} {a a0 : Act} {s s0 : St} {pms dn : List Nat} {t : DT} {ops : Array Oper}

theorem again_mem {all : List Oper} : ∀ {chk : List Nat} {k : Nat}, again C all chk env own → k ∈ chk → again1 C all env own all[k]?
  | [], k, h, hk => by simp at hk
  | j :: l, k, h, hk => by
    rcases List.mem_cons.1 hk with rfl | hk
    · exact h.1
    · exact again_mem h.2 hk

theorem put_tmps_eq {d : Nat} {v : Value} (hd : d < a.tmps.size) : (a.put (some d) v).tmps.getD d undef = v := by simp [Act.put, hd]
theorem put_tmps_ne {d : Option Tmp} {t : Nat} {v : Value} (h : d ≠ some t) : (a.put d v).tmps.getD t undef = a.tmps.getD t undef := by
  cases d with
  | none => rfl
  | some d =>
    have hne : d ≠ t := fun e => h (by rw [e])
    simp [Act.put, Array.getElem?_setIfInBounds_ne hne]

theorem mvOk_spec {all : List Oper} {chk : List Nat} {i : Nat} (h : mvOk all pms dn chk i = true) (ho : all[i]? = some o) :
    isF o.op = false ∧ i ∉ dn ∧ ∀ k ∈ dn, ∀ ok, all[k]? = some ok → isF ok.op = true → (pms.getD i 0).testBit k = true ∨ (apart1 all o ok = true ∧ dstNe o ok = true ∧ apart1 all ok o = true ∧ (isP ok.op = true ∨ k ∈ chk)) := by
  unfold mvOk at h
  simp only [ho, Bool.and_eq_true, Bool.not_eq_true', List.all_eq_true] at h
  obtain ⟨⟨h1, h2⟩, h3⟩ := h
  refine ⟨h1, by simpa using h2, fun k hk ok hok hf => ?_⟩
  have := h3 k hk
  simp only [hok, hf, Bool.not_true, Bool.false_or, Bool.or_eq_true, Bool.and_eq_true] at this
  rcases this with h | h
  · exact .inl h
  · exact .inr ⟨h.1.1.1, h.1.1.2, h.1.2, by rcases h.2 with h | h; exact .inl h; exact .inr (by simpa using h)⟩

theorem getD_ft {l : Array Bool} {j : Nat} (h : j < l.size) : l.getD j true = l.getD j false := by
  simp [Array.getD_eq_getD_getElem?, Array.getElem?_eq_getElem h]

theorem ready_nil {l : Array Bool} (hac : acyc 0 ops.toList = true) (hsz : l.size = ops.size) (hr : Region.ready .any ops l = []) : ∀ i, i < ops.size → l.getD i true = true := by
  intro i
  induction i using Nat.strongRecOn with
  | ind i ih =>
    intro hi
    cases hl : l.getD i true with
    | true => rfl
    | false =>
      exfalso
      have ho : ops[i]? = some ops[i] := Array.getElem?_eq_getElem hi
      have : i ∈ Region.ready .any ops l := mem_ready.2 ⟨hl, ops[i], ho, fun e he hb => by
        have hlt := acyc_spec ops.toList 0 hac i ops[i] (by simp [hi]) e (by simpa using he) hb
        rw [← getD_ft (by omega)]
        exact ih e.on (by omega) (by omega)⟩
      rw [hr] at this
      cases this

theorem draw_end {l : Array Bool} (hsz : l.size = ops.size) (hall : ∀ i, i < ops.size → l.getD i true = true)
    (hok : okT ops.toList (pmasks ops.toList []) t dn none = true) (hnf : ∀ j t', t ≠ .fl j t') (hv : vtree C ops.toList K t env own)
    (hi : Inv C ops.toList a0 s0 (fun j => l.getD j false) dn env own a s) : Nxt C a0 s0 K a s.w := by
  have hlt : ∀ {j : Nat} {o : Oper}, ops.toList[j]? = some o → l.getD j false = true := by
    intro j o ho
    have hj : j < ops.size := by
      rcases Nat.lt_or_ge j ops.toList.length with h | h
      · simpa using h
      · rw [List.getElem?_eq_none h] at ho; cases ho
    rw [← getD_ft (by omega)]; exact hall j hj
  cases t with
  | fl j t => exact absurd rfl (hnf j t)
  | no => simp [okT] at hok
  | mv j chk t o =>
    simp only [okT, Bool.and_eq_true] at hok
    obtain ⟨⟨h1, _⟩, _⟩ := hok
    cases ho : ops.toList[j]? with
    | none => simp [mvOk, ho] at h1
    | some oj =>
      exact absurd (hi.sub j (hlt ho)) (mvOk_spec h1 ho).2.1
  | done =>
    simp only [vtree] at hv
    refine ⟨env, own, s, rfl, hi.defers, hi.size, ?_, hi.R, hi.S, hi.ρ, hv⟩
    intro t
    refine hi.E t fun j hj hl o ho => ?_
    have := hlt ho
    rw [this] at hl; cases hl

theorem draw_go (hdst : ∀ o ∈ ops.toList, dstOk a0.tmps.size o = true) (hac : acyc 0 ops.toList = true) :
    ∀ (fuel : Nat) (l : Array Bool) (a : Act) (s : St) (dn : List Nat) (env : Env) (own : List SO) (t : DT), l.size = ops.size → left l ops.size ≤ fuel →
      okT ops.toList (pmasks ops.toList []) t dn none = true → vtree C ops.toList K t env own → Inv C ops.toList a0 s0 (fun j => l.getD j false) dn env own a s →
      wpAny C.P .any ops (QN C a0 s0 K) fuel l a s.w := by
  intro fuel
  induction fuel with
  | zero =>
    intro l a s dn env own t hsz hl hok hv hi
    obtain ⟨t', dn', env', hok', hnf, hv', hi'⟩ := adv t dn env hok hv hi
    have hall := left_zero (l := l) ops.size (by omega)
    refine ⟨?_, draw_end hsz hall hok' hnf hv' hi'⟩
    unfold Region.ready
    rw [List.filter_eq_nil_iff]
    intro i hi
    rw [List.mem_range] at hi
    simp [hall i hi]
  | succ fuel ih =>
    intro l a s dn0 env0 own t0 hsz hl hok0 hv0 hi0
    obtain ⟨t, dn, env, hok, hnf, hv, hi⟩ := adv t0 dn0 env0 hok0 hv0 hi0
    refine ⟨fun hr => draw_end hsz (ready_nil hac hsz hr) hok hnf hv hi, fun i hir => ?_⟩
    obtain ⟨hli, o, ho, hedge⟩ := mem_ready.1 hir
    have hin : i < ops.size := by
      rcases Nat.lt_or_ge i ops.size with h | h
      · exact h
      · rw [Array.getElem?_eq_none h] at ho; cases ho
    have hlf : l.getD i false = false := by rw [← getD_ft (by omega)]; exact hli
    have hol : ops.toList[i]? = some o := by simpa using ho
    have hedge' : ∀ e ∈ o.after.toList, Region.binds .any e = true → l.getD e.on false = true := fun e he hb => hedge e (by simpa using he) hb
    have hclosed := pmasks_closed (L := fun k => l.getD k false = true ∨ k = i) (all := ops.toList) (by
      intro k ok hok' hk e he hb
      rcases hk with hk | rfl
      · exact .inl (hi.down k ok hok' hk e he hb)
      · rw [hol] at hok'; injection hok' with hok'; subst hok'
        exact .inl (hedge' e he hb)) ops.toList [] (by simp) (by intro i _ k hk; simp at hk)
    have hset : ∀ k, (l.setIfInBounds i true).getD k false = false → k ≠ i ∧ l.getD k false = false := by
      intro k hk
      by_cases he : k = i
      · subst he; simp [show k < l.size by omega] at hk
      · exact ⟨he, by rw [getD_set_ne false (Ne.symm he)] at hk; exact hk⟩
    have hset' : ∀ k, (l.setIfInBounds i true).getD k false = true → k = i ∨ l.getD k false = true := by
      intro k hk
      by_cases he : k = i
      · exact .inl he
      · exact .inr (by rw [getD_set_ne false (Ne.symm he)] at hk; exact hk)
    have hleft : left (l.setIfInBounds i true) ops.size ≤ fuel := by
      have := left_set hli ops.size hin
      omega
    have hdst' : ∀ o ∈ ops.toList, dstOk a.tmps.size o = true := by rw [hi.size]; exact hdst
    have hds : ∀ d, o.dst = some d → d < a.tmps.size := by
      intro d hd
      have := hdst' o (List.mem_of_getElem? hol)
      simpa only [dstOk, hd, decide_eq_true_eq] using this
    have hdown : ∀ k ok, ops.toList[k]? = some ok → (l.setIfInBounds i true).getD k false = true → ∀ e ∈ ok.after.toList, Region.binds .any e = true → (l.setIfInBounds i true).getD e.on false = true := by
      intro k ok hok' hk e he hb
      rcases hset' k hk with rfl | hk
      · rw [hol] at hok'; injection hok' with hok'; subst hok'
        exact getD_set_true (hedge' e he hb)
      · exact getD_set_true (hi.down k ok hok' hk e he hb)
    by_cases hdn : i ∈ dn
    · obtain ⟨o', ho', hF, hself, hst⟩ := hi.fl i hdn hlf
      rw [hol] at ho'; injection ho' with ho'; subst ho'
      refine wpOp_vopg ho hdst' (vopg_of_stab hF hst) ?_ hi.R ?_
      · intro t ht
        refine hi.E t fun k hk hlk ok hok' hd => ?_
        by_cases hki : k = i
        · subst hki
          rw [hol] at hok'; injection hok' with hok'; subst hok'
          exact apart1_spec hself t ht hd
        · obtain ⟨ok2, h1, h2, h3, h4⟩ := hi.fl k hk hlk
          rw [hok'] at h1; injection h1 with h1; subst h1
          have hap : apart1 ops.toList ok o = false := by
            cases hc : apart1 ops.toList ok o with
            | false => rfl
            | true => exact absurd hd (apart1_spec hc t ht)
          rcases hclosed i (.inr rfl) k (hi.sep i hdn k hk o ok hol hok' hF h2 (Ne.symm hki) hap) with h | h
          · rw [h] at hlk; cases hlk
          · exact hki h
      · rintro v sv own' s' hv' hR' hS' hr' ⟨rfl, sv0, heq, hsv⟩
        refine ih (l.setIfInBounds i true) (a.put o.dst v) s' dn env own' t (by simpa using hsz) hleft hok hv ?_
        refine { defers := by rw [AM.put_defers]; exact hi.defers, size := by rw [put_size]; exact hi.size, R := hR', S := Step.trans hi.R.dF hi.S hS', ρ := Rle.trans hi.ρ hr', sub := ?_, fl := ?_, sep := hi.sep, E := ?_, down := hdown }
        · intro k hk
          rcases hset' k hk with rfl | hk
          · exact hdn
          · exact hi.sub k hk
        · intro k hk hlk; exact hi.fl k hk (hset k hlk).2
        · intro t ht
          by_cases hd : o.dst = some t
          · rw [hd, put_tmps_eq (hds t hd)]
            rw [hd] at heq
            simp only [Env.put, List.cons.injEq, Prod.mk.injEq, true_and, and_true] at heq
            rw [← hsv t hd, ← heq]; exact hv'
          · rw [put_tmps_ne hd]
            refine VRel.mono hS'.F _ _ hr' (hi.E t fun k hk hlk ok hok' => ?_)
            by_cases hki : k = i
            · subst hki
              rw [hol] at hok'; injection hok' with hok'; subst hok'
              exact hd
            · exact ht k hk (by rw [getD_set_ne false (Ne.symm hki)]; exact hlk) ok hok'
    · rcases chain_find hol hdn (fun e he hb => hi.sub _ (hedge' e he hb)) t none hok hnf (by simp) hv with ⟨rfl, _⟩ | ⟨chk, t', hmv, hok', hvo⟩
      · exfalso
        simp only [okT, List.all_eq_true] at hok
        have := hok i (by simpa using hin)
        exact hdn (by simpa using this)
      · obtain ⟨hF, _, hsp⟩ := mvOk_spec hmv hol
        rw [hol] at hvo
        simp only [vopo] at hvo
        have hpend : ∀ k ∈ dn, l.getD k false = false → ∀ ok, ops.toList[k]? = some ok → isF ok.op = true → apart1 ops.toList o ok = true ∧ dstNe o ok = true ∧ apart1 ops.toList ok o = true ∧ (isP ok.op = true ∨ k ∈ chk) := by
          intro k hk hlk ok hok2 hf
          rcases hsp k hk ok hok2 hf with h | h
          · rcases hclosed i (.inr rfl) k h with h | h
            · rw [h] at hlk; cases hlk
            · subst h; exact absurd hk hdn
          · exact h
        refine wpOp_vopg ho hdst' hvo ?_ hi.R ?_
        · intro t ht
          refine hi.E t fun k hk hlk ok hok2 hd => ?_
          obtain ⟨ok2, h1, h2, h3, h4⟩ := hi.fl k hk hlk
          rw [hok2] at h1; injection h1 with h1; subst h1
          exact apart1_spec (hpend k hk hlk ok hok2 h2).2.2.1 t ht hd
        · rintro v sv own' s' hv' hR' hS' hr' ⟨hag, hK⟩
          refine ih (l.setIfInBounds i true) (a.put o.dst v) s' (i :: dn) (env.put o.dst sv) own' t' (by simpa using hsz) hleft hok' hK ?_
          refine { defers := by rw [AM.put_defers]; exact hi.defers, size := by rw [put_size]; exact hi.size, R := hR', S := Step.trans hi.R.dF hi.S hS', ρ := Rle.trans hi.ρ hr', sub := ?_, fl := ?_, sep := ?_, E := ?_, down := hdown }
          · intro k hk
            rcases hset' k hk with rfl | hk
            · exact List.mem_cons_self
            · exact List.mem_cons_of_mem _ (hi.sub k hk)
          · intro k hk hlk
            obtain ⟨hki, hlk⟩ := hset k hlk
            have hk : k ∈ dn := by rcases List.mem_cons.1 hk with h | h; exact absurd h hki; exact h
            obtain ⟨ok, h1, h2, h3, h4⟩ := hi.fl k hk hlk
            obtain ⟨p1, p2, p3, p4⟩ := hpend k hk hlk ok h1 h2
            refine ⟨ok, h1, h2, h3, stab_keep h2 (fun t ht => (put_get_ne (apart1_spec p1 t ht)).symm) (fun d hd => (put_get_ne (fun he => dstNe_spec p2 d he hd)).symm) ?_ h4⟩
            rcases p4 with h | h
            · exact .inr (.inl h)
            · have := again_mem hag h
              rw [h1] at this
              exact .inr (.inr this)
          · intro j hj k hk oj ok hoj hok2 hfj hfk hne hap
            rcases List.mem_cons.1 hj with rfl | hj2
            · rw [hol] at hoj; injection hoj with hoj; subst hoj
              rw [hF] at hfj; cases hfj
            · rcases List.mem_cons.1 hk with rfl | hk2
              · rw [hol] at hok2; injection hok2 with hok2; subst hok2
                rw [hF] at hfk; cases hfk
              · exact hi.sep j hj2 k hk2 oj ok hoj hok2 hfj hfk hne hap
          · intro t ht
            by_cases hd : o.dst = some t
            · rw [hd, put_tmps_eq (hds t hd), put_get_eq]; exact hv'
            · rw [put_tmps_ne hd, put_get_ne hd]
              refine VRel.mono hS'.F _ _ hr' (hi.E t fun k hk hlk ok hok2 => ?_)
              have hki : k ≠ i := fun h => hdn (h ▸ hk)
              exact ht k (List.mem_cons_of_mem _ hk) (by rw [getD_set_ne false (Ne.symm hki)]; exact hlk) ok hok2
end
end Go.AM
namespace Go.AM
open Go
set_option autoImplicit false
set_option linter.unusedVariables false

section
variable {C : Cx} {o : Oper} {env env' : Env} {own own' : List SO} {sv : SV} {K K' : Env → List SO → Prop} {a a0 : Act} {s s0 : St} {ops : Array Oper} {Q : SV → List SO → Prop}

/-! ### Results -/
theorem load_of {t : TypeId} {x : SV} {v : Value} (hx : VRel s.F s.ρ x v) (hR : Rel C.G own s) (h : ldc (C.T t) (cellsAt own x) = some sv) :
    ∃ ad r, v = .pointer (some ad) ∧ (loadVar t ad).run C.P s.w = .ok r s.w ∧ VRel s.F s.ρ sv r := by
  unfold ldc at h
  split at h
  · rename_i ti cs ht hcs
    split at h
    · rename_i hle
      injection h with h; subst h
      obtain ⟨b, off, c, E, fz, hva, hb, hP⟩ := cellsAt_rel hcs hx hR
      have hlen := PRel_length hP
      simp at hlen
      have hl : off + ti.size ≤ c.size := by omega
      exact ⟨_, _, hva, run_loadVar ht hb hl, mkv_rel ti.k.isAgg ti.size (by simp; omega) hle.2 (ti_one ht) (PRel_take' ti.size hP) (by simp; omega)⟩
    · cases h
  · cases h

def resM (tmps : Array Value) : ResultVar → Sem Value
  | .tmp t => pure (tmps.getD t undef)
  | .cell a t => do loadVar t (← asAddr (tmps.getD a undef))

theorem resv_sound {r : ResultVar} (hE : ERel env a s) (hR : Rel C.G own s) (h : resv C env own r = some sv) :
    ∃ v, (resM a.tmps r).run C.P s.w = .ok v s.w ∧ VRel s.F s.ρ sv v := by
  cases r with
  | tmp t =>
    simp only [resv, Option.some.injEq] at h
    subst h
    exact ⟨_, rfl, hE t⟩
  | cell x t =>
    simp only [resv] at h
    obtain ⟨ad, v, h1, h2, h3⟩ := load_of (hE x) hR h
    refine ⟨v, ?_, h3⟩
    simp only [resM, h1, Sem.run_bind]
    exact h2

theorem resvs_sound (hE : ERel env a s) (hR : Rel C.G own s) : ∀ (rs : List ResultVar) (ss : List SV), resvs C env own rs = some ss →
    ∃ vs, (rs.mapM (resM a.tmps)).run C.P s.w = .ok vs s.w ∧ TRel s.F s.ρ ss vs ∧ vs.length = ss.length
  | [], ss, h => by
    simp only [resvs, Option.some.injEq] at h; subst h
    exact ⟨[], rfl, rfl, rfl⟩
  | r :: rs, ss, h => by
    simp only [resvs] at h
    split at h
    · rename_i x xs h1 h2
      injection h with h; subst h
      obtain ⟨v, hv1, hv2⟩ := resv_sound hE hR h1
      obtain ⟨vs, hs1, hs2, hs3⟩ := resvs_sound hE hR rs xs h2
      refine ⟨v :: vs, ?_, ⟨v, vs, rfl, hv2, hs2⟩, by simp [hs3]⟩
      simp only [List.mapM_cons, Sem.run_bind, hv1, Result.andThen_ok, hs1, Sem.run_pure]
    · cases h

theorem run_results {fn : Func} {vs : List Value} {w : World} (h : (fn.results.toList.mapM (resM a.tmps)).run C.P w = .ok vs w) :
    (results fn a.tmps).run C.P w = .ok (if h : vs.length = 1 then vs[0] else .tuple vs.toArray) w := by
  have e : results fn a.tmps = (do let vs ← fn.results.mapM (resM a.tmps); pure (if h : vs.size = 1 then vs[0] else .tuple vs)) := by
    unfold results
    congr 2
  rw [e, Array.mapM_eq_mapM_toList]
  simp only [map_eq_pure_bind, bind_assoc, pure_bind, Sem.run_bind, h, Result.andThen_ok, Sem.run_pure]
  rfl

theorem vret_sound (hE : ERel env a s) (hR : Rel C.G own s) (h : vret Q own (resvs C env own C.fn.results.toList)) :
    ∃ v sv, (results C.fn a.tmps).run C.P s.w = .ok v s.w ∧ VRel s.F s.ρ sv v ∧ Q sv own := by
  generalize hr : resvs C env own C.fn.results.toList = r at h
  unfold vret at h
  split at h
  · rename_i sv
    obtain ⟨vs, h1, h2, h3⟩ := resvs_sound hE hR _ _ hr
    refine ⟨_, sv, run_results h1, ?_, h⟩
    obtain ⟨x, xs, rfl, hx, hxs⟩ := h2
    have : xs = [] := by simpa [TRel] using hxs
    subst this
    exact hx
  · rename_i ss hne
    obtain ⟨vs, h1, h2, h3⟩ := resvs_sound hE hR _ _ hr
    refine ⟨_, .tup ss, run_results h1, ?_, h⟩
    have hl : vs.length ≠ 1 := by
      intro hl
      rw [h3] at hl
      obtain ⟨x, rfl⟩ := List.length_eq_one_iff.1 hl
      exact hne x rfl
    rw [dif_neg hl]
    exact ⟨_, rfl, h2⟩
  · exact h.elim

/-! ### Regions -/
theorem vtree_text {all : List Oper} : ∀ (l : List Oper) (k : Nat) (env : Env) (own : List SO), l = all.drop k → vops C all K l env own → vtree C all K (textT k l) env own
  | [], k, env, own, hl, h => h
  | o :: l, k, env, own, hl, h => by
    have ho : all[k]? = some o := by
      have := congrArg (·[0]?) hl
      simpa using this.symm
    have hl' : l = all.drop (k + 1) := by
      have := congrArg List.tail hl
      simpa using this
    have mono : ∀ (K1 K2 : Env → List SO → Prop), (∀ e o, K1 e o → K2 e o) → vopg C all o K1 env own → vopg C all o K2 env own := by
      intro K1 K2 hk hv
      have hm : vop C o K1 env own → vop C o K2 env own := vop_congr (fun _ _ => rfl) (fun sv own' => hk _ _)
      unfold vopg at hv ⊢
      split at hv
      · exact hm hv
      · unfold vguard at hv ⊢
        split at hv
        · exact ⟨fun e => hm (hv.1 e), fun e => hk _ _ (hv.2 e)⟩
        · exact hk _ _ hv
        · exact hv.elim
    simp only [vops] at h
    simp only [textT]
    split
    · simp only [vtree, ho, vopo]
      exact mono _ _ (fun e o h => vtree_text l (k + 1) e o hl' h) h
    · simp only [vtree, ho, vopo]
      exact mono _ _ (fun e o h => ⟨trivial, vtree_text l (k + 1) e o hl' h⟩) h

theorem rel_drawn {G : Nat → Option (List SV)} {n : Nat} (h : Rel G own s) : Rel G own { s with w := { s.w with drawn := n } } := ⟨h.obj, h.out, h.dF, h.dd, h.inF, h.inh, h.glob⟩
theorem step_drawn {n : Nat} : Step s { s with w := { s.w with drawn := n } } := ⟨PHle.refl _, Nat.le_refl _, rfl, rfl, rfl, fun _ _ _ => rfl, fun _ _ h => h⟩

theorem vreg_sound {id : Nat} {draw : Bool} (hm : C.P.follows .mixedOrders = true) (hok : regOk C id ops.toList draw = true) (hsz : a.tmps.size = C.fn.ntmps)
    (h : vreg C id ops.toList draw K env own) (hE : ERel env a s) (hR : Rel C.G own s) : (Code.region id ops draw).wp C.P (QN C a s K) a s.w := by
  simp only [regOk, Bool.and_eq_true, Bool.or_eq_true, Bool.not_eq_true', List.all_eq_true] at hok
  obtain ⟨hd, hdr⟩ := hok
  rw [← hsz] at hd
  have hh : Here C a s a s env own := ⟨rfl, rfl, hE, hR, Step.refl s, Rle.refl _⟩
  cases draw with
  | false =>
    refine wp_region ?_
    have := vops_sound (K := K) hd ops.toList 0 a s env own (by simp) h hh
    rwa [Array.length_toList, ← List.range_eq_range'] at this
  | true =>
    refine wp_region_any hm ?_
    have hdr : okD ops.toList (treeOf C id ops.toList) = true := by simpa using hdr
    simp only [okD, Bool.and_eq_true] at hdr
    have hv : vtree C ops.toList K (treeOf C id ops.toList) env own := by
      simp only [vreg, vdraw] at h
      unfold treeOf
      split at h
      · rename_i e; rw [e]; exact vtree_text _ 0 env own (by simp) h
      · rename_i t e; rw [e]; exact h
    refine draw_go (s := { s with w := { s.w with drawn := s.w.drawn + 1 } }) hd hdr.1 ops.size _ a [] env own _ (by simp) ?_ hdr.2 hv ?_
    · have : ∀ n, left (Array.replicate ops.size false) n ≤ n := by
        intro n
        induction n with
        | zero => exact Nat.le_refl _
        | succ n ih => simp only [left]; split <;> omega
      exact this _
    · refine ⟨rfl, rfl, rel_drawn hR, step_drawn, Rle.refl _, ?_, ?_, ?_, ?_, ?_⟩
      · intro j hj
        exfalso
        by_cases h : j < ops.size <;> simp [Array.getD_eq_getD_getElem?, h] at hj
      · intro j hj; cases hj
      · intro j hj; cases hj
      · intro t _; exact hE t
      · intro i o _ hl
        exfalso
        by_cases h : i < ops.size <;> simp [Array.getD_eq_getD_getElem?, h] at hl
end
end Go.AM
namespace Go.AM
open Go
set_option autoImplicit false
set_option linter.unusedVariables false

section
variable {C : Cx} {o : Oper} {env env' : Env} {own own' : List SO} {sv : SV} {K K' : Env → List SO → Prop} {a a0 : Act} {s s0 : St} {ops : Array Oper} {Q : SV → List SO → Prop}

/-! ### Control -/
theorem runs_steps {P : Program} {kd : Bool} {R : Ending → World → Prop} {todo todo' : List Item} {f : FuncId} {a a' : Act} {w w' : World}
    (hs : ∀ cs, Steps P (lone ((fr0 kd f).at a todo) cs w) (lone ((fr0 kd f).at a' todo') cs w')) (h : Runs P kd R todo' f a' w') : Runs P kd R todo f a w := by
  intro cs
  obtain ⟨e, w2, fr, h1, h2, h3, h4⟩ := h cs
  exact ⟨e, w2, fr, h1, Comes.of_steps (hs cs) h2, h3, h4⟩

theorem Good.of_step {todo todo' : List Item} (hs : ∀ (a : Act) (w : World) (cs : List Frame), step C.P (lone ((fr0 C.kd C.f).at a todo) cs w) = .next (lone ((fr0 C.kd C.f).at a todo') cs w))
    (h : Good C Q todo' env own) : Good C Q todo env own := fun a s h1 h2 h3 h4 =>
  runs_steps (fun cs => .one (hs a s.w cs)) (h a s h1 h2 h3 h4)

theorem Ends.trans {Q : SV → List SO → Prop} {n0 : Nat} {G : Nat → Option (List SV)} {s s' : St} (hd : ∀ i b, s'.h i b ≠ none → s'.F b = none) (hS : Step s s') (hr : Rle s.ρ s'.ρ) {e : Ending} {w : World}
    (h : Ends G s' (fun sv own' s2 => (∀ i, i < n0 → s'.ρ i ≠ junk → s2.ρ i = s'.ρ i) ∧ Q sv own') e w) :
    Ends G s (fun sv own' s2 => (∀ i, i < n0 → s.ρ i ≠ junk → s2.ρ i = s.ρ i) ∧ Q sv own') e w := by
  obtain ⟨v, sv, own', s2, h1, h2, h3, h4, h5, h6, h7⟩ := h
  refine ⟨v, sv, own', s2, h1, h2, h3, h4, Step.trans hd hS h5, fun i hi hj => ?_, h7⟩
  have := hr i hj
  rw [h6 i hi (by rw [this]; exact hj), this]

theorem TRel_low {F F' : PH} {ρ ρ' : Nat → Value} {n : Nat} (hF : PHle F F') (hr : ∀ i, i < n → ρ i ≠ junk → ρ' i = ρ i) : ∀ (l : List SV) (vs : List Value), l.all (low n) = true → TRel F ρ l vs → TRel F' ρ' l vs
  | [], vs, _, h => h
  | s :: l, vs, hl, ⟨x, xs, e, h1, h2⟩ => by
    simp only [List.all_cons, Bool.and_eq_true] at hl
    refine ⟨x, xs, e, ?_, TRel_low hF hr l xs hl.2 h2⟩
    replace hl := hl.1
    cases s <;> simp only [low, decide_eq_true_eq, Bool.false_eq_true] at hl
    case v => exact h1
    case ptr i off => obtain ⟨b, q, r⟩ := h1; exact ⟨b, by rw [hr i hl (by rw [q]; nofun)]; exact q, r⟩
    case gs i => obtain ⟨b, n, c, q, r⟩ := h1; exact ⟨b, n, c, by rw [hr i hl (by rw [q]; nofun)]; exact q, r⟩
    case mp i => obtain ⟨b, q, r⟩ := h1; exact ⟨b, by rw [hr i hl (by rw [q]; nofun)]; exact q, r⟩
    case fsl => exact VRel.mono hF _ _ (Rle.refl _) h1
    case fp => exact VRel.mono hF _ _ (Rle.refl _) h1
theorem DfR.next {s s' : St} {ds : List Deferred} (hF : PHle s.F s'.F) (hr : ∀ i, i < C.n0 → s.ρ i ≠ junk → s'.ρ i = s.ρ i) (h : DfR C s ds) : DfR C s' ds := by
  unfold DfR at h ⊢
  split
  · rename_i hd; rw [hd] at h; exact h
  · rename_i f svs hd
    rw [hd] at h
    obtain ⟨h1, h2, d, vals, h3, h4, h5, h6⟩ := h
    exact ⟨h1, h2, d, vals, h3, h4, h5, TRel_low hF hr _ _ h2 h6⟩

/-- Behind a piece of code. -/
theorem good_next {c : Code} {k : List Item} (hc : ∀ (a : Act) (s : St), DfR C s a.defers → a.tmps.size = C.fn.ntmps → ERel env a s → Rel C.G own s → c.wp C.P (QN C a s K) a s.w)
    (hk : ∀ env own, K env own → Good C Q k env own) : Good C Q (.code c :: k) env own := by
  intro a s h1 h2 h3 h4 cs
  obtain ⟨e, a', w', hq, harr⟩ := hc a s h1 h2 h3 h4 (fr0 C.kd C.f) k cs
  cases e with
  | normal =>
    obtain ⟨env', own', s', q1, q2, q3, q4, q5, q6, q7, q8⟩ := hq
    subst q1
    obtain ⟨e, w2, fr, r1, r2, r3, r4⟩ := hk env' own' q8 a' s' (by rw [q2]; exact h1.next q6.F (fun i _ hi => q7 i hi)) (q3.trans h2) q4 q5 cs
    exact ⟨e, w2, fr, Ends.trans q5.dF q6 q7 r1, Comes.of_steps harr r2, r3, r4⟩
  | _ => exact hq.elim

theorem good_end {todo : List Item} (hf : C.P.funcs[C.f]? = some C.fn) (hs : ∀ (a : Act) (w : World) (cs : List Frame), step C.P (lone ((fr0 C.kd C.f).at a todo) cs w) = .next (lone { (fr0 C.kd C.f).at a todo with mode := .returning } cs w))
    (h : vend C Q env own) : Good C Q todo env own := by
  intro a s h1 h2 h3 h4 cs
  unfold vend vendD at h
  unfold DfR at h1
  split at h
  · rename_i hd
    rw [hd] at h1
    obtain ⟨v, sv, q1, q2, q3⟩ := vret_sound h3 h4 h
    exact ⟨.returned v, s.w, _, ⟨v, sv, own, s, rfl, rfl, q2, h4, Step.refl s, fun _ _ _ => rfl, q3⟩, Steps.one (hs a s.w cs), rfl, rfl, h1, rfl, C.fn, hf, q1⟩
  · rename_i f svs hd
    rw [hd] at h1
    obtain ⟨hkd, hlow, d, vals, hds, ⟨fv, cap, htar⟩, hinv, hT⟩ := h1
    have hcall := h s vals hT h4
    obtain ⟨e', w'', fr', hR', hs', hfn', hl'⟩ := leaves_steps (P := C.P) (fn := C.fn) (tmps := a.tmps) (R := Ends C.G s fun sv own' s' => (∀ i, i < C.n0 → s.ρ i ≠ junk → s'.ρ i = s.ρ i) ∧ Q sv own')
      [d] .returning s.w { (fr0 C.kd C.f).at a todo with mode := .returning } cs rfl hds rfl hf (by rw [hkd]; rfl)
      ⟨nofun, fv, cap, f, vals.toArray, htar, hinv s.w, hcall.mono (by
        rintro e u' w' ⟨rfl, v, sv, own', s', rfl, rfl, q3, q4, q5, q6, q7⟩
        have hE' : ERel env a s' := fun t => VRel.mono q5.F _ _ q6 (h3 t)
        obtain ⟨v, sv, r1, r2, r3⟩ := vret_sound hE' q4 q7
        exact ⟨v, r1, v, sv, own', s', rfl, rfl, r2, q4, q5, fun i _ hi => q6 i hi, r3⟩)⟩
    refine ⟨e', w'', fr', hR', Comes.of_steps (.one (hs a s.w cs)) hs', hfn', ?_⟩
    rw [hkd]
    cases e' <;> exact hl'

theorem exitTo_item {id : Nat} : ∀ {k k' : List It}, It.exitTo id k = some k' → exitTo id (k.map It.item) = some (k'.map It.item)
  | [], k', h => by simp [It.exitTo] at h
  | .inBlock j :: k, k', h => by
    simp only [It.exitTo] at h
    simp only [List.map_cons, It.item, exitTo]
    split at h
    · rename_i e; injection h with h; subst h; simp [e]
    · rename_i e; rw [if_neg (by simpa using e)]; exact exitTo_item h
  | .code c :: k, k', h => by simp only [It.exitTo] at h; simp only [List.map_cons, It.item, exitTo]; exact exitTo_item h
  | .inScope c :: k, k', h => by simp only [It.exitTo] at h; simp only [List.map_cons, It.item, exitTo]; exact exitTo_item h
  | .inLoop c B :: k, k', h => by simp only [It.exitTo] at h; simp only [List.map_cons, It.item, exitTo]; exact exitTo_item h

theorem exitTo_ok {id : Nat} : ∀ {k k' : List It}, It.exitTo id k = some k' → ItsOk C Q k → ItsOk C Q k'
  | [], k', h, hk => by simp [It.exitTo] at h
  | .inBlock j :: k, k', h, hk => by
    simp only [It.exitTo] at h
    split at h
    · injection h with h; subst h; exact hk
    · exact exitTo_ok h hk
  | .code c :: k, k', h, hk => by simp only [It.exitTo] at h; exact exitTo_ok h hk.2
  | .inScope c :: k, k', h, hk => by simp only [It.exitTo] at h; exact exitTo_ok h hk
  | .inLoop c B :: k, k', h, hk => by simp only [It.exitTo] at h; exact exitTo_ok h hk.2

theorem vc_sound (hm : C.P.follows .mixedOrders = true) (hf : C.P.funcs[C.f]? = some C.fn) : ∀ (n : Nat) (k : List It) (env : Env) (own : List SO), ksize k ≤ n → ItsOk C Q k → vc C Q k env own → Good C Q (k.map It.item) env own := by
  intro n
  induction n with
  | zero =>
    intro k env own hn hk h
    have hpos : ∀ c : Code, 0 < csize c := fun c => by cases c <;> simp only [csize] <;> omega
    cases k with
    | nil => unfold vc at h; exact good_end hf (fun a w cs => step_end) h
    | cons i k =>
      cases i with
      | code c => have := hpos c; simp only [ksize, isize] at hn; omega
      | _ => simp only [ksize, isize] at hn; omega
  | succ n ih =>
    intro k env own hn hk h
    cases k with
    | nil => unfold vc at h; exact good_end hf (fun a w cs => step_end) h
    | cons i k =>
      cases i with
      | inBlock id =>
        unfold vc at h
        exact Good.of_step (fun a w cs => step_inBlock) (ih k env own (by simp only [ksize, isize] at hn; omega) hk h)
      | inScope b =>
        unfold vc at h
        exact Good.of_step (fun a w cs => step_inScope) (ih k env own (by simp only [ksize, isize] at hn; omega) hk h)
      | inLoop b B =>
        unfold vc at h
        exact hk.1 env own h
      | code c =>
        unfold vc at h
        obtain ⟨hc, hk⟩ := hk
        cases c <;> simp only at h
        case skip => exact Good.of_step (fun a w cs => step_skip) (ih k env own (by simp only [ksize, isize, csize] at hn; omega) hk h)
        case label l => exact Good.of_step (fun a w cs => step_label) (ih k env own (by simp only [ksize, isize, csize] at hn; omega) hk h)
        case seq x y =>
          simp only [codeOk, Bool.and_eq_true] at hc
          exact Good.of_step (fun a w cs => step_seq) (ih (.code x :: .code y :: k) env own (by simp only [ksize, isize, csize] at hn ⊢; omega) ⟨hc.1, hc.2, hk⟩ h)
        case cond x y z =>
          simp only [codeOk, Bool.and_eq_true] at hc
          unfold vcond at h
          split at h
          · rename_i t ht
            intro a s h1 h2 h3 h4
            have hx := ev_rel (C := C) h3 h4 x
            rw [ht] at hx
            simp only [VRel] at hx
            refine runs_steps (fun cs => .one (step_cond hx)) ?_
            cases t with
            | true => exact ih (.code y :: k) env own (by simp only [ksize, isize, csize] at hn ⊢; omega) ⟨hc.1, hk⟩ (h.1 rfl) a s h1 h2 h3 h4
            | false => exact ih (.code z :: k) env own (by simp only [ksize, isize, csize] at hn ⊢; omega) ⟨hc.2, hk⟩ (h.2 rfl) a s h1 h2 h3 h4
          · exact h.elim
        case block id b =>
          exact Good.of_step (fun a w cs => step_block) (ih (.code b :: .inBlock id :: k) env own (by simp only [ksize, isize, csize] at hn ⊢; omega) ⟨hc, hk⟩ h)
        case scope b =>
          exact Good.of_step (fun a w cs => step_scope) (ih (.code b :: .inScope b :: k) env own (by simp only [ksize, isize, csize] at hn ⊢; omega) ⟨hc, hk⟩ h)
        case exit id =>
          split at h
          · rename_i k' he
            have := exitTo_size _ _ _ he
            exact Good.of_step (fun a w cs => step_exit (exitTo_item he)) (ih k' env own (by simp only [ksize, isize, csize] at hn; omega) (exitTo_ok he hk) h)
          · exact h.elim
        case ret => exact good_end hf (fun a w cs => step_ret) h
        case loop b => exact h hm hf ⟨hc, hk⟩
        case region id ops draw =>
          unfold vregD at h
          split at h
          · exact h hm hf ⟨hc, hk⟩
          exact good_next (K := vc C Q k) (fun a s h1 h2 h3 h4 => vreg_sound hm hc h2 h h3 h4) (fun env own hK => ih k env own (by simp only [ksize, isize, csize] at hn; omega) hk hK)
end
end Go.AM
namespace Go.AM
open Go
set_option autoImplicit false
set_option linter.unusedVariables false

/-! ### Other numbers for the objects -/
mutual
def ren (π : Nat → Nat) : SV → SV
  | .ptr i off => .ptr (π i) off
  | .eptr i z k c => .eptr (π i) z k c
  | .gs i => .gs (π i)
  | .sub i z off len full => .sub (π i) z off len full
  | .asl i z off len full => .asl (π i) z off len full
  | .mp i => .mp (π i)
  | .fn f a b => .fn f (renL π a) (renL π b)
  | .agg xs => .agg (renL π xs)
  | .tup xs => .tup (renL π xs)
  | s => s
def renL (π : Nat → Nat) : List SV → List SV
  | [] => []
  | s :: ss => ren π s :: renL π ss
end
def RepR.ren (π : Nat → Nat) (R : RepR) : RepR where
  len := R.len
  R F ρ x h := R.R F (fun i => ρ (π i)) x h
  mono F F' ρ ρ' x h hF hr k := R.mono F F' _ _ x h hF (fun i hi => hr (π i) hi) k
  ok F ρ x h k := R.ok F _ x h k
  lenOk n hn F ρ x h k := R.lenOk n hn F _ x h k
def renO (π : Nat → Nat) : SO → SO
  | .cells T cs => .cells T (renL π cs)
  | .rep R => .rep (R.ren π)
  | o => o

theorem renL_length (π : Nat → Nat) : ∀ xs : List SV, (renL π xs).length = xs.length
  | [] => rfl
  | s :: ss => by simp [renL, renL_length π ss]

mutual
theorem VRel_ren {F : PH} {ρ : Nat → Value} {π : Nat → Nat} : ∀ (s : SV) (v : Value), VRel F ρ (ren π s) v ↔ VRel F (fun i => ρ (π i)) s v
  | .ptr i off, v => Iff.rfl
  | .eptr i z k c, v => Iff.rfl
  | .gs i, v => Iff.rfl
  | .sub i z off len full, v => Iff.rfl
  | .asl i z off len full, v => Iff.rfl
  | .mp i, v => Iff.rfl
  | .fn f a b, v => by simp only [ren, VRel, PRel_ren a, PRel_ren b, renL_length]
  | .agg xs, v => by simp only [ren, VRel, PRel_ren xs, renL_length]
  | .tup xs, v => by simp only [ren, VRel, TRel_ren xs]
  | .v x, v => Iff.rfl
  | .fsl z rows full, v => Iff.rfl
  | .fp cells, v => Iff.rfl
  | .any, v => Iff.rfl
theorem PRel_ren {F : PH} {ρ : Nat → Value} {π : Nat → Nat} : ∀ (s : List SV) (v : List Value), PRel F ρ (renL π s) v ↔ PRel F (fun i => ρ (π i)) s v
  | [], v => Iff.rfl
  | s :: ss, v => by simp only [renL, PRel, VRel_ren s, PRel_ren ss]
theorem TRel_ren {F : PH} {ρ : Nat → Value} {π : Nat → Nat} : ∀ (s : List SV) (v : List Value), TRel F ρ (renL π s) v ↔ TRel F (fun i => ρ (π i)) s v
  | [], v => Iff.rfl
  | s :: ss, v => by simp only [renL, TRel, VRel_ren s, TRel_ren ss]
end
theorem ORel_ren {F : PH} {ρ : Nat → Value} {π : Nat → Nat} {x : Value} {h : PH} (o : SO) : ORel F ρ x (renO π o) h ↔ ORel F (fun i => ρ (π i)) x o h := by
  cases o <;> first | exact Iff.rfl | simp only [renO, ORel, PRel_ren, renL_length]

section
variable {G : Nat → Option (List SV)} {own own2 own' : List SO} {s s' : St} {env : Env}

/-- Some of the objects, in another order. -/
def pick (idx : List Nat) (out : Nat) (j : Nat) : Nat := idx.getD j out
def St.pick (s : St) (π : Nat → Nat) : St := ⟨s.F, fun j => s.ρ (π j), fun j => s.h (π j), s.w⟩

theorem pick_lt {idx : List Nat} {n j : Nat} (h : j < idx.length) : pick idx n j = idx[j] := by simp [pick, List.getD_eq_getElem?_getD, h]
theorem pick_ge {idx : List Nat} {n j : Nat} (h : idx.length ≤ j) : pick idx n j = n := by simp [pick, List.getD_eq_getElem?_getD, h]

theorem rel_pick (hR : Rel G own s) {idx : List Nat} (hn : idx.Nodup) (hl : own2.length = idx.length)
    (ho : ∀ j o2, own2[j]? = some o2 → own[pick idx own.length j]? = some (renO (pick idx own.length) o2)) : Rel G own2 (s.pick (pick idx own.length)) where
  obj := fun j o2 hj => (ORel_ren (π := pick idx own.length) o2).1 (hR.obj _ _ (ho j o2 hj))
  out := fun j hj => by
    have : pick idx own.length j = own.length := pick_ge (by omega)
    simp only [St.pick, this]
    exact hR.out _ (Nat.le_refl _)
  dF := fun j b hb => hR.dF _ b hb
  dd := fun i j b hi hj => by
    have e := hR.dd _ _ b hi hj
    have hlt : ∀ k, s.h (pick idx own.length k) b ≠ none → k < idx.length := by
      intro k hk
      rcases Nat.lt_or_ge k idx.length with h | h
      · exact h
      · rw [pick_ge h, (hR.out _ (Nat.le_refl _)).2] at hk; exact absurd rfl hk
    have h1 := hlt i hi; have h2 := hlt j hj
    rw [pick_lt h1, pick_lt h2] at e
    exact (List.getElem_inj hn).1 e
  inF := hR.inF
  inh := fun j b o hb => hR.inh _ b o hb
  glob := hR.glob

theorem step_pick (π : Nat → Nat) : Step s (s.pick π) := ⟨PHle.refl _, Nat.le_refl _, rfl, rfl, rfl, fun _ _ _ => rfl, fun b _ h => by
  rcases h with h | ⟨i, h⟩
  · exact .inl h
  · exact .inr ⟨_, h⟩⟩

end
end Go.AM
namespace Go.AM
open Go
set_option autoImplicit false
set_option linter.unusedVariables false

/-! ### Weaker readings of one state -/
def Red (G : Nat → Option (List SV)) (n0 : Nat) (env : Env) (own : List SO) (env2 : Env) (own2 : List SO) : Prop :=
  ∀ (a : Act) (s : St), ERel env a s → Rel G own s → ∃ s2, s2.w = s.w ∧ ERel env2 a s2 ∧ Rel G own2 s2 ∧ Step s s2 ∧ ∀ i, i < n0 → s.ρ i ≠ junk → s2.ρ i = s.ρ i

def subE (env : Env) : Env → Prop
  | [] => True
  | (t, s) :: l => env.get t = s ∧ subE env l
def okE (env : Env) (π : Nat → Nat) : Env → Prop
  | [] => True
  | (t, s) :: l => env.get t = ren π s ∧ okE env π l
def okO (own : List SO) (π : Nat → Nat) : List SO → List Nat → Prop
  | [], [] => True
  | o :: l, i :: is => own[i]? = some (renO π o) ∧ okO own π l is
  | _, _ => False
def idUpto (n : Nat) (idx : List Nat) : Bool := n ≤ idx.length && (List.range n).all fun i => idx[i]? == some i
def noDup : List Nat → Bool
  | [] => true
  | i :: l => !l.contains i && noDup l
theorem noDup_spec : ∀ {l : List Nat}, noDup l = true → l.Nodup
  | [], h => List.nodup_nil
  | i :: l, h => by
    simp only [noDup, Bool.and_eq_true, Bool.not_eq_true'] at h
    exact List.nodup_cons.2 ⟨by simpa using h.1, noDup_spec h.2⟩

section
variable {C : Cx} {G : Nat → Option (List SV)} {n0 : Nat} {own own2 own3 own' : List SO} {s s' : St} {env env2 env3 : Env} {Q : SV → List SO → Prop}

theorem Red.refl : Red G n0 env own env own := fun a s h1 h2 => ⟨s, rfl, h1, h2, Step.refl s, fun _ _ _ => rfl⟩
theorem Red.trans (h : Red G n0 env own env2 own2) (k : Red G n0 env2 own2 env3 own3) : Red G n0 env own env3 own3 := by
  intro a s h1 h2
  obtain ⟨s2, q1, q2, q3, q4, q5⟩ := h a s h1 h2
  obtain ⟨s3, r1, r2, r3, r4, r5⟩ := k a s2 q2 q3
  exact ⟨s3, r1.trans q1, r2, r3, Step.trans q3.dF q4 r4, fun i hi hj => by rw [r5 i hi (by rw [q5 i hi hj]; exact hj), q5 i hi hj]⟩

theorem subE_get : ∀ {env2 : Env}, subE env env2 → ∀ t, env2.get t = .any ∨ env2.get t = env.get t
  | [], h, t => .inl rfl
  | (u, s) :: l, h, t => by
    simp only [Env.get]
    split
    · rename_i e; subst e; exact .inr h.1.symm
    · exact subE_get h.2 t
theorem Red.sub (h : subE env env2) : Red G n0 env own env2 own := fun a s h1 h2 =>
  ⟨s, rfl, fun t => by
    rcases subE_get h t with e | e
    · rw [e]; trivial
    · rw [e]; exact h1 t, h2, Step.refl s, fun _ _ _ => rfl⟩

theorem okE_get {π : Nat → Nat} : ∀ {env2 : Env}, okE env π env2 → ∀ t, env2.get t = .any ∨ env.get t = ren π (env2.get t)
  | [], h, t => .inl rfl
  | (u, s) :: l, h, t => by
    simp only [Env.get]
    split
    · rename_i e; subst e; exact .inr h.1
    · exact okE_get h.2 t
theorem okO_get {π : Nat → Nat} : ∀ {own2 : List SO} {idx : List Nat}, okO own π own2 idx → own2.length = idx.length ∧ ∀ (j : Nat) (o2 : SO), own2[j]? = some o2 → ∃ i : Nat, idx[j]? = some i ∧ own[i]? = some (renO π o2)
  | [], [], h => ⟨rfl, fun j o2 hj => by simp at hj⟩
  | o :: l, i :: is, h => by
    obtain ⟨h1, h2⟩ := okO_get h.2
    refine ⟨by simp [h1], fun j o2 hj => ?_⟩
    cases j with
    | zero =>
      simp only [List.getElem?_cons_zero, Option.some.injEq] at hj
      subst hj
      exact ⟨i, rfl, h.1⟩
    | succ j => exact h2 j o2 (by simpa using hj)

theorem Red.pick {idx : List Nat} (hn : noDup idx = true) (hi : idUpto n0 idx = true) (hO : okO own (AM.pick idx own.length) own2 idx) (hE : okE env (AM.pick idx own.length) env2) : Red G n0 env own env2 own2 := by
  intro a s h1 h2
  obtain ⟨hl, ho⟩ := okO_get hO
  refine ⟨s.pick (AM.pick idx own.length), rfl, ?_, rel_pick h2 (noDup_spec hn) hl ?_, step_pick _, ?_⟩
  · intro t
    rcases okE_get hE t with e | e
    · rw [e]; trivial
    · exact (VRel_ren (π := AM.pick idx own.length) _ _).1 (e ▸ h1 t)
  · intro j o2 hj
    obtain ⟨i, hi, hio⟩ := ho j o2 hj
    have : AM.pick idx own.length j = i := by simp [AM.pick, List.getD_eq_getElem?_getD, hi]
    rw [this]; exact hio
  · intro i hi' hj
    simp only [idUpto, Bool.and_eq_true, List.all_eq_true] at hi
    have h := hi.2 i (by simpa using hi')
    have h : idx[i]? = some i := by simpa using h
    have : AM.pick idx own.length i = i := by simp [AM.pick, List.getD_eq_getElem?_getD, h]
    show s.ρ (AM.pick idx own.length i) = s.ρ i
    rw [this]

/-- A slice that is no one's any more is read as one that nobody writes. -/
def frz (i z : Nat) (rows : List (List SV)) : SV → SV
  | .gs j => if j = i then .fsl z rows false else .gs j
  | s => s
def frzE (i z : Nat) (rows : List (List SV)) : Env → Env
  | [] => []
  | (t, s) :: l => (t, frz i z rows s) :: frzE i z rows l
theorem frzE_get (i z : Nat) (rows : List (List SV)) : ∀ (env : Env) (t : Nat), (frzE i z rows env).get t = frz i z rows (env.get t)
  | [], t => rfl
  | (u, s) :: l, t => by
    simp only [frzE, Env.get]
    split
    · rfl
    · exact frzE_get i z rows l t
theorem Red.freeze {i : Nat} {T : TypeId} {z : Nat} {rows : List (List SV)} (hi : own[i]? = some (.grow T z rows)) : Red G n0 env own (frzE i z rows env) (own.set i .gone) := by
  intro a s h1 h2
  have hlt : i < own.length := (List.getElem?_eq_some_iff.1 hi).1
  obtain ⟨h3, h4⟩ := rel_freeze h2 i hlt
  refine ⟨s.freeze i, rfl, ?_, h3, h4, fun _ _ _ => rfl⟩
  intro t
  rw [frzE_get]
  have ht := VRel.mono (freeze_le i) _ _ (Rle.refl _) (h1 t)
  revert ht
  cases env.get t with
  | gs j =>
    intro ht
    simp only [frz]
    split
    · rename_i e
      subst e
      obtain ⟨x, n, cap, e1, e2⟩ := ht
      obtain ⟨b', cap', e3, e4, e5, e6⟩ := h2.obj j _ hi
      have e1 : s.ρ j = .slice x n cap := e1
      rw [e1] at e3
      injection e3 with f1 f2 f3; subst f1 f2 f3
      refine ⟨x, cap, e2, e5, nofun, e4, fun hne => ?_⟩
      rcases e6 with ⟨_, h, _, _⟩ | ⟨b, vs, g1, g2, g3, g4⟩
      · exact absurd h hne
      · refine ⟨b, 0, vs, T, (0, 0), g1, ?_, by simpa using RRel.mono (freeze_le j) _ _ (Rle.refl _) g4⟩
        have hh : s.h j b = some (.cells vs T (0, 0)) := by rw [g2]; simp [PH.sg]
        have := h2.dF j b (by rw [hh]; nofun)
        simp only [St.freeze, this, hh]
    · exact ht
  | _ => intro ht; exact ht

/-- The nil slice is read as one that grows. -/
def nilE (t : Nat) (n : Nat) : Env → Env
  | [] => []
  | (u, s) :: l => (u, if u = t then .gs n else s) :: nilE t n l
theorem nilE_get (t n : Nat) : ∀ (env : Env) (u : Nat), (nilE t n env).get u = env.get u ∨ (u = t ∧ (nilE t n env).get u = .gs n)
  | [], u => .inl rfl
  | (v, s) :: l, u => by
    simp only [nilE, Env.get]
    split
    · rename_i e
      subst e
      split
      · rename_i e; exact .inr ⟨e, rfl⟩
      · exact .inl rfl
    · exact nilE_get t n l u
theorem Red.nil (t : Nat) (T : TypeId) (z : Nat) (hn : n0 ≤ own.length) (ht : env.get t = .v (.slice none 0 0)) : Red G n0 env own (nilE t own.length env) (own ++ [.grow T z []]) := by
  intro a s h1 h2
  have hr : Rle s.ρ (upd s.ρ own.length (.slice none 0 0)) := by
    intro i hi
    by_cases e : i = own.length
    · subst e; exact absurd (h2.out _ (Nat.le_refl _)).1 hi
    · exact upd_ne _ _ e
  have hh : ∀ i, i = own.length → s.h i = PH.none := fun i hi => (h2.out i (by omega)).2
  have h34 := rel_gen h2 (upd s.ρ own.length (.slice none 0 0)) s.h s.w (own' := own ++ [.grow T z []]) hr ?_ ?_ ?_ ?_ ?_ ?_ (Nat.le_refl _) rfl rfl rfl
  · refine ⟨⟨s.F, upd s.ρ own.length (.slice none 0 0), s.h, s.w⟩, rfl, ?_, h34.1, h34.2, ?_⟩
    · intro u
      rcases nilE_get t own.length env u with e | ⟨e1, e2⟩
      · rw [e]; exact VRel.mono (PHle.refl _) _ _ hr (h1 u)
      · rw [e2]
        subst e1
        have := h1 u
        rw [ht] at this
        exact ⟨none, 0, 0, upd_same _ _ _, this⟩
    · intro i hi _
      exact upd_ne _ _ (by omega)
  · intro i o hi
    by_cases e : i < own.length
    · rw [List.getElem?_append_left e] at hi
      exact .inl ⟨hi, rfl, upd_ne _ _ (by omega)⟩
    · rw [List.getElem?_append_right (by omega)] at hi
      have e0 : i - own.length = 0 := by
        rcases Nat.eq_zero_or_pos (i - own.length) with h | h
        · exact h
        · rw [List.getElem?_eq_none (by simp; omega)] at hi; cases hi
      rw [e0] at hi
      simp only [List.getElem?_cons_zero, Option.some.injEq] at hi
      subst hi
      have ei : i = own.length := by omega
      right
      rw [ei, upd_same, hh _ rfl]
      exact ⟨none, 0, rfl, nofun, Nat.le_refl _, .inl ⟨rfl, rfl, rfl, rfl⟩⟩
  · intro i hi
    simp only [List.length_append, List.length_cons, List.length_nil] at hi
    have := h2.out i (by omega)
    exact ⟨by rw [upd_ne _ _ (by omega)]; exact this.1, this.2⟩
  · intro i b hb; exact .inl ⟨i, hb⟩
  · exact h2.dd
  · exact h2.inh
  · intro b _ _; rfl
end
end Go.AM
namespace Go.AM
open Go
set_option autoImplicit false
set_option linter.unusedVariables false

section
variable {C : Cx} {G : Nat → Option (List SV)} {n0 : Nat} {own own2 own3 own' : List SO} {s s' : St} {env env2 env3 : Env} {Q : SV → List SO → Prop}

theorem good_red {todo : List Item} (h : Red C.G C.n0 env own env2 own2) (hg : Good C Q todo env2 own2) : Good C Q todo env own := by
  intro a s h1 h2 h3 h4
  obtain ⟨s2, q1, q2, q3, q4, q5⟩ := h a s h3 h4
  intro cs
  obtain ⟨e, w', fr, r1, r2, r3, r4⟩ := hg a s2 (h1.next q4.F q5) h2 q2 q3 cs
  rw [q1] at r2
  refine ⟨e, w', fr, ?_, r2, r3, r4⟩
  obtain ⟨v, sv, own', s3, t1, t2, t3, t4, t5, t6, t7⟩ := r1
  exact ⟨v, sv, own', s3, t1, t2, t3, t4, Step.trans q3.dF q4 t5, fun i hi hj => by rw [t6 i hi (by rw [q5 i hi hj]; exact hj), q5 i hi hj], t7⟩

/-- A loop: what stays (told by `E` and `O` at some `x : A`), and what falls. -/
theorem loop_rule {body : Code} {k : List It} {A : Type} (E : A → Env) (O : A → List SO) (μ : A → Nat) (x0 : A)
    (h0 : Red C.G C.n0 env own (E x0) (O x0))
    (hb : ∀ x, vc C Q (.code body :: .inLoop body (fun env' own' => ∃ y, μ y < μ x ∧ Red C.G C.n0 env' own' (E y) (O y)) :: k) (E x) (O x)) : LG C (.loop body) k Q env own := by
  intro hm hf hok
  have hbody : codeOk C body = true := hok.1
  have main : ∀ (n : Nat) (x : A), μ x ≤ n → Good C Q (.code body :: .inLoop body :: k.map It.item) (E x) (O x) := by
    intro n
    induction n with
    | zero =>
      intro x hx
      refine vc_sound hm hf _ (.code body :: .inLoop body _ :: k) (E x) (O x) (Nat.le_refl _) ⟨hbody, ?_, hok.2⟩ (hb x)
      rintro env' own' ⟨y, hy, _⟩
      omega
    | succ n ih =>
      intro x hx
      refine vc_sound hm hf _ (.code body :: .inLoop body _ :: k) (E x) (O x) (Nat.le_refl _) ⟨hbody, ?_, hok.2⟩ (hb x)
      rintro env' own' ⟨y, hy, hr⟩
      exact good_red hr (Good.of_step (fun a w cs => step_inLoop) (ih y (by omega)))
  exact good_red h0 (Good.of_step (fun a w cs => step_loop) (main _ x0 (Nat.le_refl _)))

/-! ### A function -/
def env0 : Nat → List SV → Env
  | _, [] => []
  | k, s :: l => (k, s) :: env0 (k + 1) l
theorem env0_rel {F : PH} {ρ : Nat → Value} : ∀ (l : List SV) (vs : List Value) (k t : Nat), TRel F ρ l vs → ∀ rest : List Value, VRel F ρ ((env0 k l).get t) (if k ≤ t then (vs ++ rest).getD (t - k) undef else undef)
  | [], vs, k, t, h, rest => trivial
  | s :: l, vs, k, t, ⟨x, xs, hx, h1, h2⟩, rest => by
    subst hx
    simp only [env0, Env.get]
    split
    · rename_i e
      subst e
      simpa using h1
    · rename_i e
      have := env0_rel l xs (k + 1) t h2 rest
      by_cases hk : k + 1 ≤ t
      · rw [if_pos hk] at this
        rw [if_pos (by omega)]
        have e : t - k = (t - (k + 1)) + 1 := by omega
        rw [e]
        simpa using this
      · rw [if_neg hk] at this
        rw [if_neg (by omega)]
        exact this

theorem TRel_length {F : PH} {ρ : Nat → Value} : ∀ {l : List SV} {vs : List Value}, TRel F ρ l vs → vs.length = l.length
  | [], vs, h => by rw [show vs = [] from h]; rfl
  | s :: l, vs, ⟨x, xs, hx, h1, h2⟩ => by subst hx; simp [TRel_length h2]

/-- What is handed back, read in a weaker way. -/
def RedV (G : Nat → Option (List SV)) (n0 : Nat) (sv : SV) (own : List SO) (sv2 : SV) (own2 : List SO) : Prop := Red G n0 [(0, sv)] own [(0, sv2)] own2

theorem RedV.drop {sv : SV} (h : ren (AM.pick [] own.length) sv = sv) : RedV G 0 sv own sv [] :=
  Red.pick (idx := []) rfl rfl trivial ⟨by rw [h]; rfl, trivial⟩
theorem RedV.slice {i : Nat} {T : TypeId} {z : Nat} {rows : List (List SV)} (h : own[i]? = some (.grow T z rows)) : RedV G 0 (.gs i) own (.fsl z rows false) [] := by
  refine Red.trans (Red.freeze h) (Red.pick (idx := []) rfl rfl trivial ⟨?_, trivial⟩)
  simp [frzE, frz, Env.get, ren]

theorem henter {P : Program} {f : FuncId} {fn : Func} {c : Code} (hf : P.funcs[f]? = some fn) (hb : fn.body = some c) (vals : Array Value) (kd : Bool) :
    Frame.enter P f vals (kdOf kd) = (fr0 kd f).at { tmps := vals ++ Array.replicate (fn.ntmps - vals.size) undef, defers := [] } [.code c] := by
  simp [Frame.enter, Frame.at, hf, hb]
theorem runs_of_vc {P : Program} {f : FuncId} {fn : Func} {c : Code} {D : Nat → Option DT} {dr : Nat → Bool} {kd : Bool} {args : List SV} {Post : SV → List SO → Prop}
    (hf : P.funcs[f]? = some fn) (hm : P.follows .mixedOrders = true) (hn : args.length ≤ fn.ntmps)
    (hc : codeOk ⟨P, f, fn, own.length, G, D, dr, none, kd⟩ c = true)
    (h : vc ⟨P, f, fn, own.length, G, D, dr, none, kd⟩ (fun sv own' => ∃ sv2 own2, RedV G own.length sv own' sv2 own2 ∧ Post sv2 own2) [.code c] (env0 0 args) own)
    (s : St) (vals : List Value) (hT : TRel s.F s.ρ args vals) (hR : Rel G own s) :
    Runs P kd (Ends G s fun sv own' s' => (∀ i, i < own.length → s.ρ i ≠ junk → s'.ρ i = s.ρ i) ∧ Post sv own') [.code c] f { tmps := vals.toArray ++ Array.replicate (fn.ntmps - vals.toArray.size) undef, defers := [] } s.w := by
  have hlen := TRel_length hT
  intro cs
  have hg := vc_sound (C := ⟨P, f, fn, own.length, G, D, dr, none, kd⟩) hm hf _ [.code c] (env0 0 args) own (Nat.le_refl _) ⟨hc, trivial⟩ h
  obtain ⟨e, w', fr, q1, q2, q3, q4⟩ := hg { tmps := vals.toArray ++ Array.replicate (fn.ntmps - vals.toArray.size) undef, defers := [] } s rfl (by simp; omega) (by
    intro t
    have := env0_rel args vals 0 t hT (List.replicate (fn.ntmps - vals.length) undef)
    have e : (vals.toArray ++ Array.replicate (fn.ntmps - vals.toArray.size) undef) = (vals ++ List.replicate (fn.ntmps - vals.length) undef).toArray := by simp
    simp only [e]
    simpa using this) hR cs
  refine ⟨e, w', fr, ?_, q2, q3, q4⟩
  obtain ⟨v, sv, own', s', t1, t2, t3, t4, t5, t6, sv2, own2, t7, t8⟩ := q1
  obtain ⟨s2, u1, u2, u3, u4, u5⟩ := t7 ⟨#[v], []⟩ s' (by
    intro t
    simp only [Env.get]
    split
    · rename_i e; subst e; exact t3
    · trivial) t4
  have hv : VRel s2.F s2.ρ sv2 v := by simpa [Env.get] using u2 0
  exact ⟨v, sv2, own2, s2, t1, u1.trans t2, hv, u3, Step.trans t4.dF t5 u4, fun i hi hj => by rw [u5 i hi (by rw [t6 i hi hj]; exact hj), t6 i hi hj], t8⟩
theorem fun_of_vcR {P : Program} {f : FuncId} {fn : Func} {c : Code} {D : Nat → Option DT} {dr : Nat → Bool} {args : List SV} {Post : SV → List SO → Prop}
    (hf : P.funcs[f]? = some fn) (hb : fn.body = some c) (hcall : callable P f = true) (hm : P.follows .mixedOrders = true) (hn : args.length ≤ fn.ntmps)
    (hc : codeOk ⟨P, f, fn, own.length, G, D, dr, none, false⟩ c = true)
    (h : vc ⟨P, f, fn, own.length, G, D, dr, none, false⟩ (fun sv own' => ∃ sv2 own2, RedV G own.length sv own' sv2 own2 ∧ Post sv2 own2) [.code c] (env0 0 args) own) : Fun P G f args own Post := by
  refine ⟨hcall, fun s vals hT hR cs => ?_⟩
  obtain ⟨e, w', fr, q1, q2, q3, q4⟩ := runs_of_vc hf hm hn hc h s vals hT hR cs
  rw [← henter hf hb] at q2
  exact ⟨e, w', fr, q1, q2, q3, by cases e <;> exact q4⟩
theorem fun_of_vc {P : Program} {f : FuncId} {fn : Func} {c : Code} {D : Nat → Option DT} {args : List SV} {Post : SV → List SO → Prop}
    (hf : P.funcs[f]? = some fn) (hb : fn.body = some c) (hcall : callable P f = true) (hm : P.follows .mixedOrders = true) (hn : args.length ≤ fn.ntmps)
    (hc : codeOk ⟨P, f, fn, own.length, G, D, fun _ => false, none, false⟩ c = true)
    (h : vc ⟨P, f, fn, own.length, G, D, fun _ => false, none, false⟩ (fun sv own' => ∃ sv2 own2, RedV G own.length sv own' sv2 own2 ∧ Post sv2 own2) [.code c] (env0 0 args) own) : Fun P G f args own Post := fun_of_vcR hf hb hcall hm hn hc h
theorem funD_of_vc {P : Program} {f : FuncId} {fn : Func} {c : Code} {D : Nat → Option DT} {args : List SV} {Post : SV → List SO → Prop}
    (hf : P.funcs[f]? = some fn) (hb : fn.body = some c) (hcall : callable P f = true) (hm : P.follows .mixedOrders = true) (hn : args.length ≤ fn.ntmps)
    (hc : codeOk ⟨P, f, fn, own.length, G, D, fun _ => false, none, true⟩ c = true)
    (h : vc ⟨P, f, fn, own.length, G, D, fun _ => false, none, true⟩ (fun sv own' => ∃ sv2 own2, RedV G own.length sv own' sv2 own2 ∧ Post sv2 own2) [.code c] (env0 0 args) own) : FunD P G f args own Post := by
  refine ⟨hcall, fun s vals hT hR c0 cs hu => ?_⟩
  obtain ⟨e, w', fr, q1, q2, q3, q4⟩ := runs_of_vc hf hm hn hc h s vals hT hR (c0 :: cs)
  rw [← henter hf hb] at q2
  have e0 : ({ c0 with mode := FrameMode.returning } : Frame) = c0 := by cases c0; simp only at hu; rw [hu]
  obtain ⟨v, sv, own', s', rfl, rest⟩ := q1
  refine ⟨.returned v, .returning, w', fr, ⟨rfl, v, sv, own', s', rfl, rest⟩, by rw [e0]; exact q2, ?_, ?_⟩
  · exact q4.2.2.1
  · exact ⟨q4.1, q4.2.1, q4.2.2.2⟩
end
end Go.AM
namespace Go.AM
open Go
set_option autoImplicit false
set_option linter.unusedVariables false

/-! ### A call: some of the objects are handed over -/
def fnd : List Nat → Nat → Option Nat
  | [], _ => none
  | i :: l, k => if i = k then some 0 else (match fnd l k with | some j => some (j + 1) | none => none)
theorem fnd_some : ∀ {l : List Nat} {k j : Nat}, fnd l k = some j → l[j]? = some k
  | [], k, j, h => by cases h
  | i :: l, k, j, h => by
    simp only [fnd] at h
    split at h
    · rename_i e; injection h with h; subst h e; rfl
    · split at h
      · rename_i j' hj; injection h with h; subst h; simpa using fnd_some hj
      · cases h
theorem fnd_none : ∀ {l : List Nat} {k : Nat}, fnd l k = none → k ∉ l
  | [], k, h => by simp
  | i :: l, k, h => by
    simp only [fnd] at h
    split at h
    · cases h
    · rename_i e
      split at h
      · cases h
      · rename_i hn
        simp only [List.mem_cons, not_or]
        exact ⟨fun h => e h.symm, fnd_none hn⟩
theorem fnd_get {l : List Nat} (hn : l.Nodup) {k j : Nat} (h : l[j]? = some k) : fnd l k = some j := by
  cases hf : fnd l k with
  | none => exact absurd (List.mem_of_getElem? h) (fnd_none hf)
  | some j' =>
    have := fnd_some hf
    obtain ⟨h1, e1⟩ := List.getElem?_eq_some_iff.1 h
    obtain ⟨h2, e2⟩ := List.getElem?_eq_some_iff.1 this
    rw [(List.getElem_inj hn).1 (e2.trans e1.symm)]

def setAll : List SO → List Nat → List SO → List SO
  | own, i :: is, o :: os => setAll (own.set i o) is os
  | own, _, _ => own
theorem setAll_length : ∀ (own : List SO) (is : List Nat) (os : List SO), (setAll own is os).length = own.length
  | own, [], os => by cases os <;> rfl
  | own, i :: is, [] => rfl
  | own, i :: is, o :: os => by simp only [setAll]; rw [setAll_length]; simp
theorem setAll_get : ∀ (own : List SO) (is : List Nat) (os : List SO) (k : Nat), is.Nodup → is.length ≤ os.length → (∀ i ∈ is, i < own.length) →
    (setAll own is os)[k]? = match fnd is k with | some j => os[j]? | none => own[k]?
  | own, [], os, k, hn, hl, hi => by cases os <;> rfl
  | own, i :: is, [], k, hn, hl, hi => by simp at hl
  | own, i :: is, o :: os, k, hn, hl, hi => by
    obtain ⟨hn1, hn2⟩ := List.nodup_cons.1 hn
    simp only [setAll]
    rw [setAll_get (own.set i o) is os k hn2 (by simpa using hl) (fun j hj => by rw [List.length_set]; exact hi j (List.mem_cons_of_mem _ hj))]
    simp only [fnd]
    by_cases e : i = k
    · subst e
      have : fnd is i = none := by
        cases hf : fnd is i with
        | none => rfl
        | some j => exact absurd (List.mem_of_getElem? (fnd_some hf)) hn1
      rw [this]
      simp [hi i (by simp)]
    · rw [if_neg e]
      cases hf : fnd is k with
      | some j => simp
      | none => simp [List.getElem?_set_ne e]

/-- The caller's numbers of the callee's objects. -/
def back (idx : List Nat) (n : Nat) (j : Nat) : Nat := match idx[j]? with | some i => i | none => n + (j - idx.length)
def inv (idx : List Nat) (n : Nat) (k : Nat) : Option Nat := if k < n then fnd idx k else some (idx.length + (k - n))
def merge (own : List SO) (idx : List Nat) (own' : List SO) : List SO :=
  setAll own idx (own'.map (renO (back idx own.length))) ++ (own'.drop idx.length).map (renO (back idx own.length))

theorem inv_back {idx : List Nat} {n : Nat} (hn : idx.Nodup) (hi : ∀ i ∈ idx, i < n) (j : Nat) : inv idx n (back idx n j) = some j := by
  unfold inv back
  cases h : idx[j]? with
  | some i =>
    simp only
    rw [if_pos (hi i (List.mem_of_getElem? h)), fnd_get hn h]
  | none =>
    simp only
    have := List.getElem?_eq_none_iff.1 h
    rw [if_neg (by omega)]
    congr 1; omega
theorem back_inv {idx : List Nat} {n k j : Nat} (h : inv idx n k = some j) : back idx n j = k := by
  unfold inv at h
  unfold back
  split at h
  · rw [fnd_some h]
  · injection h with h
    subst h
    have : idx[idx.length + (k - n)]? = none := by simp
    rw [this]; simp only; omega
theorem inv_none {idx : List Nat} {n k : Nat} (h : inv idx n k = none) : k < n ∧ k ∉ idx := by
  unfold inv at h
  split at h
  · exact ⟨by assumption, fnd_none h⟩
  · cases h

theorem merge_get {own own' : List SO} {idx : List Nat} (hn : idx.Nodup) (hi : ∀ i ∈ idx, i < own.length) (hl : idx.length ≤ own'.length) (k : Nat) :
    (merge own idx own')[k]? = match inv idx own.length k with | some j => (own'[j]?).map (renO (back idx own.length)) | none => own[k]? := by
  unfold merge inv
  by_cases hk : k < own.length
  · rw [List.getElem?_append_left (by rw [setAll_length]; exact hk), if_pos hk, setAll_get _ _ _ _ hn (by simpa using hl) hi]
    cases fnd idx k <;> simp
  · rw [List.getElem?_append_right (by rw [setAll_length]; omega), if_neg hk, setAll_length]
    simp
theorem merge_length {own own' : List SO} {idx : List Nat} : (merge own idx own').length = own.length + (own'.length - idx.length) := by
  simp [merge, setAll_length]

section
variable {C : Cx} {G : Nat → Option (List SV)} {n0 : Nat} {own own2 own3 own' : List SO} {s s' : St} {env env2 env3 : Env} {Q : SV → List SO → Prop}

/-- The caller's state behind a call. -/
def St.after (s s' : St) (idx : List Nat) (n : Nat) : St :=
  ⟨s'.F, fun k => match inv idx n k with | some j => s'.ρ j | none => s.ρ k, fun k => match inv idx n k with | some j => s'.h j | none => s.h k, s'.w⟩

theorem rel_after (hR : Rel G own s) {idx : List Nat} {ownF : List SO} (hn : idx.Nodup) (hi : ∀ i ∈ idx, i < own.length) (hlF : ownF.length = idx.length)
    (hR' : Rel G own' s') (hS : Step (s.pick (pick idx own.length)) s') (hl : idx.length ≤ own'.length)
    (hρ : ∀ i, i < idx.length → (s.pick (pick idx own.length)).ρ i ≠ junk → s'.ρ i = (s.pick (pick idx own.length)).ρ i) :
    Rel G (merge own idx own') (s.after s' idx own.length) ∧ Step s (s.after s' idx own.length) ∧ Rle s.ρ (s.after s' idx own.length).ρ ∧
      (∀ j, (s.after s' idx own.length).ρ (back idx own.length j) = s'.ρ j) := by
  have hback : ∀ j, (s.after s' idx own.length).ρ (back idx own.length j) = s'.ρ j := fun j => by simp only [St.after, inv_back hn hi]
  have hpk : ∀ j i, idx[j]? = some i → pick idx own.length j = i := fun j i h => by simp [pick, List.getD_eq_getElem?_getD, h]
  have hrle : Rle s.ρ (s.after s' idx own.length).ρ := by
    intro k hk
    simp only [St.after]
    cases hc : inv idx own.length k with
    | none => rfl
    | some j =>
      simp only
      have hkb := back_inv hc
      by_cases hj : j < idx.length
      · have hji : idx[j]? = some idx[j] := List.getElem?_eq_getElem hj
        have : k = idx[j] := by rw [← hkb, back, hji]
        have hp : (s.pick (pick idx own.length)).ρ j = s.ρ k := by rw [this]; show s.ρ (pick idx own.length j) = _; rw [hpk j _ hji]
        rw [hρ j hj (by rw [hp]; exact hk), hp]
      · have : own.length ≤ k := by rw [← hkb, back, List.getElem?_eq_none (by omega)]; simp
        exact absurd (hR.out k this).1 hk
  -- a block of what is kept back is none of the callee's
  have hcal : ∀ k b, k ∉ idx → s.h k b ≠ none → ∀ i, (s.pick (pick idx own.length)).h i b = none := by
    intro k b hk hb i
    cases hc : (s.pick (pick idx own.length)).h i b with
    | none => rfl
    | some o =>
      have hne : s.h (pick idx own.length i) b ≠ none := by
        have : s.h (pick idx own.length i) b = some o := hc
        rw [this]; nofun
      have := hR.dd _ _ b hne hb
      by_cases hi' : i < idx.length
      · rw [hpk i _ (List.getElem?_eq_getElem hi')] at this
        exact absurd (this ▸ List.getElem_mem hi') hk
      · rw [pick_ge (by omega), (hR.out _ (Nat.le_refl _)).2] at hne
        exact absurd rfl hne
  have hlt : ∀ k b, s.h k b ≠ none → b < s.w.heap.size := by
    intro k b h
    obtain ⟨o, ho⟩ := Option.ne_none_iff_exists'.1 h
    exact (Array.getElem?_eq_some_iff.1 (hR.inh k b o ho)).1
  have hnew : ∀ k b, k ∉ idx → s.h k b ≠ none → s'.F b = none ∧ ∀ j, s'.h j b = none := by
    intro k b hk hb
    have hno := hcal k b hk hb
    have hF := hR.dF k b hb
    have hfr := hS.fresh b (hlt k b hb)
    have key : ¬ (s'.F b ≠ none ∨ ∃ i, s'.h i b ≠ none) := by
      intro h
      rcases hfr h with h | ⟨i, h⟩
      · exact h hF
      · exact h (hno i)
    refine ⟨?_, fun j => ?_⟩
    · cases hc : s'.F b with
      | none => rfl
      | some o => exact absurd (.inl (by rw [hc]; nofun)) key
    · cases hc : s'.h j b with
      | none => rfl
      | some o => exact absurd (.inr ⟨j, by rw [hc]; nofun⟩) key
  refine ⟨⟨?_, ?_, ?_, ?_, ?_, ?_, ?_⟩, ⟨hS.F, hS.size, hS.os, hS.tape, hS.output, ?_, ?_⟩, hrle, hback⟩
  · intro k o hk
    rw [merge_get hn hi hl] at hk
    cases hc : inv idx own.length k with
    | none =>
      rw [hc] at hk
      have := ORel.mono hS.F hrle (hR.obj k o hk)
      show ORel s'.F _ ((s.after s' idx own.length).ρ k) o ((s.after s' idx own.length).h k)
      have e1 : (s.after s' idx own.length).ρ k = s.ρ k := by simp only [St.after, hc]
      have e2 : (s.after s' idx own.length).h k = s.h k := by simp only [St.after, hc]
      rw [e1, e2]; exact this
    | some j =>
      rw [hc] at hk
      simp only [Option.map_eq_some_iff] at hk
      obtain ⟨o', ho', rfl⟩ := hk
      have := hR'.obj j o' ho'
      have e1 : (s.after s' idx own.length).ρ k = s'.ρ j := by simp only [St.after, hc]
      have e2 : (s.after s' idx own.length).h k = s'.h j := by simp only [St.after, hc]
      rw [e1, e2]
      refine (ORel_ren (π := back idx own.length) o').2 ?_
      have e3 : (fun i => (s.after s' idx own.length).ρ (back idx own.length i)) = s'.ρ := funext hback
      rw [e3]; exact this
  · intro k hk
    rw [merge_length] at hk
    have hc : inv idx own.length k = some (idx.length + (k - own.length)) := by unfold inv; rw [if_neg (by omega)]
    have := hR'.out (idx.length + (k - own.length)) (by omega)
    simp only [St.after, hc]
    exact this
  · intro k b hb
    simp only [St.after] at hb ⊢
    cases hc : inv idx own.length k with
    | none => rw [hc] at hb; exact (hnew k b (inv_none hc).2 hb).1
    | some j => rw [hc] at hb; exact hR'.dF j b hb
  · intro k l b hk hl'
    simp only [St.after] at hk hl'
    cases hc : inv idx own.length k with
    | none =>
      rw [hc] at hk
      cases hd : inv idx own.length l with
      | none => rw [hd] at hl'; exact hR.dd k l b hk hl'
      | some j => rw [hd] at hl'; exact absurd ((hnew k b (inv_none hc).2 hk).2 j) hl'
    | some i =>
      rw [hc] at hk
      cases hd : inv idx own.length l with
      | none => rw [hd] at hl'; exact absurd ((hnew l b (inv_none hd).2 hl').2 i) hk
      | some j =>
        rw [hd] at hl'
        have := hR'.dd i j b hk hl'
        subst this
        rw [← back_inv hc, ← back_inv hd]
  · exact hR'.inF
  · intro k b o hb
    simp only [St.after] at hb
    cases hc : inv idx own.length k with
    | none =>
      rw [hc] at hb
      have hb : s.h k b = some o := hb
      have hne : s.h k b ≠ none := by rw [hb]; nofun
      have := hS.keep b (hlt k b hne) (hcal k b (inv_none hc).2 hne)
      show s'.w.heap[b]? = some o
      rw [this]; exact hR.inh k b o hb
    | some j => rw [hc] at hb; exact hR'.inh j b o hb
  · exact hR'.glob
  · intro b hb hno
    exact hS.keep b hb fun i => hno _
  · intro b hb h
    have hold : (s'.F b ≠ none ∨ ∃ i, s'.h i b ≠ none) → (s.F b ≠ none ∨ ∃ i, s.h i b ≠ none) := by
      intro h
      rcases hS.fresh b hb h with h | ⟨i, h⟩
      · exact .inl h
      · exact .inr ⟨_, h⟩
    rcases h with h | ⟨k, h⟩
    · exact hold (.inl h)
    · simp only [St.after] at h
      cases hc : inv idx own.length k with
      | none => rw [hc] at h; exact .inr ⟨k, h⟩
      | some j => rw [hc] at h; exact hold (.inr ⟨j, h⟩)

theorem okO_lt {π : Nat → Nat} : ∀ {own2 : List SO} {idx : List Nat}, okO own π own2 idx → ∀ i ∈ idx, i < own.length
  | [], [], h, i, hi => by simp at hi
  | o :: l, j :: is, h, i, hi => by
    rcases List.mem_cons.1 hi with rfl | hi
    · exact (List.getElem?_eq_some_iff.1 h.1).1
    · exact okO_lt h.2 i hi

/-- A call by the callee's contract. -/
theorem cg_frame {f : FuncId} {args argsC : List SV} {ownF : List SO} {Post : SV → List SO → Prop} {d : Option Tmp} {K : Env → List SO → Prop}
    (hF : Fun C.P C.G f args ownF Post) (idx : List Nat) (hn : noDup idx = true) (hO : okO own (pick idx own.length) ownF idx) (hA : argsC = renL (pick idx own.length) args)
    (hK : ∀ sv own', Post sv own' → ownF.length ≤ own'.length ∧ K (env.put d (ren (back idx own.length) sv)) (merge own idx own')) : CG C f argsC own d K env := by
  subst hA
  have hN := noDup_spec hn
  obtain ⟨hlen, hget⟩ := okO_get hO
  have hi := okO_lt hO
  refine ⟨hF.1, fun s vals hT hR => ?_⟩
  have hR2 : Rel C.G ownF (s.pick (pick idx own.length)) := rel_pick hR hN hlen (by
    intro j o2 hj
    obtain ⟨i, hi, hio⟩ := hget j o2 hj
    have : pick idx own.length j = i := by simp [pick, List.getD_eq_getElem?_getD, hi]
    rw [this]; exact hio)
  refine (hF.2 (s.pick (pick idx own.length)) vals ((TRel_ren (π := pick idx own.length) _ _).1 hT) hR2).mono ?_
  rintro e w' ⟨v, sv, own', s', h1, h2, h3, h4, h5, h6, h7⟩
  obtain ⟨hl, hk⟩ := hK sv own' h7
  obtain ⟨r1, r2, r3, r4⟩ := rel_after hR hN hi hlen h4 h5 (by omega) (fun i hi => h6 i (by omega))
  refine ⟨v, _, _, s.after s' idx own.length, h1, h2, ?_, r1, r2, r3, hk⟩
  refine (VRel_ren (π := back idx own.length) sv v).2 ?_
  have e3 : (fun i => (s.after s' idx own.length).ρ (back idx own.length i)) = s'.ρ := funext r4
  rw [e3]; exact h3
end
end Go.AM
namespace Go.AM
open Go
set_option autoImplicit false
set_option linter.unusedVariables false

theorem mx64_eq : mx64 = 70368744177664 := rfl

/-! ### The machine's equations, for `simp only [go_sem, seval]` -/
section
variable {C : Cx} {Q : SV → List SO → Prop} {k : List It} {env : Env} {own : List SO}
@[go_sem] theorem vc_nil : vc C Q [] env own = vend C Q env own := by rw [vc]
@[go_sem] theorem vc_inBlock {id : Nat} : vc C Q (.inBlock id :: k) env own = vc C Q k env own := by rw [vc]
@[go_sem] theorem vc_inScope {b : Code} : vc C Q (.inScope b :: k) env own = vc C Q k env own := by rw [vc]
@[go_sem] theorem vc_inLoop {b : Code} {B : Env → List SO → Prop} : vc C Q (.inLoop b B :: k) env own = B env own := by rw [vc]
@[go_sem] theorem vc_skip : vc C Q (.code .skip :: k) env own = vc C Q k env own := by rw [vc]
@[go_sem] theorem vc_label {l : Nat} : vc C Q (.code (.label l) :: k) env own = vc C Q k env own := by rw [vc]
@[go_sem] theorem vc_seq {a b : Code} : vc C Q (.code (.seq a b) :: k) env own = vc C Q (.code a :: .code b :: k) env own := by rw [vc]
@[go_sem] theorem vc_cond {x : Operand} {a b : Code} : vc C Q (.code (.cond x a b) :: k) env own = vcond (ev C env x) (vc C Q (.code a :: k)) (vc C Q (.code b :: k)) env own := by rw [vc]
@[go_sem] theorem vc_block {id : Nat} {b : Code} : vc C Q (.code (.block id b) :: k) env own = vc C Q (.code b :: .inBlock id :: k) env own := by rw [vc]
@[go_sem] theorem vc_scope {b : Code} : vc C Q (.code (.scope b) :: k) env own = vc C Q (.code b :: .inScope b :: k) env own := by rw [vc]
def vexit (C : Cx) (Q : SV → List SO → Prop) (env : Env) (own : List SO) : Option (List It) → Prop
  | some k => vc C Q k env own
  | none => False
@[go_sem] theorem vexit_some : vexit C Q env own (some k) = vc C Q k env own := rfl
@[go_sem] theorem vc_exit {id : Nat} : vc C Q (.code (.exit id) :: k) env own = vexit C Q env own (It.exitTo id k) := by
  rw [vc]
  split
  · rename_i k' h; rw [h]; rfl
  · rename_i h; rw [h]; rfl
@[go_sem] theorem vc_ret : vc C Q (.code .ret :: k) env own = vend C Q env own := by rw [vc]
@[go_sem] theorem vc_loop {b : Code} : vc C Q (.code (.loop b) :: k) env own = LG C (.loop b) k Q env own := by rw [vc]
@[go_sem] theorem vc_region {id : Nat} {ops : Array Oper} {draw : Bool} : vc C Q (.code (.region id ops draw) :: k) env own = vregD C Q id ops draw k (vc C Q k) env own (C.dr id) := by rw [vc]
end

@[go_sem] theorem renO_cells (π : Nat → Nat) (T : TypeId) (cs : List SV) : renO π (.cells T cs) = .cells T (renL π cs) := rfl
@[go_sem] theorem renO_grow (π : Nat → Nat) (T : TypeId) (z : Nat) (rows : List (List SV)) : renO π (.grow T z rows) = .grow T z rows := rfl
@[go_sem] theorem renO_gone (π : Nat → Nat) : renO π .gone = .gone := rfl
attribute [go_sem] It.exitTo vreg vregD.eq_1 vregD.eq_2 vendD.eq_1 vendD.eq_2 vops vopg gslot vtree again vop rowsO
attribute [go_sem] vend resvs resv stepv ev Env.get Env.put env0 ofV
attribute [go_sem] convV fieldO szOf elemT arrT idxV slc slcS copyTo copyV copyS appTo appFull
attribute [go_sem] fillS placeOf aggTI zeroOf rowsLit foldO closOk mkF kstr kint ksl eTI eSz eSzD aSz aAg xSz kbyte
attribute [go_sem] cellsAt SV.clean.eq_1 SV.clean.eq_2 SV.clean.eq_3 storec rowsOf lenv i64 u8 TK.isAgg Cx.T oneV
attribute [go_sem] List.map_cons List.map_nil List.zipIdx_cons List.zipIdx_nil List.length_cons List.length_nil List.getElem?_cons_zero List.getElem?_cons_succ List.getElem?_nil List.nil_append List.cons_append
attribute [go_sem] List.set_cons_zero List.set_cons_succ List.take_succ_cons List.take_zero List.drop_succ_cons List.drop_zero List.all_cons List.all_nil
attribute [go_sem] decide_true decide_false ne_eq if_true if_false reduceCtorEq decide_eq_true_eq decide_eq_false_iff_not forall_const forall_eq forall_eq' true_imp_iff false_imp_iff and_true true_and Option.map_some Option.map_none Option.isSome_some Option.isSome_none Option.isNone_some Option.isNone_none List.flatten_cons List.flatten_nil Nat.min_self List.take_nil List.drop_nil
attribute [go_sem] ren renL back merge setAll pick fnd subE okE okO frz frzE nilE List.getD_cons_zero List.getD_cons_succ List.getD_nil List.append_nil
attribute [go_sem] Bool.and_true Bool.true_and Bool.and_false Bool.false_and Bool.or_true Bool.true_or Bool.or_false Bool.false_or Bool.not_true Bool.not_false Bool.and_self Bool.or_self and_self implies_true and_false false_and List.length_append List.length_map List.length_range
attribute [go_sem] vcond.eq_1
attribute [go_sem] vdraw.eq_1 vdraw.eq_2
attribute [go_sem] vguard.eq_1
attribute [go_sem] vpick.eq_1
attribute [go_sem] v3.eq_1
attribute [go_sem] vapp.eq_1
attribute [go_sem] vapp2.eq_1 vapp2.eq_2
attribute [go_sem] vcall.eq_1
attribute [go_sem] vret.eq_1
attribute [go_sem] vpk.eq_1
attribute [go_sem] same3.eq_1 same3.eq_2 same3.eq_3
attribute [go_sem] vopo.eq_1
attribute [go_sem] again1.eq_2
attribute [go_sem] r1.eq_1 r1.eq_2
attribute [go_sem] r2.eq_1 r2.eq_2
attribute [go_sem] ro.eq_1 ro.eq_2
attribute [go_sem] bin.eq_1 bin.eq_2 bin.eq_3 bin.eq_4 bin.eq_5 bin.eq_10 bin.eq_11 bin.eq_12 bin.eq_13 bin.eq_14 bin.eq_15 bin.eq_16 bin.eq_17 bin.eq_18 bin.eq_19 bin.eq_20 bin.eq_21 bin.eq_22
attribute [go_sem] bin2.eq_1 bin2.eq_2 bin2.eq_3 bin2.eq_4 bin2.eq_6 binB.eq_1 binB.eq_2 binM.eq_1 binM.eq_2 binM.eq_3 binM.eq_4
attribute [go_sem] binP.eq_1 binP.eq_2 binP.eq_3 binP.eq_4 binP.eq_5 binP.eq_6
attribute [go_sem] binS.eq_1 binS.eq_2 binS.eq_3 binS.eq_4
attribute [go_sem] un.eq_1 un.eq_2
attribute [go_sem] convI.eq_1
attribute [go_sem] fieldP.eq_1 fieldP.eq_2 fieldP.eq_3
attribute [go_sem] fieldV.eq_1
attribute [go_sem] idxA.eq_1 idxA.eq_2 idxA.eq_3 idxA.eq_4 idxA.eq_5 idxA.eq_6 idxA.eq_7
attribute [go_sem] bnd.eq_1 bnd.eq_2
attribute [go_sem] clearV.eq_1
attribute [go_sem] bld.eq_1 bld.eq_2
attribute [go_sem] bsl.eq_1 goneAll frzS.eq_1 gsS.eq_1 gsL gsP
attribute [go_sem] mks.eq_1
attribute [go_sem] exT.eq_1
attribute [go_sem] strOf.eq_1 strOf.eq_2
attribute [go_sem] nilc.eq_1 nilc.eq_2 nilc.eq_3 nilc.eq_4
attribute [go_sem] mn.eq_1
attribute [go_sem] mx.eq_1
attribute [go_sem] pushC.eq_1 pushC.eq_2
attribute [go_sem] zcells.eq_1 zcells.eq_2
attribute [go_sem] lenC.eq_1 lenC.eq_2 lenC.eq_4
attribute [go_sem] SV.cells?.eq_1 SV.cells?.eq_2 SV.cells?.eq_3 SV.cells?.eq_4
attribute [go_sem] mkv.eq_1 mkv.eq_2
attribute [go_sem] rowAt.eq_1 rowAt.eq_2
attribute [go_sem] ldc.eq_1 ldc.eq_2
attribute [go_sem] splice.eq_1
attribute [go_sem] storeRow.eq_1 storeRow.eq_2
attribute [go_sem] stv.eq_1 stv.eq_2
attribute [go_sem] gsv.eq_1 gsv.eq_2
attribute [go_sem] TI.mk.injEq SV.v.injEq Value.int.injEq Value.bool.injEq Value.slice.injEq Value.string.injEq Option.some.injEq Prod.mk.injEq List.cons.injEq TK.ptr.injEq TK.slice.injEq TK.arr.injEq TK.struct.injEq TK.int.injEq imp_false imp_self not_false_eq_true not_true_eq_false
@[go_sem] theorem bin_and_i64 (a b : Int) : bin .and (.v (.int .i64 a)) (.v (.int .i64 b)) = some (True, .v (.int .i64 (IntKind.i64.wrap (BitVec.ofInt 64 a &&& BitVec.ofInt 64 b).toNat))) := rfl
@[go_sem] theorem bin_and_u8 (a b : Int) : bin .and (.v (.int .u8 a)) (.v (.int .u8 b)) = some (True, .v (.int .u8 (IntKind.u8.wrap (BitVec.ofInt 8 a &&& BitVec.ofInt 8 b).toNat))) := rfl
@[go_sem] theorem bin_and_u32 (a b : Int) : bin .and (.v (.int .u32 a)) (.v (.int .u32 b)) = some (True, .v (.int .u32 (IntKind.u32.wrap (BitVec.ofInt 32 a &&& BitVec.ofInt 32 b).toNat))) := rfl
@[go_sem] theorem bin_and_u64 (a b : Int) : bin .and (.v (.int .u64 a)) (.v (.int .u64 b)) = some (True, .v (.int .u64 (IntKind.u64.wrap (BitVec.ofInt 64 a &&& BitVec.ofInt 64 b).toNat))) := rfl
@[go_sem] theorem bin_or_i64 (a b : Int) : bin .or (.v (.int .i64 a)) (.v (.int .i64 b)) = some (True, .v (.int .i64 (IntKind.i64.wrap (BitVec.ofInt 64 a ||| BitVec.ofInt 64 b).toNat))) := rfl
@[go_sem] theorem bin_or_u8 (a b : Int) : bin .or (.v (.int .u8 a)) (.v (.int .u8 b)) = some (True, .v (.int .u8 (IntKind.u8.wrap (BitVec.ofInt 8 a ||| BitVec.ofInt 8 b).toNat))) := rfl
@[go_sem] theorem bin_or_u32 (a b : Int) : bin .or (.v (.int .u32 a)) (.v (.int .u32 b)) = some (True, .v (.int .u32 (IntKind.u32.wrap (BitVec.ofInt 32 a ||| BitVec.ofInt 32 b).toNat))) := rfl
@[go_sem] theorem bin_or_u64 (a b : Int) : bin .or (.v (.int .u64 a)) (.v (.int .u64 b)) = some (True, .v (.int .u64 (IntKind.u64.wrap (BitVec.ofInt 64 a ||| BitVec.ofInt 64 b).toNat))) := rfl
@[go_sem] theorem bin_xor_i64 (a b : Int) : bin .xor (.v (.int .i64 a)) (.v (.int .i64 b)) = some (True, .v (.int .i64 (IntKind.i64.wrap (BitVec.ofInt 64 a ^^^ BitVec.ofInt 64 b).toNat))) := rfl
@[go_sem] theorem bin_xor_u8 (a b : Int) : bin .xor (.v (.int .u8 a)) (.v (.int .u8 b)) = some (True, .v (.int .u8 (IntKind.u8.wrap (BitVec.ofInt 8 a ^^^ BitVec.ofInt 8 b).toNat))) := rfl
@[go_sem] theorem bin_xor_u32 (a b : Int) : bin .xor (.v (.int .u32 a)) (.v (.int .u32 b)) = some (True, .v (.int .u32 (IntKind.u32.wrap (BitVec.ofInt 32 a ^^^ BitVec.ofInt 32 b).toNat))) := rfl
@[go_sem] theorem bin_xor_u64 (a b : Int) : bin .xor (.v (.int .u64 a)) (.v (.int .u64 b)) = some (True, .v (.int .u64 (IntKind.u64.wrap (BitVec.ofInt 64 a ^^^ BitVec.ofInt 64 b).toNat))) := rfl
@[go_sem] theorem bin_andNot_i64 (a b : Int) : bin .andNot (.v (.int .i64 a)) (.v (.int .i64 b)) = some (True, .v (.int .i64 (IntKind.i64.wrap (BitVec.ofInt 64 a &&& ~~~ BitVec.ofInt 64 b).toNat))) := rfl
@[go_sem] theorem bin_andNot_u8 (a b : Int) : bin .andNot (.v (.int .u8 a)) (.v (.int .u8 b)) = some (True, .v (.int .u8 (IntKind.u8.wrap (BitVec.ofInt 8 a &&& ~~~ BitVec.ofInt 8 b).toNat))) := rfl
@[go_sem] theorem bin_andNot_u32 (a b : Int) : bin .andNot (.v (.int .u32 a)) (.v (.int .u32 b)) = some (True, .v (.int .u32 (IntKind.u32.wrap (BitVec.ofInt 32 a &&& ~~~ BitVec.ofInt 32 b).toNat))) := rfl
@[go_sem] theorem bin_andNot_u64 (a b : Int) : bin .andNot (.v (.int .u64 a)) (.v (.int .u64 b)) = some (True, .v (.int .u64 (IntKind.u64.wrap (BitVec.ofInt 64 a &&& ~~~ BitVec.ofInt 64 b).toNat))) := rfl
@[go_sem] theorem un_xor_i64 (a : Int) : un .xor (.v (.int .i64 a)) = some (.v (.int .i64 (IntKind.i64.wrap (BitVec.ofInt 64 (-1) ^^^ BitVec.ofInt 64 a).toNat))) := rfl
@[go_sem] theorem un_xor_u8 (a : Int) : un .xor (.v (.int .u8 a)) = some (.v (.int .u8 (IntKind.u8.wrap (BitVec.ofInt 8 (255) ^^^ BitVec.ofInt 8 a).toNat))) := rfl
@[go_sem] theorem un_xor_u32 (a : Int) : un .xor (.v (.int .u32 a)) = some (.v (.int .u32 (IntKind.u32.wrap (BitVec.ofInt 32 (4294967295) ^^^ BitVec.ofInt 32 a).toNat))) := rfl
@[go_sem] theorem un_xor_u64 (a : Int) : un .xor (.v (.int .u64 a)) = some (.v (.int .u64 (IntKind.u64.wrap (BitVec.ofInt 64 (18446744073709551615) ^^^ BitVec.ofInt 64 a).toNat))) := rfl

@[go_sem] theorem clean_gs (i : Nat) : (SV.gs i).clean = false := rfl
@[go_sem] theorem clean_ptr (i k : Nat) : (SV.ptr i k).clean = false := rfl
@[go_sem] theorem clean_fn (f : FuncId) (a b : List SV) : (SV.fn f a b).clean = false := rfl
@[go_sem] theorem clean_mp (i : Nat) : (SV.mp i).clean = false := rfl
@[go_sem] theorem clean_sub (i z o l : Nat) (f : Bool) : (SV.sub i z o l f).clean = false := rfl
@[go_sem] theorem clean_asl (i z o l : Nat) (f : Bool) : (SV.asl i z o l f).clean = false := rfl
/-! ### Literals' elements -/
section
variable {own : List SO}
@[go_sem] theorem frz1_gs (j : Nat) : frz1 own (.gs j) = frzS own[j]? j := rfl
@[go_sem] theorem gs1_gs (j : Nat) : gs1 own (.gs j) = gsS own[j]? j := rfl
@[go_sem] theorem frz1_v (x : Value) : frz1 own (.v x) = .v x := rfl
@[go_sem] theorem gs1_v (x : Value) : gs1 own (.v x) = [] := rfl
@[go_sem] theorem frz1_fsl (z : Nat) (rows : List (List SV)) (f : Bool) : frz1 own (.fsl z rows f) = .fsl z rows f := rfl
@[go_sem] theorem gs1_fsl (z : Nat) (rows : List (List SV)) (f : Bool) : gs1 own (.fsl z rows f) = [] := rfl
@[go_sem] theorem frz1_fp (cs : List SV) : frz1 own (.fp cs) = .fp cs := rfl
@[go_sem] theorem gs1_fp (cs : List SV) : gs1 own (.fp cs) = [] := rfl
@[go_sem] theorem frz1_fn (f : FuncId) (a b : List SV) : frz1 own (.fn f a b) = .fn f a b := rfl
@[go_sem] theorem gs1_fn (f : FuncId) (a b : List SV) : gs1 own (.fn f a b) = [] := rfl
@[go_sem] theorem frz1_ptr (i k : Nat) : frz1 own (.ptr i k) = .ptr i k := rfl
@[go_sem] theorem gs1_ptr (i k : Nat) : gs1 own (.ptr i k) = [] := rfl
@[go_sem] theorem frzV_agg (xs : List SV) : frzV own (.agg xs) = .agg (xs.map (frz1 own)) := rfl
@[go_sem] theorem gsV_agg (xs : List SV) : gsV own (.agg xs) = gsL own xs := rfl
@[go_sem] theorem frzV_gs (j : Nat) : frzV own (.gs j) = frzS own[j]? j := rfl
@[go_sem] theorem gsV_gs (j : Nat) : gsV own (.gs j) = gsS own[j]? j := rfl
@[go_sem] theorem frzV_v (x : Value) : frzV own (.v x) = .v x := rfl
@[go_sem] theorem gsV_v (x : Value) : gsV own (.v x) = [] := rfl
@[go_sem] theorem frzV_fsl (z : Nat) (rows : List (List SV)) (f : Bool) : frzV own (.fsl z rows f) = .fsl z rows f := rfl
@[go_sem] theorem gsV_fsl (z : Nat) (rows : List (List SV)) (f : Bool) : gsV own (.fsl z rows f) = [] := rfl
@[go_sem] theorem frzV_fp (cs : List SV) : frzV own (.fp cs) = .fp cs := rfl
@[go_sem] theorem gsV_fp (cs : List SV) : gsV own (.fp cs) = [] := rfl
@[go_sem] theorem frzV_fn (f : FuncId) (a b : List SV) : frzV own (.fn f a b) = .fn f a b := rfl
@[go_sem] theorem gsV_fn (f : FuncId) (a b : List SV) : gsV own (.fn f a b) = [] := rfl
@[go_sem] theorem frzV_ptr (i k : Nat) : frzV own (.ptr i k) = .ptr i k := rfl
@[go_sem] theorem gsV_ptr (i k : Nat) : gsV own (.ptr i k) = [] := rfl
end
/-! ### Where a test is decided, the other road is not looked at -/
section
variable {C : Cx} {o : Oper} {A B K : Env → List SO → Prop} {env : Env} {own : List SO} {d : Option Tmp} {x y : SV}
@[go_sem high] theorem vcond_true : vcond (.v (.bool true)) A B env own = A env own := by simp [vcond]
@[go_sem high] theorem vcond_false : vcond (.v (.bool false)) A B env own = B env own := by simp [vcond]
@[go_sem high] theorem beq_ff : (false == false) = true := rfl
@[go_sem high] theorem beq_tt : (true == true) = true := rfl
@[go_sem high] theorem beq_ft : (false == true) = false := rfl
@[go_sem high] theorem beq_tf : (true == false) = false := rfl
@[go_sem high] theorem vguard_tup (xs : List SV) (want : Bool) : vguard C (some (.tup xs)) want o K env own = K (env.put o.dst (.tup [])) own := by simp [vguard]
@[go_sem high] theorem vguard_tt : vguard C (some (.v (.bool true))) true o K env own = vop C o K env own := by simp [vguard]
@[go_sem high] theorem vguard_ff : vguard C (some (.v (.bool false))) false o K env own = vop C o K env own := by simp [vguard]
@[go_sem high] theorem vguard_tf : vguard C (some (.v (.bool true))) false o K env own = K (env.put o.dst (.tup [])) own := by simp [vguard]
@[go_sem high] theorem vguard_ft : vguard C (some (.v (.bool false))) true o K env own = K (env.put o.dst (.tup [])) own := by simp [vguard]
@[go_sem high] theorem vpick_true : vpick K d (.v (.bool true)) x y env own = K (env.put d x) own := by simp [vpick]
@[go_sem high] theorem vpick_false : vpick K d (.v (.bool false)) x y env own = K (env.put d y) own := by simp [vpick]
end
section
variable {K : Env → List SO → Prop} {d : Option Tmp} {own : List SO} {T : TypeId} {z by_ : Nat} {new : List (List SV)} {env : Env} {Q : SV → List SO → Prop}
@[go_sem] theorem vapp2_v (x : Value) : vapp2 K d own T z by_ (.v x) new env = v3 K d (appTo own T z by_ (.v x) new) env := rfl
@[go_sem] theorem vapp2_gs (i : Nat) : vapp2 K d own T z by_ (.gs i) new env = v3 K d (appTo own T z by_ (.gs i) new) env := rfl
@[go_sem] theorem vret_nil : vret Q own (some []) = Q (.tup []) own := rfl
@[go_sem] theorem vret_two (a b : SV) (l : List SV) : vret Q own (some (a :: b :: l)) = Q (.tup (a :: b :: l)) own := rfl
@[go_sem] theorem bin2_int (k : IntKind) (n m : Nat) (zs : List SV) (op : BinOp) (x y : SV) : bin2 (some ⟨.int k, n, m, zs⟩) op x y = bin op x y := rfl
@[go_sem] theorem bin2_str (n m : Nat) (zs : List SV) (op : BinOp) (x y : SV) : bin2 (some ⟨.str, n, m, zs⟩) op x y = bin op x y := rfl
@[go_sem] theorem lenC_fsl (e : TypeId) (n m : Nat) (zs : List SV) (z : Nat) (rows : List (List SV)) (f : Bool) : lenC (some ⟨.slice e, n, m, zs⟩) own (.fsl z rows f) = some (i64 (rows.length : Int)) := rfl
def lenR : Option Nat → Option SV | some n => some (i64 (n : Int)) | none => none
attribute [go_sem] lenR.eq_1
@[go_sem] theorem lenC_nil (e : TypeId) (n m : Nat) (zs : List SV) : lenC (some ⟨.slice e, n, m, zs⟩) own (.v (.slice none 0 0)) = some (i64 0) := rfl
@[go_sem] theorem lenC_gs (e : TypeId) (n m : Nat) (zs : List SV) (i : Nat) : lenC (some ⟨.slice e, n, m, zs⟩) own (.gs i) = lenR (lenv own (.gs i)) := by
  simp only [lenC]; cases lenv own (.gs i) <;> rfl
@[go_sem] theorem lenC_sub (e : TypeId) (n m : Nat) (zs : List SV) (i z off len : Nat) (f : Bool) : lenC (some ⟨.slice e, n, m, zs⟩) own (.sub i z off len f) = some (i64 (len : Int)) := rfl
@[go_sem] theorem lenC_asl (e : TypeId) (n m : Nat) (zs : List SV) (i z off len : Nat) (f : Bool) : lenC (some ⟨.slice e, n, m, zs⟩) own (.asl i z off len f) = some (i64 (len : Int)) := rfl
@[go_sem] theorem cells_ptr (i o : Nat) : (SV.ptr i o).cells? = some [.ptr i o] := rfl
@[go_sem] theorem cells_eptr (i z k c : Nat) : (SV.eptr i z k c).cells? = some [.eptr i z k c] := rfl
@[go_sem] theorem cells_gs (i : Nat) : (SV.gs i).cells? = some [.gs i] := rfl
@[go_sem] theorem cells_sub (i z o l : Nat) (f : Bool) : (SV.sub i z o l f).cells? = some [.sub i z o l f] := rfl
@[go_sem] theorem cells_asl (i z o l : Nat) (f : Bool) : (SV.asl i z o l f).cells? = some [.asl i z o l f] := rfl
@[go_sem] theorem cells_fsl (z : Nat) (rows : List (List SV)) (f : Bool) : (SV.fsl z rows f).cells? = some [.fsl z rows f] := rfl
@[go_sem] theorem cells_fp (cs : List SV) : (SV.fp cs).cells? = some [.fp cs] := rfl
@[go_sem] theorem cells_fn (f : FuncId) (a b : List SV) : (SV.fn f a b).cells? = some [.fn f a b] := rfl
@[go_sem] theorem cells_mp (i : Nat) : (SV.mp i).cells? = some [.mp i] := rfl
@[go_sem] theorem splice_nil (cs : List SV) (off : Nat) : splice cs off [] = cs.take off ++ cs.drop off := by simp [splice]
@[go_sem] theorem splice_two (cs : List SV) (off : Nat) (a b : SV) (l : List SV) : splice cs off (a :: b :: l) = cs.take off ++ (a :: b :: l) ++ cs.drop (off + (a :: b :: l).length) := rfl
@[go_sem] theorem again1_none (C : Cx) (all : List Oper) (env : Env) (o : Oper) (h : o.guard = none) : again1 C all env own (some o) = same3 o.dst env (stepv C o.op env own) := by simp only [again1, h]
end
end Go.AM
namespace Go.AM
open Go
set_option autoImplicit false
set_option linter.unusedVariables false

/-! ### More rules -/
section
variable {C : Cx} {G : Nat → Option (List SV)} {n0 : Nat} {own own2 own3 own' : List SO} {s s' : St} {env env2 env3 : Env} {Q : SV → List SO → Prop} {o : Oper}

/-- Weaker readings of the objects alone; their numbers stay. -/
def RedS (G : Nat → Option (List SV)) (own own2 : List SO) : Prop :=
  ∀ (s : St), Rel G own s → ∃ s2, s2.w = s.w ∧ s2.ρ = s.ρ ∧ Rel G own2 s2 ∧ Step s s2
theorem RedS.refl : RedS G own own := fun s h => ⟨s, rfl, rfl, h, Step.refl s⟩
theorem RedS.trans (h : RedS G own own2) (k : RedS G own2 own3) : RedS G own own3 := by
  intro s hR
  obtain ⟨s2, q1, q2, q3, q4⟩ := h s hR
  obtain ⟨s3, r1, r2, r3, r4⟩ := k s2 q3
  exact ⟨s3, r1.trans q1, r2.trans q2, r3, Step.trans q3.dF q4 r4⟩
theorem Red.ofS (h : RedS G own own2) : Red G n0 env own env own2 := by
  intro a s hE hR
  obtain ⟨s2, q1, q2, q3, q4⟩ := h s hR
  exact ⟨s2, q1, fun t => VRel.mono q4.F _ _ (by rw [q2]; exact Rle.refl _) (hE t), q3, q4, fun i _ _ => by rw [q2]⟩
theorem TRel.monoS {F F' : PH} {ρ ρ' : Nat → Value} {l : List SV} {vs : List Value} (hF : PHle F F') (hr : ρ' = ρ) (h : TRel F ρ l vs) : TRel F' ρ' l vs :=
  TRel.mono hF l vs (by rw [hr]; exact Rle.refl _) h
theorem cg_redS {f : FuncId} {args : List SV} {d : Option Tmp} {K : Env → List SO → Prop} (h : RedS C.G own own2) (hg : CG C f args own2 d K env) : CG C f args own d K env := by
  refine ⟨hg.1, fun s vals hT hR => ?_⟩
  obtain ⟨s2, q1, q2, q3, q4⟩ := h s hR
  have := hg.2 s2 vals (hT.monoS q4.F q2) q3
  rw [q1] at this
  refine this.mono ?_
  rintro e w' ⟨v, sv, own', s', e1, e2, e3, e4, e5, e6, e7⟩
  exact ⟨v, sv, own', s', e1, e2, e3, e4, Step.trans q3.dF q4 e5, by rw [← q2]; exact e6, e7⟩
theorem op_redS {K : Env → List SO → Prop} (h : RedS C.G own own2) (hg : OpGoal C o K env own2) : OpGoal C o K env own := by
  intro a s hop hR
  obtain ⟨s2, q1, q2, q3, q4⟩ := h s hR
  have := hg a s2 (fun x hx => VRel.mono q4.F _ _ (by rw [q2]; exact Rle.refl _) (hop x hx)) q3
  rw [q1] at this
  refine wp_mono2 this ?_
  rintro a' w' ⟨v, sv, own', s', e1, e2, e3, e4, e5, e6, e7⟩
  exact ⟨v, sv, own', s', e1, e2, e3, e4, Step.trans q3.dF q4 e5, by rw [← q2]; exact e6, e7⟩

/-- All objects are handed over as they are. -/
theorem cg_all {f : FuncId} {args : List SV} {Post : SV → List SO → Prop} {d : Option Tmp} {K : Env → List SO → Prop}
    (hF : Fun C.P C.G f args own Post) (hK : ∀ sv own', Post sv own' → K (env.put d sv) own') : CG C f args own d K env := by
  refine ⟨hF.1, fun s vals hT hR => (hF.2 s vals hT hR).mono ?_⟩
  rintro e w' ⟨v, sv, own', s', e1, e2, e3, e4, e5, e6, e7⟩
  refine ⟨v, sv, own', s', e1, e2, e3, e4, e5, fun i hi => ?_, hK _ _ e7⟩
  by_cases hl : i < own.length
  · exact e6 i hl hi
  · exact absurd (hR.out i (by omega)).1 hi
theorem cgd_all {f : FuncId} {args : List SV} {Post : SV → List SO → Prop} {K : Env → List SO → Prop}
    (hF : FunD C.P C.G f args own Post) (hK : ∀ sv own', Post sv own' → K env own') : CGD C f args own K env := by
  intro s vals hT hR
  refine (hF.2 s vals hT hR).mono ?_
  rintro e u' w' ⟨hu, v, sv, own', s', e1, e2, e3, e4, e5, e6, e7⟩
  refine ⟨hu, v, sv, own', s', e1, e2, e3, e4, e5, fun i hi => ?_, hK _ _ e7⟩
  by_cases hl : i < own.length
  · exact e6 i hl hi
  · exact absurd (hR.out i (by omega)).1 hi
/-- A weaker contract. -/
theorem Fun.mono {P : Program} {f : FuncId} {args : List SV} {Post Post' : SV → List SO → Prop} (h : Fun P G f args own Post) (hp : ∀ sv own', Post sv own' → Post' sv own') : Fun P G f args own Post' :=
  ⟨h.1, fun s vals hT hR => (h.2 s vals hT hR).mono (by
    rintro e w' ⟨v, sv, own', s', e1, e2, e3, e4, e5, e6, e7⟩
    exact ⟨v, sv, own', s', e1, e2, e3, e4, e5, e6, hp _ _ e7⟩)⟩

/-! ### What is lent: own objects read as frozen ones, for a callee that answers plain values -/
mutual
def plain : SV → Bool
  | .v _ => true
  | .agg xs => plainL xs
  | .tup xs => plainL xs
  | _ => false
def plainL : List SV → Bool
  | [] => true
  | s :: ss => plain s && plainL ss
end
mutual
theorem VRel_plain {F F' : PH} {ρ ρ' : Nat → Value} : ∀ (s : SV) (v : Value), plain s = true → VRel F ρ s v → VRel F' ρ' s v
  | .v x, v, _, h => h
  | .agg xs, v, hp, ⟨vs, h1, h2, h3⟩ => ⟨vs, h1, PRel_plain xs _ hp h2, h3⟩
  | .tup xs, v, hp, ⟨vs, h1, h2⟩ => ⟨vs, h1, TRel_plain xs _ hp h2⟩
theorem PRel_plain {F F' : PH} {ρ ρ' : Nat → Value} : ∀ (s : List SV) (v : List Value), plainL s = true → PRel F ρ s v → PRel F' ρ' s v
  | [], v, _, h => trivial
  | s :: ss, v, hp, ⟨x, xs, h0, h1, h2, h3⟩ => by
    simp only [plainL, Bool.and_eq_true] at hp
    exact ⟨x, xs, h0, h1, VRel_plain s x hp.1 h2, PRel_plain ss xs hp.2 h3⟩
theorem TRel_plain {F F' : PH} {ρ ρ' : Nat → Value} : ∀ (s : List SV) (v : List Value), plainL s = true → TRel F ρ s v → TRel F' ρ' s v
  | [], v, _, h => h
  | s :: ss, v, hp, ⟨x, xs, h0, h1, h2⟩ => by
    simp only [plainL, Bool.and_eq_true] at hp
    exact ⟨x, xs, h0, VRel_plain s x hp.1 h1, TRel_plain ss xs hp.2 h2⟩
end

def lendG : Option SO → Option (Nat × List (List SV))
  | some (.grow _ z rows) => some (z, rows)
  | _ => none
def lendC : Option SO → Option (List SV)
  | some (.cells _ cs) => if cs.all SV.clean then some cs else none
  | _ => none
/-- An argument, as a callee reads it to whom it is lent. -/
def lend (own : List SO) : SV → SV
  | .gs i => match lendG own[i]? with | some (z, rows) => .fsl z rows false | none => .any
  | .sub i z off len full => match lendG own[i]? with | some (z', rows) => if z = z' ∧ off + len ≤ rows.length then .fsl z ((rows.drop off).take len) full else .any | none => .any
  | .asl i z off len full => match lendC own[i]? with | some cs => if z = 1 ∧ off + len ≤ cs.length then .fsl 1 (((cs.drop off).take len).map fun c => [c]) full else .any | none => .any
  | .ptr i off => match lendC own[i]? with | some cs => .fp (cs.drop off) | none => .any
  | s => if s.clean then s else .any


open Classical in
noncomputable def St.lent (s : St) : St := ⟨fun b => match s.F b with | some o => some o | none => if ∃ i, s.h i b ≠ none then s.w.heap[b]? else none, junks, fun _ => PH.none, s.w⟩
theorem lent_le (s : St) : PHle s.F s.lent.F := fun b o h => by simp only [St.lent, h]
theorem lent_own (hR : Rel G own s) {i b : Nat} {o : Obj} (h : s.h i b = some o) : s.lent.F b = some o := by
  have hF := hR.dF i b (by rw [h]; nofun)
  simp only [St.lent, hF]
  rw [if_pos ⟨i, by rw [h]; nofun⟩]
  exact hR.inh i b o h
theorem rel_lent (hR : Rel G own s) : Rel G [] s.lent where
  obj i o h := by simp at h
  out i _ := ⟨rfl, rfl⟩
  dF i b h := absurd rfl h
  dd i j b h := absurd rfl h
  inF b o h := by
    simp only [St.lent] at h
    split at h
    · rename_i x hx; rw [← h]; exact hR.inF b x hx
    · split at h
      · exact h
      · cases h
  inh i b o h := by cases h
  glob g cs h := by
    obtain ⟨c, E, fz, h1, h2⟩ := hR.glob g cs h
    exact ⟨c, E, fz, lent_le s _ _ h1, PRel.mono (lent_le s) _ _ (Rle.refl _) h2⟩

theorem lend_rel (hR : Rel G own s) (x : SV) (v : Value) (h : VRel s.F s.ρ x v) : VRel s.lent.F s.lent.ρ (lend own x) v := by
  have hcl : ∀ x : SV, x.clean = true → VRel s.F s.ρ x v → VRel s.lent.F s.lent.ρ x v := fun x hc h => VRel.mono (lent_le s) _ _ (Rle.refl _) (VRel_clean (ρ' := s.lent.ρ) hc h)
  cases x
  case gs i =>
    simp only [lend]
    split
    · rename_i z rows hi
      unfold lendG at hi
      split at hi
      · rename_i T z' rows' hi'
        injection hi with hi; injection hi with hi1 hi2; subst hi1 hi2
        obtain ⟨a, n, cap, hρ, hv⟩ := h
        obtain ⟨a', cap', q1, q2, q3, q4⟩ := hR.obj i _ hi'
        rw [hρ] at q1; injection q1 with e1 e2 e3; subst e1 e2 e3
        refine ⟨a, cap, hv, q3, nofun, q2, fun hne => ?_⟩
        rcases q4 with ⟨_, h, _, _⟩ | ⟨b, vs, g1, g2, g3, g4⟩
        · exact absurd h hne
        · refine ⟨b, 0, vs, T, (0, 0), g1, lent_own hR (i := i) (by rw [g2]; simp [PH.sg]), ?_⟩
          simpa using RRel.mono (lent_le s) _ _ (Rle.refl _) g4
      · cases hi
    · trivial
  case sub i z off len full =>
    simp only [lend]
    split
    · rename_i z' rows hi
      split
      · rename_i hc
        obtain ⟨rfl, hle⟩ := hc
        unfold lendG at hi
        split at hi
        · rename_i T z' rows' hi'
          injection hi with hi; injection hi with hi1 hi2; subst hi1 hi2
          obtain ⟨a, n, cap, hρ, a2, cap2, hv, k1, k2, k3⟩ := h
          obtain ⟨a', cap', q1, q2, q3, q4⟩ := hR.obj i _ hi'
          rw [hρ] at q1; injection q1 with e1 e2 e3; subst e1 e2 e3
          have hl : ((rows'.drop off).take len).length = len := by simp; omega
          have hz : ∀ r ∈ (rows'.drop off).take len, r.length = z' := fun r hr => q2 r (List.mem_of_mem_drop (List.mem_of_mem_take hr))
          refine ⟨a2, cap2, by rw [hl]; exact hv, by rw [hl]; exact k1, by rw [hl]; exact k2, hz, fun hne => ?_⟩
          have hl0 : len ≠ 0 := by intro h0; subst h0; simp at hne
          obtain ⟨b, hb1, hb2⟩ := k3 hl0
          rcases q4 with ⟨h0, hr0, _, _⟩ | ⟨b', vs, g1, g2, g3, g4⟩
          · rw [hr0] at hne; simp at hne
          · rw [hb1] at g1; injection g1 with g1; injection g1 with g1; subst g1
            refine ⟨b, off * z', vs, T, (0, 0), hb2, lent_own hR (i := i) (by rw [g2]; simp [PH.sg]), ?_⟩
            rw [RRel_iff z' _ _ hz]
            intro k r hk
            have g4' := (RRel_iff z' _ _ q2).1 (RRel.mono (lent_le s) _ _ (Rle.refl _) g4)
            rw [List.getElem?_take] at hk
            split at hk
            · rw [List.getElem?_drop] at hk
              have := g4' _ _ hk
              rw [List.drop_drop, ← Nat.add_mul]
              exact this
            · cases hk
        · cases hi
      · trivial
    · trivial
  case asl i z off len full =>
    simp only [lend]
    split
    · rename_i cs hi
      split
      · rename_i hc
        obtain ⟨rfl, hle⟩ := hc
        unfold lendC at hi
        split at hi
        · rename_i T cs' hi'
          split at hi
          · rename_i hcl'
            injection hi with hi; subst hi
            obtain ⟨b, hρ, a2, cap2, hv, k1, k2, k3⟩ := h
            obtain ⟨b', vs, q1, q2, q3, q4⟩ := hR.obj i _ hi'
            rw [hρ] at q1; injection q1 with q1; injection q1 with q1; injection q1 with q1; subst q1
            have hl : (((cs'.drop off).take len).map fun c => [c]).length = len := by simp; omega
            have hz : ∀ r ∈ (((cs'.drop off).take len).map fun c => [c]), r.length = 1 := fun r hr => by obtain ⟨x, _, rfl⟩ := List.mem_map.1 hr; rfl
            refine ⟨some a2, cap2, by rw [hl]; exact hv, by rw [hl]; exact k1, by rw [hl]; exact k2, hz, fun hne => ?_⟩
            have hl0 : len ≠ 0 := by intro h0; subst h0; simp at hne
            have hb2 := k3 hl0
            refine ⟨b, off, vs, T, (0, 0), by rw [hb2], lent_own hR (i := i) (by rw [q2]; simp [PH.sg]), ?_⟩
            rw [RRel_iff 1 _ _ hz]
            intro k r hk
            have q3' := (PRel_iff _ _).1 (PRel.mono (lent_le s) _ _ (Rle.refl _) (PRel_clean (ρ' := junks) hcl' q3))
            rw [List.getElem?_map] at hk
            simp only [Option.map_eq_some_iff] at hk
            obtain ⟨c, hk, rfl⟩ := hk
            rw [List.getElem?_take] at hk
            split at hk
            · rw [List.getElem?_drop] at hk
              obtain ⟨x, hx, ho, hvx⟩ := q3' _ _ hk
              rw [List.drop_drop, Nat.mul_one]
              have hd : (vs.toList.drop (off + k)) = x :: vs.toList.drop (off + k + 1) := by
                obtain ⟨hlt, e⟩ := List.getElem?_eq_some_iff.1 hx
                rw [List.drop_eq_getElem_cons hlt, e]
              rw [hd]
              exact ⟨x, _, rfl, ho, hvx, trivial⟩
            · cases hk
          · cases hi
        · cases hi
      · trivial
    · trivial
  case ptr i off =>
    simp only [lend]
    split
    · rename_i cs hi
      unfold lendC at hi
      split at hi
      · rename_i T cs' hi'
        split at hi
        · rename_i hcl'
          injection hi with hi; subst hi
          obtain ⟨b, hρ, hv⟩ := h
          obtain ⟨b', vs, q1, q2, q3, q4⟩ := hR.obj i _ hi'
          rw [hρ] at q1; injection q1 with q1; injection q1 with q1; injection q1 with q1; subst q1
          exact ⟨b, off, vs, T, (0, 0), hv, lent_own hR (i := i) (by rw [q2]; simp [PH.sg]), PRel_drop off (PRel.mono (lent_le s) _ _ (Rle.refl _) (PRel_clean (ρ' := junks) hcl' q3))⟩
        · cases hi
      · cases hi
    · trivial
  all_goals
    simp only [lend]
    split
    · rename_i hc; exact hcl _ hc h
    · trivial

theorem cg_lend {f : FuncId} {args : List SV} {Post : SV → List SO → Prop} {d : Option Tmp} {K : Env → List SO → Prop}
    (hF : Fun C.P C.G f (args.map (lend own)) [] Post) (hK : ∀ sv own', Post sv own' → plain sv = true ∧ K (env.put d sv) own) : CG C f args own d K env := by
  refine ⟨hF.1, fun s vals hT hR => ?_⟩
  have hTl : ∀ (l : List SV) (vs : List Value), TRel s.F s.ρ l vs → TRel s.lent.F s.lent.ρ (l.map (lend own)) vs := by
    intro l
    induction l with
    | nil => intro vs h; exact h
    | cons x l ih =>
      rintro vs ⟨y, ys, e, h1, h2⟩
      exact ⟨y, ys, e, lend_rel hR x y h1, ih ys h2⟩
  refine (hF.2 s.lent vals (hTl _ _ hT) (rel_lent hR)).mono ?_
  rintro e w' ⟨v, sv, own', s', e1, e2, e3, e4, e5, e6, e7⟩
  obtain ⟨hp, hk⟩ := hK _ _ e7
  have hin : ∀ b o, s.lent.F b = some o → w'.heap[b]? = some o := fun b o h => by rw [← e2]; exact e4.inF b o (e5.F b o h)
  refine ⟨v, sv, own, ⟨s.F, s.ρ, s.h, w'⟩, e1, rfl, VRel_plain sv v hp e3, ⟨hR.obj, hR.out, hR.dF, hR.dd, fun b o h => hin b o (lent_le s b o h), fun i b o h => hin b o (lent_own hR h), hR.glob⟩, ?_, Rle.refl _, hk⟩
  have e2' : s'.w = w' := e2
  refine ⟨PHle.refl _, by rw [← e2']; exact e5.size, by rw [← e2']; exact e5.os, by rw [← e2']; exact e5.tape, by rw [← e2']; exact e5.output, fun b hb hno => ?_, fun b _ h => h⟩
  show w'.heap[b]? = _
  rw [← e2']
  exact e5.keep b hb fun i => rfl
end
end Go.AM
namespace Go.AM
open Go
set_option autoImplicit false
set_option linter.unusedVariables false

section
variable {C : Cx} {G : Nat → Option (List SV)} {n0 : Nat} {own own2 own3 own' : List SO} {s s' : St} {env env2 env3 : Env} {Q : SV → List SO → Prop} {o : Oper}

/-! ### Freezing, with what other objects hold of the slice -/
theorem frz_rel {i : Nat} {T : TypeId} {z : Nat} {rows : List (List SV)} (h2 : Rel G own s) (hi : own[i]? = some (.grow T z rows)) (x : SV) (v : Value) (h : VRel s.F s.ρ x v) :
    VRel (s.freeze i).F (s.freeze i).ρ (frz i z rows x) v := by
  have ht := VRel.mono (freeze_le i) _ _ (Rle.refl _) h
  cases x with
  | gs j =>
    simp only [frz]
    split
    · rename_i e
      subst e
      obtain ⟨x, n, cap, e1, e2⟩ := ht
      obtain ⟨b', cap', e3, e4, e5, e6⟩ := h2.obj j _ hi
      have e1 : s.ρ j = .slice x n cap := e1
      rw [e1] at e3
      injection e3 with f1 f2 f3; subst f1 f2 f3
      refine ⟨x, cap, e2, e5, nofun, e4, fun hne => ?_⟩
      rcases e6 with ⟨_, h, _, _⟩ | ⟨b, vs, g1, g2, g3, g4⟩
      · exact absurd h hne
      · refine ⟨b, 0, vs, T, (0, 0), g1, ?_, by simpa using RRel.mono (freeze_le j) _ _ (Rle.refl _) g4⟩
        have hh : s.h j b = some (.cells vs T (0, 0)) := by rw [g2]; simp [PH.sg]
        have := h2.dF j b (by rw [hh]; nofun)
        simp only [St.freeze, this, hh]
    · exact ht
  | _ => exact ht
theorem frz_oneL {i : Nat} {T : TypeId} {z : Nat} {rows : List (List SV)} (h2 : Rel G own s) (hi : own[i]? = some (.grow T z rows)) : ∀ (xs : List SV) (vs : List Value), PRel s.F s.ρ xs vs → PRel (s.freeze i).F (s.freeze i).ρ (xs.map (frz i z rows)) vs
  | [], _, _ => trivial
  | x :: xs, vs, ⟨y, ys, e, ho, h1, h3⟩ => ⟨y, ys, e, ho, frz_rel h2 hi x y h1, frz_oneL h2 hi xs ys h3⟩
def frzO (i z : Nat) (rows : List (List SV)) : SO → SO
  | .cells T cs => .cells T (cs.map (frz i z rows))
  | o => o
def frzOs (i z : Nat) (rows : List (List SV)) : List SO → List SO
  | [] => []
  | o :: l => frzO i z rows o :: frzOs i z rows l
theorem frzOs_get (i z : Nat) (rows : List (List SV)) : ∀ (l : List SO) (k : Nat), (frzOs i z rows l)[k]? = (l[k]?).map (frzO i z rows)
  | [], k => by simp [frzOs]
  | o :: l, 0 => by simp [frzOs]
  | o :: l, k + 1 => by simp [frzOs, frzOs_get i z rows l k]
theorem frzOs_length (i z : Nat) (rows : List (List SV)) : ∀ (l : List SO), (frzOs i z rows l).length = l.length
  | [] => rfl
  | o :: l => by simp [frzOs, frzOs_length i z rows l]
theorem Red.freezeC {i : Nat} {T : TypeId} {z : Nat} {rows : List (List SV)} (hi : own[i]? = some (.grow T z rows)) : Red G n0 env own (frzE i z rows env) (frzOs i z rows (own.set i .gone)) := by
  intro a s h1 h2
  have hlt : i < own.length := (List.getElem?_eq_some_iff.1 hi).1
  obtain ⟨h3, h4⟩ := rel_freeze h2 i hlt
  refine ⟨s.freeze i, rfl, ?_, ⟨?_, ?_, h3.dF, h3.dd, h3.inF, h3.inh, h3.glob⟩, h4, fun _ _ _ => rfl⟩
  · intro t
    rw [frzE_get]
    exact frz_rel h2 hi _ _ (h1 t)
  · intro k o hk
    rw [frzOs_get] at hk
    simp only [Option.map_eq_some_iff] at hk
    obtain ⟨o', ho', rfl⟩ := hk
    have hk := h3.obj k o' ho'
    cases o' with
    | cells T' cs =>
      obtain ⟨b, vs, e1, e2, e3, e4⟩ := hk
      by_cases e : k = i
      · subst e; rw [List.getElem?_set_self hlt] at ho'; cases ho'
      · rw [List.getElem?_set_ne (Ne.symm e)] at ho'
        obtain ⟨b2, vs2, f1, f2, f3, f4⟩ := h2.obj k _ ho'
        refine ⟨b, vs, e1, e2, ?_, by simp [e4]⟩
        have eb : b2 = b := by have h := f1.symm.trans e1; injection h with h; injection h with h; injection h
        have ev : vs2 = vs := by
          have hh : s.h k b = (s.freeze i).h k b := by show _ = upd s.h i PH.none k b; rw [upd_ne _ _ e]
          have q : s.h k b = some (.cells vs T' (0, 0)) := by rw [hh, e2]; simp [PH.sg]
          rw [f2, eb] at q; simp [PH.sg] at q; exact q
        rw [← ev]
        exact frz_oneL h2 hi _ _ f3
    | grow => exact hk
    | rep => exact hk
    | gone => exact hk
  · intro k hk
    rw [frzOs_length] at hk
    exact h3.out k hk

/-! ### What is deferred -/
def noLoop : List It → Bool
  | [] => true
  | .inLoop _ _ :: _ => false
  | _ :: k => noLoop k
def vdefer (C : Cx) (Q : SV → List SO → Prop) (k : List It) (n0 : Nat) (args : List SV) (env : Env) (own : List SO) : SV → Prop
  | .fn g first caps => callable C.P g = true ∧ (first ++ args ++ caps).all (low n0) = true ∧ vc ⟨C.P, C.f, C.fn, n0, C.G, C.D, C.dr, some (g, first ++ args ++ caps), false⟩ Q k env own
  | _ => False

theorem vops_pre {P : Program} (hP : C.P = P) {K : Env → List SO → Prop} {Qx : Exit → Act → World → Prop} {a0 : Act} {s0 : St} {ops : Array Oper} {rest : List Nat} (hdst : ∀ o ∈ ops.toList, dstOk a0.tmps.size o = true) :
    ∀ (l : List Oper) (k : Nat) (a : Act) (s : St) (env : Env) (own : List SO), (∀ (j : Nat) (o : Oper), l[j]? = some o → ops[k + j]? = some o) →
    vops C ops.toList K l env own → Here C a0 s0 a s env own → (∀ a' s' env' own', Here C a0 s0 a' s' env' own' → K env' own' → wpOps C.P ops Qx rest a' s'.w) → wpOps C.P ops Qx (List.range' k l.length ++ rest) a s.w
  | [], k, a, s, env, own, hl, h, hh, hk => by
    simp only [vops] at h
    exact hk a s env own hh h
  | o :: l, k, a, s, env, own, hl, h, hh, hk => by
    have h0 : ops[k]? = some o := hl 0 o rfl
    simp only [List.length_cons, List.range'_succ, List.cons_append]
    simp only [vops] at h
    exact vopg_sound h0 hdst h hh fun a' s' env' own' h1 h2 => vops_pre hP hdst l (k + 1) a' s' env' own' (fun j o hj => by have := hl (j + 1) o (by simpa using hj); rw [Nat.add_assoc, Nat.add_comm 1 j]; exact this) h2 h1 hk

theorem itsOk_defer {g : Option (FuncId × List SV)} {n0 : Nat} : ∀ {k : List It}, noLoop k = true → ItsOk C Q k → ItsOk ⟨C.P, C.f, C.fn, n0, C.G, C.D, C.dr, g, false⟩ Q k
  | [], _, _ => trivial
  | .code c :: k, h, hk => by
    refine ⟨?_, itsOk_defer (k := k) h hk.2⟩
    have : ∀ c : Code, codeOk ⟨C.P, C.f, C.fn, n0, C.G, C.D, C.dr, g, false⟩ c = codeOk C c := by
      intro c
      induction c with
      | seq a b ha hb => simp only [codeOk, ha, hb]
      | cond x a b ha hb => simp only [codeOk, ha, hb]
      | block i b hb => simp only [codeOk, hb]
      | loop b hb => simp only [codeOk, hb]
      | scope b hb => simp only [codeOk, hb]
      | region i ops d => rfl
      | _ => rfl
    rw [this]; exact hk.1
  | .inBlock i :: k, h, hk => itsOk_defer (k := k) h hk
  | .inScope i :: k, h, hk => itsOk_defer (k := k) h hk

theorem defer_rule {id : Nat} {ops : Array Oper} {k : List It} {pre : List Oper} {o : Oper} {f : Operand} {args : Array Operand} {ats : Array TypeId} (n0 : Nat)
    (hops : ops.toList = pre ++ [o]) (hop : o.op = .defer ⟨.value f, args, ats⟩) (hg : o.guard = none) (hd : o.dst = none) (hdf : C.df = none) (hkd : C.kd = false) (hn : C.n0 ≤ n0) (hk : noLoop k = true)
    (h : vops C ops.toList (fun env own => vdefer C Q k n0 (args.toList.map (ev C env)) env own (ev C env f)) pre env own) : LG C (.region id ops false) k Q env own := by
  intro hm hf hok a s h1 h2 h3 h4
  obtain ⟨hc, hk2⟩ := hok
  simp only [codeOk, regOk, Bool.and_eq_true, List.all_eq_true] at hc
  have hdst : ∀ o ∈ ops.toList, dstOk a.tmps.size o = true := by rw [h2]; exact hc.1
  have hds : a.defers = [] := by simpa [DfR, hdf] using h1
  have hsz : ops.size = pre.length + 1 := by
    have := congrArg List.length hops
    simpa using this
  have hlast : ops[pre.length]? = some o := by
    have : ops.toList[pre.length]? = some o := by rw [hops]; simp
    simpa using this
  let C2 : FuncId → List SV → Cx := fun g l => ⟨C.P, C.f, C.fn, n0, C.G, C.D, C.dr, some (g, l), false⟩
  have hreg : (Code.region id ops false).wp C.P (fun e a' w' => e = .normal ∧ ∃ g l env' own' s', s'.w = w' ∧ callable C.P g = true ∧ DfR (C2 g l) s' a'.defers ∧ a'.tmps.size = a.tmps.size ∧ ERel env' a' s' ∧ Rel C.G own' s' ∧ Step s s' ∧ Rle s.ρ s'.ρ ∧ vc (C2 g l) Q k env' own') a s.w := by
    refine wp_region ?_
    have e0 : List.range ops.size = List.range' 0 pre.length ++ [pre.length] := by
      rw [hsz, List.range_succ, ← List.range_eq_range']
    rw [e0]
    refine vops_pre rfl hdst pre 0 a s env own ?_ h ⟨rfl, rfl, h3, h4, Step.refl s, Rle.refl _⟩ ?_
    · intro j o' hj
      have : ops.toList[j]? = some o' := by
        rw [hops, List.getElem?_append_left (List.getElem?_eq_some_iff.1 hj).1]; exact hj
      simpa using this
    · intro a' s' env' own' hh hv
      simp only [wpOps, hlast]
      have hw : Region.wanted o (yielded ops a'.tmps) = true := by simp [Region.wanted, hg]
      rw [if_pos hw]
      refine .inl ?_
      generalize hfv : ev C env' f = fv at hv
      unfold vdefer at hv
      split at hv
      · rename_i g first caps
        obtain ⟨hcal, hlow, hv⟩ := hv
        have hfr := ev_rel (C := C) hh.E hh.R f
        rw [hfv] at hfr
        obtain ⟨fs, cs, hfn, hP1, hl1, hP2, hl2⟩ := hfr
        have hrun : (execOp a'.eval o).run C.P s'.w = .ok (.defer ⟨.fn (.func g) cs, fs ++ args.map a'.eval⟩) s'.w := by
          simp [execOp, hop, resolve, hfn, Deferred.ofValue]
        rw [Oper.wp, hrun]
        simp only [Oper.upon, wpOps]
        have hT : TRel s'.F s'.ρ (first ++ args.toList.map (ev C env') ++ caps) (fs.toList ++ args.toList.map a'.eval ++ cs.toList) :=
          TRel_append (TRel_append (TRel_of_PRel hP1 (by simpa using hl1)) (evs_rel hh.E hh.R args.toList)) (TRel_of_PRel hP2 (by simpa using hl2))
        refine ⟨trivial, g, _, env', own', s', rfl, hcal, ⟨rfl, hlow, ⟨.fn (.func g) cs, fs ++ args.map a'.eval⟩, _, ?_, ⟨_, _, rfl⟩, ?_, hT⟩, ?_, ?_, hh.R, hh.S, hh.ρ, hv⟩
        · simp [put_defers, hh.defers, hds]
        · intro w
          have hargs : (fs.toList ++ args.toList.map a'.eval ++ cs.toList).toArray = fs ++ args.map a'.eval ++ cs := by
            apply Array.ext'; simp
          show (invoke (.fn (.func g) cs) (fs ++ args.map a'.eval)).run C.P w = _
          rw [hargs]
          simp [invoke, run_callFunc hcal]
        · simp [hh.size, hd, Act.put]
        · intro t
          have := hh.E t
          simpa [hd, Act.put] using this
      · exact hv.elim
  intro cs
  obtain ⟨e, a', w', ⟨rfl, g, l, env', own', s', q1, q0, q2, q3, q4, q5, q6, q7, q8⟩, harr⟩ := hreg (fr0 C.kd C.f) (k.map It.item) cs
  have hgood := vc_sound (C := C2 g l) (Q := Q) hm hf _ k env' own' (Nat.le_refl _) (itsOk_defer hk hk2) q8
  have hg2 := hgood a' s' q2 (q3.trans h2) q4 q5
  rw [q1] at hg2
  rw [hkd] at harr ⊢
  obtain ⟨e, w2, fr, r1, r2, r3, r4⟩ := hg2 cs
  refine ⟨e, w2, fr, ?_, Comes.of_steps harr r2, r3, r4⟩
  have := Ends.trans (G := C.G) q5.dF q6 q7 r1
  obtain ⟨v, sv, own', s2, t1, t2, t3, t4, t5, t6, t7⟩ := this
  exact ⟨v, sv, own', s2, t1, t2, t3, t4, t5, fun i hi => t6 i (Nat.lt_of_lt_of_le hi hn), t7⟩
end
end Go.AM
namespace Go.AM
open Go
set_option autoImplicit false
set_option linter.unusedVariables false

/-! ### A map of strings whose values are held by it: groups of objects, the first of each pointed to by the entry -/
def keyV (k : List UInt8) : Value := .string ⟨k.toArray⟩
theorem keyV_inj {a b : List UInt8} (h : keyV a = keyV b) : a = b := by
  injection h with h; injection h with h; have := congrArg Array.toList h; simpa using this

structure GEnt (F : PH) (os : List SO) (ρs : Nat → Value) (hs : Nat → PH) (v : Value) : Prop where
  obj : ∀ j o, os[j]? = some o → ORel F ρs (ρs j) o (hs j)
  out : ∀ j, os.length ≤ j → ρs j = junk ∧ hs j = PH.none
  head : v = ρs 0

abbrev Ents := List (MapEntry × (List UInt8 × List SO))
structure GMapR (es : List (List UInt8 × List SO)) (out : Option (List UInt8 × Nat)) (b : Option (List Nat × Nat)) (F : PH) (ρ : Nat → Value) (x : Value) (h : PH)
    (r clock : Nat) (L : Ents) (ρs : List UInt8 → Nat → Value) (hs : List UInt8 → Nat → PH) : Prop where
  hx : x = .map (some r)
  hes : L.map Prod.snd = es
  hr : h r = some (.map (L.map Prod.fst).toArray clock)
  hb : ∀ p, b = some p → p = (L.map (fun q => q.1.born), clock)
  hnd : (L.map fun q => q.1.born).Nodup
  hlt : ∀ q ∈ L, q.1.born < clock
  hkeys : (L.map fun q => q.2.1).Nodup
  hkey : ∀ q ∈ L, q.1.key = keyV q.2.1
  hin : ∀ q ∈ L, (∀ n, out ≠ some (q.2.1, n)) → GEnt F q.2.2 (ρs q.2.1) (hs q.2.1) q.1.val
  hole : ∀ k n, out = some (k, n) → (∃ q ∈ L, q.2.1 = k ∧ q.1.val = ρ n) ∧ ρ n ≠ junk ∧ ∀ j, hs k j = PH.none
  hno : ∀ k, (∀ q ∈ L, q.2.1 ≠ k) → ∀ j, hs k j = PH.none
  hsr : ∀ k j, hs k j r = none
  hh : ∀ b', b' ≠ r → ∀ o, h b' = some o ↔ ∃ k j, hs k j b' = some o
  hd : ∀ k j k' j' b', hs k j b' ≠ none → hs k' j' b' ≠ none → k = k' ∧ j = j'

def gmap (es : List (List UInt8 × List SO)) (out : Option (List UInt8 × Nat)) (b : Option (List Nat × Nat)) : RepR where
  len := some es.length
  R F ρ x h := ∃ r clock L ρs hs, GMapR es out b F ρ x h r clock L ρs hs
  mono F F' ρ ρ' x h hF hr := by
    rintro ⟨r, clock, L, ρs, hs, g⟩
    exact ⟨r, clock, L, ρs, hs, { g with
      hin := fun q hq hn => ⟨fun j o hj => ORel.mono hF (Rle.refl _) ((g.hin q hq hn).obj j o hj), (g.hin q hq hn).out, (g.hin q hq hn).head⟩
      hole := fun k n e => by
        obtain ⟨⟨q, h1, h2, h3⟩, h4, h5⟩ := g.hole k n e
        have := hr n h4
        exact ⟨⟨q, h1, h2, by rw [this]; exact h3⟩, by rw [this]; exact h4, h5⟩ }⟩
  ok F ρ x h := by rintro ⟨r, clock, L, ρs, hs, g⟩; rw [g.hx]; nofun
  lenOk n hn F ρ x h := by
    rintro ⟨r, clock, L, ρs, hs, g⟩
    injection hn with hn
    refine ⟨r, _, clock, g.hx, g.hr, ?_⟩
    rw [← hn, ← g.hes]; simp

def outR (π : Nat → Nat) : Option (List UInt8 × Nat) → Option (List UInt8 × Nat)
  | some (k, n) => some (k, π n)
  | none => none
theorem RepR.ext' {R R' : RepR} (h1 : R.len = R'.len) (h2 : ∀ F ρ x h, R.R F ρ x h ↔ R'.R F ρ x h) : R = R' := by
  obtain ⟨l, r, _, _, _⟩ := R
  obtain ⟨l', r', _, _, _⟩ := R'
  have : r = r' := by funext F ρ x h; exact propext (h2 F ρ x h)
  simp only at h1; subst h1 this; rfl
theorem outR_ne {π : Nat → Nat} {out : Option (List UInt8 × Nat)} {k : List UInt8} : (∀ n, out ≠ some (k, n)) ↔ ∀ n, outR π out ≠ some (k, n) := by
  cases out with
  | none => simp [outR]
  | some p =>
    obtain ⟨k', m⟩ := p
    simp only [outR]
    constructor
    · intro h n e; injection e with e; injection e with e1 e2; exact h m (by rw [e1])
    · intro h n e; injection e with e; injection e with e1 e2; exact h (π m) (by rw [e1])
theorem gmap_ren (π : Nat → Nat) (es : List (List UInt8 × List SO)) (out : Option (List UInt8 × Nat)) (b : Option (List Nat × Nat)) : (gmap es out b).ren π = gmap es (outR π out) b := by
  refine RepR.ext' rfl fun F ρ x h => ?_
  constructor
  · rintro ⟨r, clock, L, ρs, hs, g⟩
    refine ⟨r, clock, L, ρs, hs, { g with hin := fun q hq hn => g.hin q hq (outR_ne.2 hn), hole := fun k n e => ?_ }⟩
    cases out with
    | none => cases e
    | some p => injection e with e; injection e with e1 e2; subst e1 e2; exact g.hole _ _ rfl
  · rintro ⟨r, clock, L, ρs, hs, g⟩
    refine ⟨r, clock, L, ρs, hs, { g with hin := fun q hq hn => g.hin q hq (outR_ne.1 hn), hole := fun k n e => ?_ }⟩
    subst e
    exact g.hole _ _ rfl

/-- The iterator of a range over the map that is object j. -/
def iterR (j since : Nat) (seen : List Nat) : RepR where
  len := none
  R F ρ x h := ∃ r bm, x = .pointer (some ⟨r, 0, none⟩) ∧ ρ j = .map (some bm) ∧ h = PH.sg r (.mapIter (some bm) since seen.toArray since)
  mono F F' ρ ρ' x h hF hr := by
    rintro ⟨r, bm, h1, h2, h3⟩
    exact ⟨r, bm, h1, by rw [hr j (by rw [h2]; nofun)]; exact h2, h3⟩
  ok F ρ x h := by rintro ⟨r, bm, h1, _⟩; rw [h1]; nofun
  lenOk n hn := by cases hn
theorem iterR_ren (π : Nat → Nat) (j since : Nat) (seen : List Nat) : (iterR j since seen).ren π = iterR (π j) since seen := RepR.ext' rfl fun F ρ x h => Iff.rfl

/-! ### Plain association lists -/
section
variable {α : Type}
def mget (es : List (List UInt8 × α)) (k : List UInt8) : Option α := (es.find? fun p => p.1 == k).map (·.2)
def mhas (es : List (List UInt8 × α)) (k : List UInt8) : Bool := es.any fun p => p.1 == k
def mset (es : List (List UInt8 × α)) (k : List UInt8) (v : α) : List (List UInt8 × α) := es.map fun p => if p.1 = k then (k, v) else p
def mput (es : List (List UInt8 × α)) (k : List UInt8) (v : α) : List (List UInt8 × α) := if mhas es k then mset es k v else es ++ [(k, v)]
def mdel (es : List (List UInt8 × α)) (k : List UInt8) : List (List UInt8 × α) := es.filter fun p => p.1 != k
theorem mget_none {es : List (List UInt8 × α)} {k : List UInt8} : mget es k = none ↔ ∀ p ∈ es, p.1 ≠ k := by
  simp [mget]
theorem mhas_iff {es : List (List UInt8 × α)} {k : List UInt8} : mhas es k = true ↔ ∃ p ∈ es, p.1 = k := by simp [mhas]
theorem mget_some {es : List (List UInt8 × α)} {k : List UInt8} {v : α} (hn : (es.map (·.1)).Nodup) (h : (k, v) ∈ es) : mget es k = some v := by
  induction es with
  | nil => cases h
  | cons p es ih =>
    simp only [List.map_cons, List.nodup_cons] at hn
    rcases List.mem_cons.1 h with rfl | h
    · simp [mget]
    · have hne : p.1 ≠ k := fun e => hn.1 (e ▸ List.mem_map.2 ⟨_, h, rfl⟩)
      have := ih hn.2 h
      simpa [mget, hne] using this
end

theorem gfind {L : Ents} (hkey : ∀ q ∈ L, q.1.key = keyV q.2.1) (k : List UInt8) :
    (Instr.findNow .string (keyV k) (L.map Prod.fst) 0 = some none ∧ ∀ q ∈ L, q.2.1 ≠ k) ∨
      ∃ j q, Instr.findNow .string (keyV k) (L.map Prod.fst) 0 = some (some (j, q.1.val)) ∧ L[j]? = some q ∧ q.2.1 = k := by
  rcases MapKept.findNow_spec (d := .string) (k := keyV k) trivial (L.map Prod.fst) 0 (fun x hx => by
      obtain ⟨q, hq, rfl⟩ := List.mem_map.1 hx
      rw [hkey q hq]; trivial) with ⟨h1, h2⟩ | ⟨j, e, h1, h2, h3⟩
  · exact .inl ⟨h1, fun q hq e => h2 q.1 (List.mem_map.2 ⟨q, hq, rfl⟩) (by rw [hkey q hq, e])⟩
  · rw [List.getElem?_map] at h2
    simp only [Option.map_eq_some_iff] at h2
    obtain ⟨q, hq, rfl⟩ := h2
    refine .inr ⟨j, q, by simpa using h1, hq, keyV_inj ?_⟩
    rw [← hkey q (List.mem_of_getElem? hq), h3]

def lkr (c : Bool) (x : SV) (ok : Bool) : SV := match c with | true => .tup [x, .v (.bool ok)] | false => x
def lkv (c : Bool) (x : Value) (ok : Bool) : Value := match c with | true => .tuple #[x, .bool ok] | false => x
theorem lkr_rel {F : PH} {ρ : Nat → Value} (c : Bool) {x : SV} {v : Value} (ok : Bool) (h : VRel F ρ x v) : VRel F ρ (lkr c x ok) (lkv c v ok) := by
  cases c
  · exact h
  · exact ⟨_, rfl, ⟨_, _, rfl, h, _, _, rfl, rfl, rfl⟩⟩
theorem lkv_if (c : Bool) (v : Value) (ok : Bool) : (if c = true then Value.tuple #[v, .bool ok] else v) = lkv c v ok := by cases c <;> rfl

section
variable {C : Cx} {G : Nat → Option (List SV)} {n0 : Nat} {own own2 own3 own' : List SO} {s s' : St} {env env2 env3 : Env} {Q : SV → List SO → Prop} {o : Oper} {K : Env → List SO → Prop} {a : Act}

/-- A plain step: a value, a state. -/
theorem op_ok {v : Value} {sv : SV} {w' : World} {s' : St} (hs : s'.w = w') (hrun : (execOp a.eval o).run C.P s.w = .ok (.value v) w') (hv : VRel s'.F s'.ρ sv v) (hR' : Rel C.G own' s') (hS : Step s s') (hr : Rle s.ρ s'.ρ) (hK : K (env.put o.dst sv) own') :
    o.wp C.P a s.w (LocN C o a s fun sv own' => K (env.put o.dst sv) own') (fun _ _ _ => False) := by
  rw [Oper.wp, hrun]
  exact ⟨v, sv, own', s', rfl, hs, hv, hR', hS, hr, hK⟩
theorem op_skip {w' : World} {s' : St} (hs : s'.w = w') (hrun : (execOp a.eval o).run C.P s.w = .ok .skip w') (hR' : Rel C.G own' s') (hS : Step s s') (hr : Rle s.ρ s'.ρ) (hK : K (env.put o.dst .any) own') :
    o.wp C.P a s.w (LocN C o a s fun sv own' => K (env.put o.dst sv) own') (fun _ _ _ => False) := by
  rw [Oper.wp, hrun]
  exact ⟨undef, .any, own', s', rfl, hs, trivial, hR', hS, hr, hK⟩

open Classical in
/-- What is left of the map's blocks when one key's are taken away. -/
noncomputable def less (h : PH) (hk : Nat → PH) : PH := fun b => if ∃ t, hk t b ≠ none then none else h b

theorem less_some {h : PH} {hk : Nat → PH} {b : Nat} {o : Obj} : less h hk b = some o ↔ (∀ t, hk t b = none) ∧ h b = some o := by
  unfold less
  split
  · rename_i hc
    constructor
    · nofun
    · rintro ⟨h1, _⟩
      obtain ⟨t, ht⟩ := hc
      exact absurd (h1 t) ht
  · rename_i hc
    refine ⟨fun h => ⟨fun t => ?_, h⟩, fun h => h.2⟩
    cases ht : hk t b with
    | none => rfl
    | some x => exact absurd ⟨t, by rw [ht]; nofun⟩ hc
theorem less_ne {h : PH} {hk : Nat → PH} {b : Nat} (hb : less h hk b ≠ none) : (∀ t, hk t b = none) ∧ h b ≠ none := by
  obtain ⟨o, ho⟩ := Option.ne_none_iff_exists'.1 hb
  have := less_some.1 ho
  exact ⟨this.1, by rw [this.2]; nofun⟩

/-- The map's blocks, one key's taken away. -/
theorem GMapR.less {es : List (List UInt8 × List SO)} {b : Option (List Nat × Nat)} {F : PH} {ρ ρ' : Nat → Value} {x : Value} {h : PH} {r clock : Nat} {L : Ents} {ρs : List UInt8 → Nat → Value} {hs : List UInt8 → Nat → PH}
    (g : GMapR es none b F ρ x h r clock L ρs hs) {q : MapEntry × (List UInt8 × List SO)} (hq : q ∈ L) (n : Nat) (hn : ρ' n = q.1.val) (hj : ρ' n ≠ junk) :
    GMapR es (some (q.2.1, n)) b F ρ' x (AM.less h (hs q.2.1)) r clock L ρs (fun k => if k = q.2.1 then fun _ => PH.none else hs k) where
  hx := g.hx
  hes := g.hes
  hr := less_some.2 ⟨fun t => g.hsr _ _, g.hr⟩
  hb := g.hb
  hnd := g.hnd
  hlt := g.hlt
  hkeys := g.hkeys
  hkey := g.hkey
  hin := fun p hp hne => by
    have : p.2.1 ≠ q.2.1 := fun e => hne n (by rw [e])
    simp only [if_neg this]
    exact g.hin p hp nofun
  hole := fun k m e => by
    injection e with e; injection e with e1 e2; subst e1 e2
    exact ⟨⟨q, hq, rfl, hn.symm⟩, hj, fun j => by simp⟩
  hno := fun k hk j => by
    split
    · rfl
    · exact g.hno k hk j
  hsr := fun k j => by
    split
    · rfl
    · exact g.hsr k j
  hh := fun b' hb' o => by
    rw [less_some, g.hh b' hb' o]
    constructor
    · rintro ⟨h1, k, j, h2⟩
      refine ⟨k, j, ?_⟩
      have : k ≠ q.2.1 := by rintro rfl; rw [h1 j] at h2; cases h2
      simp only [if_neg this]; exact h2
    · rintro ⟨k, j, h2⟩
      split at h2
      · cases h2
      · rename_i hne
        refine ⟨fun t => ?_, k, j, h2⟩
        cases hc : hs q.2.1 t b' with
        | none => rfl
        | some y => exact absurd (g.hd k j q.2.1 t b' (by rw [h2]; nofun) (by rw [hc]; nofun)).1 hne
  hd := fun k j k' j' b' h1 h2 => by
    split at h1
    · exact absurd rfl h1
    · split at h2
      · exact absurd rfl h2
      · exact g.hd k j k' j' b' h1 h2

/-- A group is taken out of its map. -/
theorem rel_focus {j : Nat} {es : List (List UInt8 × List SO)} {b : Option (List Nat × Nat)} (hR : Rel G own s) (hj : own[j]? = some (.rep (gmap es none b))) {r clock : Nat} {L : Ents} {ρs : List UInt8 → Nat → Value} {hs : List UInt8 → Nat → PH}
    (g : GMapR es none b s.F s.ρ (s.ρ j) (s.h j) r clock L ρs hs) {q : MapEntry × (List UInt8 × List SO)} (hq : q ∈ L) {T : TypeId} {cs : List SV} (h0 : q.2.2[0]? = some (.cells T cs)) :
    ∃ s', s'.w = s.w ∧ s'.F = s.F ∧ Rle s.ρ s'.ρ ∧ s'.ρ own.length = q.1.val ∧ Rel G (own.set j (.rep (gmap es (some (q.2.1, own.length)) b)) ++ q.2.2.map (renO (own.length + ·))) s' ∧ Step s s' := by
  have ge := g.hin q hq nofun
  have hjl : j < own.length := (List.getElem?_eq_some_iff.1 hj).1
  have hv : q.1.val ≠ junk := by
    obtain ⟨b', vs, e, _⟩ := ge.obj 0 _ h0
    rw [ge.head, e]; nofun
  have hgh : ∀ t b o, hs q.2.1 t b = some o → s.h j b = some o := fun t b o h => by
    have hne : b ≠ r := by rintro rfl; rw [g.hsr] at h; cases h
    exact (g.hh b hne o).2 ⟨_, _, h⟩
  have hgh' : ∀ t b, hs q.2.1 t b ≠ none → s.h j b ≠ none := fun t b h => by
    obtain ⟨o, ho⟩ := Option.ne_none_iff_exists'.1 h
    rw [hgh t b o ho]; nofun
  let ρ' : Nat → Value := fun i => if i < own.length then s.ρ i else ρs q.2.1 (i - own.length)
  let h' : Nat → PH := fun i => if i = j then less (s.h j) (hs q.2.1) else if i < own.length then s.h i else hs q.2.1 (i - own.length)
  have hρ : Rle s.ρ ρ' := by
    intro i hi
    have : i < own.length := by
      rcases Nat.lt_or_ge i own.length with h | h
      · exact h
      · exact absurd (hR.out i h).1 hi
    simp only [ρ', if_pos this]
  have h'j : h' j = less (s.h j) (hs q.2.1) := if_pos rfl
  have h'lt : ∀ i, i < own.length → i ≠ j → h' i = s.h i := fun i h1 h2 => by simp only [h', if_neg h2, if_pos h1]
  have h'ge : ∀ i, own.length ≤ i → h' i = hs q.2.1 (i - own.length) := fun i h1 => by
    have h2 : i ≠ j := by omega
    have h3 : ¬ i < own.length := by omega
    simp only [h', if_neg h2, if_neg h3]
  have hold : ∀ i b, h' i b ≠ none → (i < own.length ∧ s.h i b ≠ none) ∨ (own.length ≤ i ∧ hs q.2.1 (i - own.length) b ≠ none) := by
    intro i b hb
    by_cases e : i = j
    · subst e; rw [h'j] at hb; exact .inl ⟨hjl, (less_ne hb).2⟩
    · rcases Nat.lt_or_ge i own.length with hl | hl
      · rw [h'lt i hl e] at hb; exact .inl ⟨hl, hb⟩
      · rw [h'ge i hl] at hb; exact .inr ⟨hl, hb⟩
  have hρn : ρ' own.length = q.1.val := by simp only [ρ', Nat.lt_irrefl, if_false, Nat.sub_self]; exact ge.head.symm
  have := rel_gen (own' := own.set j (.rep (gmap es (some (q.2.1, own.length)) b)) ++ q.2.2.map (renO (own.length + ·))) hR ρ' h' s.w hρ ?_ ?_ ?_ ?_ ?_ ?_ (Nat.le_refl _) rfl rfl rfl
  · exact ⟨⟨s.F, ρ', h', s.w⟩, rfl, rfl, hρ, hρn, this.1, this.2⟩
  · intro i o hi
    rcases Nat.lt_or_ge i own.length with hl | hl
    · rw [List.getElem?_append_left (by simpa using hl)] at hi
      by_cases e : i = j
      · subst e
        rw [List.getElem?_set_self hl] at hi
        injection hi with hi; subst hi
        right
        have e1 : ρ' i = s.ρ i := by simp only [ρ', if_pos hl]
        rw [e1, h'j]
        exact ⟨r, clock, L, ρs, _, g.less hq own.length hρn (by rw [hρn]; exact hv)⟩
      · rw [List.getElem?_set_ne (Ne.symm e)] at hi
        exact .inl ⟨hi, h'lt i hl e, by simp only [ρ', if_pos hl]⟩
    · rw [List.getElem?_append_right (by simpa using hl)] at hi
      rw [List.length_set, List.getElem?_map] at hi
      simp only [Option.map_eq_some_iff] at hi
      obtain ⟨o', ho', rfl⟩ := hi
      right
      refine (ORel_ren (π := (own.length + ·)) o').2 ?_
      have e1 : (fun t => ρ' (own.length + t)) = ρs q.2.1 := by
        funext t
        have : ¬ own.length + t < own.length := by omega
        simp only [ρ', if_neg this, Nat.add_sub_cancel_left]
      have e2 : ρ' i = ρs q.2.1 (i - own.length) := by
        have : ¬ i < own.length := by omega
        simp only [ρ', if_neg this]
      rw [e1, e2, h'ge i hl]
      exact ge.obj _ _ ho'
  · intro i hi
    simp only [List.length_append, List.length_set, List.length_map] at hi
    have hl : ¬ i < own.length := by omega
    have := ge.out (i - own.length) (by omega)
    refine ⟨by simp only [ρ', if_neg hl]; exact this.1, by rw [h'ge i (by omega)]; exact this.2⟩
  · intro i b hb
    rcases hold i b hb with ⟨_, h⟩ | ⟨_, h⟩
    · exact .inl ⟨i, h⟩
    · exact .inl ⟨j, hgh' _ _ h⟩
  · intro i k b hi hk
    have key : ∀ i k, h' i b ≠ none → h' k b ≠ none → i < own.length → own.length ≤ k → False := by
      intro i k hi hk hil hkl
      rw [h'ge k hkl] at hk
      by_cases e : i = j
      · rw [e, h'j] at hi; exact hk ((less_ne hi).1 _)
      · rw [h'lt i hil e] at hi
        exact e (hR.dd _ _ b hi (hgh' _ _ hk))
    rcases hold i b hi with ⟨il, hi'⟩ | ⟨il, hi'⟩ <;> rcases hold k b hk with ⟨kl, hk'⟩ | ⟨kl, hk'⟩
    · exact hR.dd i k b hi' hk'
    · exact (key i k hi hk il kl).elim
    · exact (key k i hk hi kl il).elim
    · have := (g.hd _ _ _ _ b hi' hk').2; omega
  · intro i b o hb
    by_cases e : i = j
    · subst e; rw [h'j] at hb; exact hR.inh _ _ _ (less_some.1 hb).2
    · rcases Nat.lt_or_ge i own.length with hl | hl
      · rw [h'lt i hl e] at hb; exact hR.inh _ _ _ hb
      · rw [h'ge i hl] at hb; exact hR.inh _ _ _ (hgh _ _ _ hb)
  · intro b _ _; rfl

/-- `x := m[k]`, `x, ok := m[k]`. -/
theorem op_lookup {m x : Operand} {t kt et : TypeId} {c : Bool} {j : Nat} {es : List (List UInt8 × List SO)} {b : Option (List Nat × Nat)} {k : List UInt8}
    (hop : o.op = .lookup t m x c) (ht : C.P.underlying t = some (.map kt et)) (hk : C.P.underlying kt = some .string) (hz : ∀ w, (zeroValue et).run C.P w = .ok (.pointer none) w)
    (hm : ev C env m = .mp j) (hx : ev C env x = .v (keyV k)) (hj : own[j]? = some (.rep (gmap es none b)))
    (hcells : ∀ os, mget es k = some os → ∃ T cs, os[0]? = some (.cells T cs))
    (h0 : mget es k = none → K (env.put o.dst (lkr c (.v (.pointer none)) false)) own)
    (h1 : ∀ os, mget es k = some os → K (env.put o.dst (lkr c (.ptr own.length 0) true)) (own.set j (.rep (gmap es (some (k, own.length)) b)) ++ os.map (renO (own.length + ·)))) :
    OpGoal C o K env own := by
  intro a s hops hR
  have hmv := hops m (by simp [hop, Op.operands])
  have hxv := hops x (by simp [hop, Op.operands])
  rw [hm] at hmv; rw [hx] at hxv
  obtain ⟨r, clock, L, ρs, hs, g⟩ := hR.obj j _ hj
  obtain ⟨r', hr', hmv⟩ := hmv
  rw [g.hx] at hr'; injection hr' with hr'; injection hr' with hr'; subst hr'
  have hxv : a.eval x = keyV k := hxv
  have hheap := hR.inh j r _ g.hr
  rcases gfind g.hkey k with ⟨f1, f2⟩ | ⟨p, q, f1, f2, f3⟩
  · have hn : mget es k = none := by
      rw [mget_none, ← g.hes]
      intro p hp
      obtain ⟨q, hq, rfl⟩ := List.mem_map.1 hp
      exact f2 q hq
    refine op_ok (s' := s) (v := lkv c (.pointer none) false) rfl ?_ (lkr_rel c false (show VRel _ _ (.v _) _ from rfl)) hR (Step.refl s) (Rle.refl _) (h0 hn)
    simp [execOp, hop, hmv, hxv, Instr.lookup, run_underlying ht, MapKept.run_getObj_map hheap, MapKept.run_checkKey hk (k := keyV k) trivial, MapKept.run_findKey hk f1, hz, Result.andThen, lkv_if]
  · have hqL := List.mem_of_getElem? f2
    have hg : mget es k = some q.2.2 := by
      refine mget_some ?_ ?_
      · rw [← g.hes, List.map_map]; exact g.hkeys
      · rw [← g.hes, ← f3]; exact List.mem_map.2 ⟨q, hqL, rfl⟩
    obtain ⟨T, cs, hc⟩ := hcells _ hg
    obtain ⟨s', e1, e2, e3, e4, e5, e6⟩ := rel_focus hR hj g hqL hc
    rw [f3] at e5
    have hvp : ∃ b, q.1.val = .pointer (some ⟨b, 0, none⟩) := by
      obtain ⟨b', vs, e, _⟩ := (g.hin q hqL nofun).obj 0 _ hc
      exact ⟨b', by rw [(g.hin q hqL nofun).head]; exact e⟩
    obtain ⟨b', hb'⟩ := hvp
    refine op_ok (s' := s') (v := lkv c q.1.val true) e1 ?_ (lkr_rel c true (show VRel _ _ (.ptr own.length 0) _ from ⟨b', by rw [e4]; exact hb', hb'⟩)) e5 e6 e3 (h1 _ hg)
    simp [execOp, hop, hmv, hxv, Instr.lookup, run_underlying ht, MapKept.run_getObj_map hheap, MapKept.run_checkKey hk (k := keyV k) trivial, MapKept.run_findKey hk f1, Result.andThen, lkv_if]

/-- The same key once more. -/
theorem op_lookup_same {m x : Operand} {t kt et : TypeId} {c : Bool} {j n : Nat} {es : List (List UInt8 × List SO)} {b : Option (List Nat × Nat)} {k : List UInt8} {T : TypeId} {cs : List SV}
    (hop : o.op = .lookup t m x c) (ht : C.P.underlying t = some (.map kt et)) (hk : C.P.underlying kt = some .string)
    (hm : ev C env m = .mp j) (hx : ev C env x = .v (keyV k)) (hj : own[j]? = some (.rep (gmap es (some (k, n)) b))) (hn : own[n]? = some (.cells T cs))
    (h1 : K (env.put o.dst (lkr c (.ptr n 0) true)) own) : OpGoal C o K env own := by
  intro a s hops hR
  have hmv := hops m (by simp [hop, Op.operands])
  have hxv := hops x (by simp [hop, Op.operands])
  rw [hm] at hmv; rw [hx] at hxv
  obtain ⟨r, clock, L, ρs, hs, g⟩ := hR.obj j _ hj
  obtain ⟨r', hr', hmv⟩ := hmv
  rw [g.hx] at hr'; injection hr' with hr'; injection hr' with hr'; subst hr'
  have hxv : a.eval x = keyV k := hxv
  have hheap := hR.inh j r _ g.hr
  obtain ⟨⟨q0, hq0, hk0, hv0⟩, hjk, _⟩ := g.hole k n rfl
  rcases gfind g.hkey k with ⟨f1, f2⟩ | ⟨p, q, f1, f2, f3⟩
  · exact absurd hk0 (f2 q0 hq0)
  · have hqL := List.mem_of_getElem? f2
    have hqq : q = q0 := by
      obtain ⟨i, hi, ei⟩ := List.getElem_of_mem hq0
      obtain ⟨i', ei'⟩ := List.getElem?_eq_some_iff.1 f2
      have hnd := g.hkeys
      have : p = i := by
        refine (List.getElem_inj hnd (h₀ := by simpa using i') (h₁ := by simpa using hi)).1 ?_
        simp only [List.getElem_map, ei', ei, f3, hk0]
      subst this; rw [← ei', ← ei]
    subst hqq
    obtain ⟨b', vs, e, _⟩ := hR.obj n _ hn
    refine op_ok (s' := s) (v := lkv c q.1.val true) rfl ?_ (lkr_rel c true (show VRel _ _ (.ptr n 0) _ from ⟨b', e, by rw [hv0]; exact e⟩)) hR (Step.refl s) (Rle.refl _) h1
    simp [execOp, hop, hmv, hxv, Instr.lookup, run_underlying ht, MapKept.run_getObj_map hheap, MapKept.run_checkKey hk (k := keyV k) trivial, MapKept.run_findKey hk f1, Result.andThen, lkv_if]
end
end Go.AM
namespace Go.AM
open Go
set_option autoImplicit false
set_option linter.unusedVariables false

section
variable {C : Cx} {G : Nat → Option (List SV)} {n0 : Nat} {own own2 own3 own' : List SO} {s s' : St} {env env2 env3 : Env} {Q : SV → List SO → Prop} {o : Oper} {K : Env → List SO → Prop} {a : Act}

/-! ### A group is put back -/
open Classical in
noncomputable def joined (s : St) (j : Nat) (idx : List Nat) : PH := fun b => match s.h j b with
  | some o => some o
  | none => if ∃ i ∈ idx, s.h i b ≠ none then s.w.heap[b]? else none
theorem joined_some (hR : Rel G own s) {j : Nat} {idx : List Nat} {b : Nat} {o : Obj} (h : joined s j idx b = some o) : s.h j b = some o ∨ ∃ i ∈ idx, s.h i b = some o := by
  unfold joined at h
  split at h
  · rename_i x hx; injection h with h; subst h; exact .inl hx
  · split at h
    · rename_i hc
      obtain ⟨i, hi, hb⟩ := hc
      obtain ⟨o', ho'⟩ := Option.ne_none_iff_exists'.1 hb
      have := hR.inh i b o' ho'
      rw [h] at this; injection this with this; subst this
      exact .inr ⟨i, hi, ho'⟩
    · cases h
theorem joined_own {j : Nat} {idx : List Nat} {b : Nat} {o : Obj} (h : s.h j b = some o) : joined s j idx b = some o := by unfold joined; rw [h]
theorem joined_idx (hR : Rel G own s) {j : Nat} {idx : List Nat} (hji : j ∉ idx) {i b : Nat} (hi : i ∈ idx) {o : Obj} (h : s.h i b = some o) : joined s j idx b = some o := by
  unfold joined
  have hn : s.h j b = none := by
    cases hc : s.h j b with
    | none => rfl
    | some x => have := hR.dd i j b (by rw [h]; nofun) (by rw [hc]; nofun); subst this; exact absurd hi hji
  rw [hn]
  simp only
  rw [if_pos ⟨i, hi, by rw [h]; nofun⟩]
  exact hR.inh i b o h

theorem pack_rule {j n : Nat} {es : List (List UInt8 × List SO)} {b : Option (List Nat × Nat)} {k : List UInt8} {os : List SO} {idx : List Nat}
    (hj : own[j]? = some (.rep (gmap es (some (k, n)) b))) (h0 : idx[0]? = some n) (hnd : noDup idx = true) (hji : idx.contains j = false) (hO : okO own (pick idx own.length) os idx) :
    RedS G own (goneAll (own.set j (.rep (gmap (mset es k os) none b))) idx) := by
  intro s hR
  have hN := noDup_spec hnd
  have hji : j ∉ idx := by simpa using hji
  obtain ⟨hlen, hget⟩ := okO_get hO
  have hjl : j < own.length := (List.getElem?_eq_some_iff.1 hj).1
  obtain ⟨r, clock, L, ρs, hs, g⟩ := hR.obj j _ hj
  obtain ⟨⟨q0, hq0, hk0, hv0⟩, hjk, hknone⟩ := g.hole k n rfl
  have hpk : ∀ t i, idx[t]? = some i → pick idx own.length t = i := fun t i h => by simp [pick, List.getD_eq_getElem?_getD, h]
  have hpo : ∀ t, idx.length ≤ t → pick idx own.length t = own.length := fun t h => pick_ge h
  have hnone : s.h own.length = PH.none := (hR.out _ (Nat.le_refl _)).2
  have hpl : ∀ t b, s.h (pick idx own.length t) b ≠ none → t < idx.length ∧ pick idx own.length t ∈ idx := fun t b h => by
    rcases Nat.lt_or_ge t idx.length with hl | hl
    · refine ⟨hl, ?_⟩
      rw [hpk t _ (List.getElem?_eq_getElem hl)]; exact List.getElem_mem hl
    · rw [hpo t hl, hnone] at h; exact absurd rfl h
  have hgj : ∀ k t b, hs k t b ≠ none → s.h j b ≠ none := fun k t b h => by
    obtain ⟨o, ho⟩ := Option.ne_none_iff_exists'.1 h
    have hne : b ≠ r := by rintro rfl; rw [g.hsr] at ho; cases ho
    rw [(g.hh b hne o).2 ⟨_, _, ho⟩]; nofun
  let f : MapEntry × (List UInt8 × List SO) → MapEntry × (List UInt8 × List SO) := fun q => (q.1, if q.2.1 = k then (k, os) else q.2)
  have hf1 : ∀ q, (f q).1 = q.1 := fun q => rfl
  have hf2 : ∀ q, (f q).2.1 = q.2.1 := fun q => by simp only [f]; split; · rename_i e; exact e.symm
                                                   · rfl
  let ρs' : List UInt8 → Nat → Value := fun k' => if k' = k then fun t => s.ρ (pick idx own.length t) else ρs k'
  let hs' : List UInt8 → Nat → PH := fun k' => if k' = k then fun t => s.h (pick idx own.length t) else hs k'
  have hs'k : hs' k = fun t => s.h (pick idx own.length t) := if_pos rfl
  have hs'n : ∀ k', k' ≠ k → hs' k' = hs k' := fun k' h => if_neg h
  have ρs'k : ρs' k = fun t => s.ρ (pick idx own.length t) := if_pos rfl
  have ρs'n : ∀ k', k' ≠ k → ρs' k' = ρs k' := fun k' h => if_neg h
  have hborn : (L.map f).map (fun q => q.1.born) = L.map (fun q => q.1.born) := by rw [List.map_map]; rfl
  have hkk : (L.map f).map (fun q => q.2.1) = L.map (fun q => q.2.1) := by rw [List.map_map]; exact List.map_congr_left fun q _ => hf2 q
  have gm : GMapR (mset es k os) none b s.F s.ρ (s.ρ j) (joined s j idx) r clock (L.map f) ρs' hs' := by
    refine ⟨g.hx, ?_, ?_, ?_, ?_, ?_, ?_, ?_, ?_, nofun, ?_, ?_, ?_, ?_⟩
    · rw [← g.hes, mset, List.map_map, List.map_map]; rfl
    · rw [List.map_map]; exact joined_own g.hr
    · intro p hp; rw [hborn]; exact g.hb p hp
    · rw [hborn]; exact g.hnd
    · intro q hq; obtain ⟨q', hq', rfl⟩ := List.mem_map.1 hq; exact g.hlt q' hq'
    · rw [hkk]; exact g.hkeys
    · intro q hq; obtain ⟨q', hq', rfl⟩ := List.mem_map.1 hq; rw [hf2]; exact g.hkey q' hq'
    · intro q hq _
      obtain ⟨q', hq', rfl⟩ := List.mem_map.1 hq
      by_cases e : q'.2.1 = k
      · have e2 : (f q').2 = (k, os) := by simp only [f, if_pos e]
        rw [e2, ρs'k, hs'k]
        refine ⟨?_, ?_, ?_⟩
        · intro t o ho
          obtain ⟨i, hi, hio⟩ := hget t o ho
          rw [hpk t i hi]
          exact (ORel_ren (π := pick idx own.length) o).1 (hR.obj i _ hio)
        · intro t ht
          rw [hpo t (by simp only at ht; omega)]
          exact hR.out _ (Nat.le_refl _)
        · show q'.1.val = s.ρ (pick idx own.length 0)
          rw [hpk 0 n h0, ← hv0]
          have : q' = q0 := by
            obtain ⟨i, hi, ei⟩ := List.getElem_of_mem hq'
            obtain ⟨i0, hi0, ei0⟩ := List.getElem_of_mem hq0
            have : i = i0 := by
              refine (List.getElem_inj g.hkeys (h₀ := by simpa using hi) (h₁ := by simpa using hi0)).1 ?_
              simp only [List.getElem_map, ei, ei0, e, hk0]
            subst this; rw [← ei, ← ei0]
          rw [this]
      · have e2 : (f q').2 = q'.2 := by simp only [f, if_neg e]
        rw [e2, ρs'n _ e, hs'n _ e]
        exact g.hin q' hq' (fun m h => by injection h with h; injection h with h1 h2; exact e h1.symm)
    · intro k' hk' t
      have hne : k' ≠ k := by
        rintro rfl
        exact hk' (f q0) (List.mem_map.2 ⟨q0, hq0, rfl⟩) (by rw [hf2]; exact hk0)
      rw [hs'n _ hne]
      refine g.hno k' (fun q hq e => hk' (f q) (List.mem_map.2 ⟨q, hq, rfl⟩) (by rw [hf2]; exact e)) t
    · intro k' t
      by_cases e : k' = k
      · subst e
        rw [hs'k]
        show s.h _ r = none
        cases hc : s.h (pick idx own.length t) r with
        | none => rfl
        | some x =>
          have := hR.dd _ j r (show s.h (pick idx own.length t) r ≠ none by rw [hc]; nofun) (by rw [g.hr]; nofun)
          exact absurd (this ▸ (hpl t r (by rw [hc]; nofun)).2) hji
      · rw [hs'n _ e]; exact g.hsr k' t
    · intro b' hb' o
      constructor
      · intro h
        rcases joined_some hR h with h | ⟨i, hi, h⟩
        · obtain ⟨k', t, hkt⟩ := (g.hh b' hb' o).1 h
          have hne : k' ≠ k := by rintro rfl; rw [hknone] at hkt; cases hkt
          exact ⟨k', t, by rw [hs'n _ hne]; exact hkt⟩
        · obtain ⟨t, ht, et⟩ := List.getElem_of_mem hi
          refine ⟨k, t, ?_⟩
          rw [hs'k]
          show s.h (pick idx own.length t) b' = some o
          rw [hpk t i (by rw [List.getElem?_eq_getElem ht, et])]; exact h
      · rintro ⟨k', t, h⟩
        by_cases e : k' = k
        · subst e
          rw [hs'k] at h
          exact joined_idx hR hji (hpl t b' (by rw [show s.h (pick idx own.length t) b' = some o from h]; nofun)).2 h
        · rw [hs'n _ e] at h
          exact joined_own ((g.hh b' hb' o).2 ⟨_, _, h⟩)
    · intro k1 t1 k2 t2 b' h1 h2
      by_cases e1 : k1 = k <;> by_cases e2 : k2 = k
      · subst e1; subst e2
        rw [hs'k] at h1 h2
        have := hR.dd _ _ b' h1 h2
        have l1 := (hpl t1 b' h1).1
        have l2 := (hpl t2 b' h2).1
        rw [pick_lt l1, pick_lt l2] at this
        exact ⟨rfl, (List.getElem_inj hN).1 this⟩
      · subst e1
        rw [hs'k] at h1; rw [hs'n _ e2] at h2
        have := hR.dd _ _ b' h1 (hgj _ _ _ h2)
        exact absurd (this ▸ (hpl t1 b' h1).2) hji
      · subst e2
        rw [hs'k] at h2; rw [hs'n _ e1] at h1
        have := hR.dd _ _ b' h2 (hgj _ _ _ h1)
        exact absurd (this ▸ (hpl t2 b' h2).2) hji
      · rw [hs'n _ e1] at h1; rw [hs'n _ e2] at h2
        exact g.hd _ _ _ _ b' h1 h2
  let h' : Nat → PH := fun i => if i = j then joined s j idx else if i ∈ idx then PH.none else s.h i
  have h'j : h' j = joined s j idx := if_pos rfl
  have h'i : ∀ i, i ∈ idx → h' i = PH.none := fun i hi => by
    have : i ≠ j := by rintro rfl; exact hji hi
    simp only [h', if_neg this, if_pos hi]
  have h'n : ∀ i, i ≠ j → i ∉ idx → h' i = s.h i := fun i h1 h2 => by simp only [h', if_neg h1, if_neg h2]
  have hold : ∀ i b, h' i b ≠ none → (i = j ∧ (s.h j b ≠ none ∨ ∃ i ∈ idx, s.h i b ≠ none)) ∨ (i ≠ j ∧ i ∉ idx ∧ s.h i b ≠ none) := by
    intro i b hb
    by_cases e : i = j
    · subst e
      rw [h'j] at hb
      obtain ⟨o, ho⟩ := Option.ne_none_iff_exists'.1 hb
      rcases joined_some hR ho with h | ⟨i', hi', h⟩
      · exact .inl ⟨rfl, .inl (by rw [h]; nofun)⟩
      · exact .inl ⟨rfl, .inr ⟨i', hi', by rw [h]; nofun⟩⟩
    · by_cases e2 : i ∈ idx
      · rw [h'i i e2] at hb; exact absurd rfl hb
      · rw [h'n i e e2] at hb; exact .inr ⟨e, e2, hb⟩
  have hany : ∀ i b, h' i b ≠ none → ∃ i', s.h i' b ≠ none := by
    intro i b hb
    rcases hold i b hb with ⟨_, h | ⟨i', _, h⟩⟩ | ⟨_, _, h⟩
    · exact ⟨_, h⟩
    · exact ⟨_, h⟩
    · exact ⟨_, h⟩
  refine ⟨⟨s.F, s.ρ, h', s.w⟩, rfl, rfl, ⟨?_, ?_, ?_, ?_, hR.inF, ?_, hR.glob⟩, ⟨PHle.refl _, Nat.le_refl _, rfl, rfl, rfl, fun _ _ _ => rfl, ?_⟩⟩
  · intro i o hi
    rw [goneAll_get] at hi
    by_cases e2 : i ∈ idx
    · rw [if_pos e2] at hi
      simp only [Option.map_eq_some_iff] at hi
      obtain ⟨_, _, rfl⟩ := hi
      exact h'i i e2
    · rw [if_neg e2] at hi
      by_cases e : i = j
      · subst e
        rw [List.getElem?_set_self hjl] at hi
        injection hi with hi; subst hi
        show (gmap _ _ _).R s.F s.ρ (s.ρ i) (h' i)
        rw [h'j]
        exact ⟨_, _, _, _, _, gm⟩
      · rw [List.getElem?_set_ne (Ne.symm e)] at hi
        show ORel s.F s.ρ (s.ρ i) o (h' i)
        rw [h'n i e e2]
        exact hR.obj i o hi
  · intro i hi
    rw [goneAll_length, List.length_set] at hi
    have e : i ≠ j := by omega
    refine ⟨(hR.out i hi).1, ?_⟩
    by_cases e2 : i ∈ idx
    · exact h'i i e2
    · show h' i = _
      rw [h'n i e e2]; exact (hR.out i hi).2
  · intro i b hb
    obtain ⟨i', h⟩ := hany i b hb
    exact hR.dF i' b h
  · intro i i2 b h1 h2
    rcases hold i b h1 with ⟨rfl, h1'⟩ | ⟨e1, e1', h1'⟩ <;> rcases hold i2 b h2 with ⟨e2, h2'⟩ | ⟨e2, e2', h2'⟩
    · exact e2.symm
    · rcases h1' with h1' | ⟨i', hi', h1'⟩
      · exact absurd (hR.dd _ _ b h2' h1') e2
      · exact absurd (hR.dd _ _ b h2' h1' ▸ hi') e2'
    · rcases h2' with h2' | ⟨i', hi', h2'⟩
      · exact absurd (hR.dd _ _ b h1' h2') e1
      · exact absurd (hR.dd _ _ b h1' h2' ▸ hi') e1'
    · exact hR.dd _ _ b h1' h2'
  · intro i b o hb
    by_cases e : i = j
    · subst e
      rw [show (⟨s.F, s.ρ, h', s.w⟩ : St).h i = joined s i idx from h'j] at hb
      rcases joined_some hR hb with h | ⟨i', _, h⟩
      · exact hR.inh _ _ _ h
      · exact hR.inh _ _ _ h
    · by_cases e2 : i ∈ idx
      · rw [show (⟨s.F, s.ρ, h', s.w⟩ : St).h i = PH.none from h'i i e2] at hb; cases hb
      · rw [show (⟨s.F, s.ρ, h', s.w⟩ : St).h i = s.h i from h'n i e e2] at hb; exact hR.inh _ _ _ hb
  · intro b _ h
    rcases h with h | ⟨i, h⟩
    · exact .inl h
    · obtain ⟨i', h⟩ := hany i b h
      exact .inr ⟨i', h⟩
end
end Go.AM
namespace Go.AM
open Go
set_option autoImplicit false
set_option linter.unusedVariables false

section
variable {C : Cx} {G : Nat → Option (List SV)} {n0 : Nat} {own own2 own3 own' : List SO} {s s' : St} {env env2 env3 : Env} {Q : SV → List SO → Prop} {o : Oper} {K : Env → List SO → Prop} {a : Act}

/-! ### A map's own block is written -/
noncomputable def hturn (h : PH) (r : Nat) (ob : Obj) (hk : Nat → PH) : PH := fun b => if b = r then some ob else less h hk b
theorem hturn_r {h : PH} {r : Nat} {ob : Obj} {hk : Nat → PH} : hturn h r ob hk r = some ob := if_pos rfl
theorem hturn_n {h : PH} {r b : Nat} {ob : Obj} {hk : Nat → PH} (hb : b ≠ r) : hturn h r ob hk b = less h hk b := if_neg hb

theorem rel_mapturn {j r : Nat} {R R' : RepR} {ob ob' : Obj} {hk : Nat → PH} (hR : Rel G own s) (hj : own[j]? = some (.rep R)) (hr : s.h j r = some ob) (hnew : R'.R s.F s.ρ (s.ρ j) (hturn (s.h j) r ob' hk)) :
    ∃ s', s'.w = { s.w with heap := s.w.heap.setIfInBounds r ob' } ∧ s'.F = s.F ∧ s'.ρ = s.ρ ∧ Rel G (own.set j (.rep R')) s' ∧ Step s s' := by
  have hjl : j < own.length := (List.getElem?_eq_some_iff.1 hj).1
  have hheap := hR.inh j r ob hr
  have hrl : r < s.w.heap.size := (Array.getElem?_eq_some_iff.1 hheap).1
  have hold : ∀ i b, upd s.h j (hturn (s.h j) r ob' hk) i b ≠ none → s.h i b ≠ none := by
    intro i b hb
    by_cases e : i = j
    · subst e
      rw [upd_same] at hb
      by_cases e2 : b = r
      · subst e2; rw [hr]; nofun
      · rw [hturn_n e2] at hb; exact (less_ne hb).2
    · rw [upd_ne _ _ e] at hb; exact hb
  have := rel_gen (own' := own.set j (.rep R')) hR s.ρ (upd s.h j (hturn (s.h j) r ob' hk)) { s.w with heap := s.w.heap.setIfInBounds r ob' } (Rle.refl _) ?_ ?_ ?_ ?_ ?_ ?_ (by simp) rfl rfl rfl
  · exact ⟨⟨s.F, s.ρ, upd s.h j (hturn (s.h j) r ob' hk), { s.w with heap := s.w.heap.setIfInBounds r ob' }⟩, rfl, rfl, rfl, this.1, this.2⟩
  · intro i o hi
    by_cases e : i = j
    · subst e
      rw [List.getElem?_set_self hjl] at hi
      injection hi with hi; subst hi
      right; rw [upd_same]; exact hnew
    · rw [List.getElem?_set_ne (Ne.symm e)] at hi
      exact .inl ⟨hi, upd_ne _ _ e, rfl⟩
  · intro i hi
    rw [List.length_set] at hi
    rw [upd_ne _ _ (by omega)]
    exact hR.out i hi
  · intro i b hb; exact .inl ⟨i, hold i b hb⟩
  · intro i i2 b h1 h2; exact hR.dd _ _ b (hold _ _ h1) (hold _ _ h2)
  · intro i b o hb
    by_cases e : i = j
    · subst e
      rw [upd_same] at hb
      by_cases e2 : b = r
      · subst e2
        rw [hturn_r] at hb; injection hb with hb; subst hb
        simp [hrl]
      · rw [hturn_n e2] at hb
        have := hR.inh _ _ _ (less_some.1 hb).2
        rw [← this]; simp [Ne.symm e2]
    · rw [upd_ne _ _ e] at hb
      have hne : b ≠ r := by rintro rfl; exact e (hR.dd _ _ b (by rw [hb]; nofun) (by rw [hr]; nofun))
      have := hR.inh _ _ _ hb
      rw [← this]; simp [Ne.symm hne]
  · intro b _ hno
    have hne : b ≠ r := by rintro rfl; rw [hno j] at hr; cases hr
    simp [Ne.symm hne]

theorem hh_turn {es : List (List UInt8 × List SO)} {out : Option (List UInt8 × Nat)} {b : Option (List Nat × Nat)} {F : PH} {ρ : Nat → Value} {x : Value} {h : PH} {r clock : Nat} {L : Ents} {ρs : List UInt8 → Nat → Value} {hs : List UInt8 → Nat → PH}
    (g : GMapR es out b F ρ x h r clock L ρs hs) (k : List UInt8) (ob : Obj) (b' : Nat) (hb' : b' ≠ r) (o : Obj) :
    hturn h r ob (hs k) b' = some o ↔ ∃ k' t, (if k' = k then fun _ => PH.none else hs k') t b' = some o := by
  rw [hturn_n hb', less_some, g.hh b' hb' o]
  constructor
  · rintro ⟨h1, k', t, h2⟩
    have : k' ≠ k := by rintro rfl; rw [h1 t] at h2; cases h2
    exact ⟨k', t, by rw [if_neg this]; exact h2⟩
  · rintro ⟨k', t, h2⟩
    split at h2
    · cases h2
    · rename_i hne
      refine ⟨fun t' => ?_, k', t, h2⟩
      cases hc : hs k t' b' with
      | none => rfl
      | some y => exact absurd (g.hd k' t k t' b' (by rw [h2]; nofun) (by rw [hc]; nofun)).1 hne
theorem hd_turn {es : List (List UInt8 × List SO)} {out : Option (List UInt8 × Nat)} {b : Option (List Nat × Nat)} {F : PH} {ρ : Nat → Value} {x : Value} {h : PH} {r clock : Nat} {L : Ents} {ρs : List UInt8 → Nat → Value} {hs : List UInt8 → Nat → PH}
    (g : GMapR es out b F ρ x h r clock L ρs hs) (k : List UInt8) : ∀ k1 t1 k2 t2 b', (if k1 = k then fun _ => PH.none else hs k1) t1 b' ≠ none → (if k2 = k then fun _ => PH.none else hs k2) t2 b' ≠ none → k1 = k2 ∧ t1 = t2 := by
  intro k1 t1 k2 t2 b' h1 h2
  split at h1
  · exact absurd rfl h1
  · split at h2
    · exact absurd rfl h2
    · exact g.hd _ _ _ _ b' h1 h2

/-! ### Lists of entries -/
theorem map_modify (L : Ents) (p : Nat) (q : MapEntry × (List UInt8 × List SO)) (k : List UInt8) (hq : L[p]? = some q) (hk : q.2.1 = k) (hn : (L.map fun q => q.2.1).Nodup) (f : MapEntry → MapEntry) (os : List SO) :
    ((L.map Prod.fst).toArray.modify p f).toList = (L.map fun q => if q.2.1 = k then (f q.1, (k, os)) else q).map Prod.fst := by
  rw [Array.toList_modify]
  apply List.ext_getElem?
  intro i
  rw [List.getElem?_modify, List.getElem?_map, List.getElem?_map, List.getElem?_map]
  cases hi : L[i]? with
  | none => simp
  | some q' =>
    simp only [Option.map_some]
    by_cases e : p = i
    · subst e
      rw [hq] at hi; injection hi with hi; subst hi
      simp [hk]
    · have hne : q'.2.1 ≠ k := by
        intro hk'
        obtain ⟨h1, e1⟩ := List.getElem?_eq_some_iff.1 hq
        obtain ⟨h2, e2⟩ := List.getElem?_eq_some_iff.1 hi
        refine e ((List.getElem_inj hn (h₀ := by simpa using h1) (h₁ := by simpa using h2)).1 ?_)
        simp only [List.getElem_map, e1, e2, hk, hk']
      simp [e, hne]
theorem filter_erase : ∀ (L : Ents) (p : Nat) (q : MapEntry × (List UInt8 × List SO)) (k : List UInt8) (hq : L[p]? = some q) (hk : q.2.1 = k) (hn : (L.map fun q => q.2.1).Nodup), L.filter (fun q => q.2.1 != k) = L.eraseIdx p
  | [], p, q, k, hq, _, _ => by simp at hq
  | a :: L, 0, q, k, hq, hk, hn => by
    simp at hq; subst hq
    simp only [List.map_cons, List.nodup_cons] at hn
    have : L.filter (fun q => q.2.1 != k) = L := List.filter_eq_self.2 fun q' hq' => by
      have : q'.2.1 ≠ k := fun e => hn.1 (by rw [hk, ← e]; exact List.mem_map.2 ⟨q', hq', rfl⟩)
      simpa using this
    simp [hk, this]
  | a :: L, p + 1, q, k, hq, hk, hn => by
    simp only [List.map_cons, List.nodup_cons] at hn
    have hq' : L[p]? = some q := by simpa using hq
    have hne : a.2.1 ≠ k := fun e => hn.1 (by rw [e, ← hk]; exact List.mem_map.2 ⟨q, List.mem_of_getElem? hq', rfl⟩)
    simp [hne, filter_erase L p q k hq' hk hn.2]
theorem map_eraseIdx' {α β : Type} (f : α → β) : ∀ (l : List α) (p : Nat), (l.map f).eraseIdx p = (l.eraseIdx p).map f
  | [], p => by simp
  | a :: l, 0 => by simp
  | a :: l, p + 1 => by simp [map_eraseIdx' f l p]
theorem filter_none {L : Ents} {k : List UInt8} (h : ∀ q ∈ L, q.2.1 ≠ k) : L.filter (fun q => q.2.1 != k) = L :=
  List.filter_eq_self.2 fun q' hq' => by simpa using h q' hq'
theorem mhas_L {L : Ents} {es : List (List UInt8 × List SO)} (h : L.map Prod.snd = es) (k : List UInt8) : mhas es k = true ↔ ∃ q ∈ L, q.2.1 = k := by
  rw [mhas_iff, ← h]
  constructor
  · rintro ⟨p, hp, e⟩; obtain ⟨q, hq, rfl⟩ := List.mem_map.1 hp; exact ⟨q, hq, e⟩
  · rintro ⟨q, hq, e⟩; exact ⟨q.2, List.mem_map.2 ⟨q, hq, rfl⟩, e⟩

/-- `m[k] = p`. -/
theorem op_mapUpdate {m x y : Operand} {t kt et : TypeId} {j n : Nat} {es : List (List UInt8 × List SO)} {k : List UInt8} {T : TypeId} {cs : List SV}
    (hop : o.op = .mapUpdate t m x y) (ht : C.P.underlying t = some (.map kt et)) (hk : C.P.underlying kt = some .string)
    (hm : ev C env m = .mp j) (hx : ev C env x = .v (keyV k)) (hy : ev C env y = .ptr n 0) (hj : own[j]? = some (.rep (gmap es none none))) (hn : own[n]? = some (.cells T cs))
    (h1 : K (env.put o.dst .any) (own.set j (.rep (gmap (mput es k []) (some (k, n)) none)))) : OpGoal C o K env own := by
  intro a s hops hR
  have hmv := hops m (by simp [hop, Op.operands])
  have hxv := hops x (by simp [hop, Op.operands])
  have hyv := hops y (by simp [hop, Op.operands])
  rw [hm] at hmv; rw [hx] at hxv; rw [hy] at hyv
  obtain ⟨r, clock, L, ρs, hs, g⟩ := hR.obj j _ hj
  obtain ⟨r', hr', hmv⟩ := hmv
  rw [g.hx] at hr'; injection hr' with hr'; injection hr' with hr'; subst hr'
  have hxv : a.eval x = keyV k := hxv
  have hheap := hR.inh j r _ g.hr
  obtain ⟨bn, hρn, hyv⟩ := hyv
  have hjk : s.ρ n ≠ junk := by rw [hρn]; nofun
  rcases gfind g.hkey k with ⟨f1, f2⟩ | ⟨p, q, f1, f2, f3⟩
  · have hput : mput es k [] = es ++ [(k, [])] := by
      have : mhas es k = false := by
        cases h : mhas es k with
        | false => rfl
        | true => obtain ⟨q, hq, e⟩ := (mhas_L g.hes k).1 h; exact absurd e (f2 q hq)
      simp [mput, this]
    have hnew : (gmap (mput es k []) (some (k, n)) none).R s.F s.ρ (s.ρ j) (hturn (s.h j) r (.map ((L.map Prod.fst).toArray.push ⟨keyV k, a.eval y, clock⟩) (clock + 1)) (hs k)) := by
      refine ⟨r, clock + 1, L ++ [(⟨keyV k, a.eval y, clock⟩, (k, []))], ρs, fun k' => if k' = k then fun _ => PH.none else hs k', g.hx, ?_, ?_, nofun, ?_, ?_, ?_, ?_, ?_, ?_, ?_, ?_, hh_turn g k _, hd_turn g k⟩
      · rw [hput, ← g.hes]; simp
      · rw [hturn_r]; simp
      · rw [List.map_append, List.nodup_append]
        refine ⟨g.hnd, by simp, ?_⟩
        intro x hx y hy
        obtain ⟨q, hq, rfl⟩ := List.mem_map.1 hx
        simp at hy; subst hy
        have := g.hlt q hq; omega
      · intro q hq
        rcases List.mem_append.1 hq with hq | hq
        · have := g.hlt q hq; omega
        · simp at hq; subst hq; simp
      · rw [List.map_append, List.nodup_append]
        refine ⟨g.hkeys, by simp, ?_⟩
        intro x hx y hy
        obtain ⟨q, hq, rfl⟩ := List.mem_map.1 hx
        simp at hy; subst hy
        exact f2 q hq
      · intro q hq
        rcases List.mem_append.1 hq with hq | hq
        · exact g.hkey q hq
        · simp at hq; subst hq; rfl
      · intro q hq hne
        rcases List.mem_append.1 hq with hq | hq
        · have : q.2.1 ≠ k := f2 q hq
          simp only [if_neg this]; exact g.hin q hq nofun
        · simp at hq; subst hq; exact absurd rfl (hne n)
      · intro k' m e
        injection e with e; injection e with e1 e2; subst e1 e2
        refine ⟨⟨(⟨keyV k, a.eval y, clock⟩, (k, [])), by simp, rfl, ?_⟩, hjk, fun t => by simp⟩
        show a.eval y = s.ρ n
        rw [hρn]; exact hyv
      · intro k' hk' t
        split
        · rfl
        · exact g.hno k' (fun q hq => hk' q (by simp [hq])) t
      · intro k' t
        split
        · rfl
        · exact g.hsr k' t
    obtain ⟨s', e1, e2, e3, e4, e5⟩ := rel_mapturn hR hj g.hr hnew
    · refine op_skip (s' := s') e1 ?_ e4 e5 (by rw [e3]; exact Rle.refl _) h1
      simp [execOp, hop, hmv, hxv, Instr.mapUpdate, run_underlying ht, MapKept.run_getObj_map hheap, MapKept.run_checkKey hk (k := keyV k) trivial, MapKept.run_findKey hk f1, MapKept.run_setObj_map _ hheap, Result.andThen]
  · have hqL := List.mem_of_getElem? f2
    have hput : mput es k [] = mset es k [] := by
      have : mhas es k = true := (mhas_L g.hes k).2 ⟨q, hqL, f3⟩
      simp [mput, this]
    let f : MapEntry → MapEntry := fun e => { e with key := keyV k, val := a.eval y }
    have hmod := map_modify L p q k f2 f3 g.hkeys f []
    have hp : (L.map Prod.fst).toArray[p]? = some q.1 := by simp [f2]
    have hnew : (gmap (mput es k []) (some (k, n)) none).R s.F s.ρ (s.ρ j) (hturn (s.h j) r (.map ((L.map Prod.fst).toArray.modify p f) clock) (hs k)) := by
      let F : MapEntry × (List UInt8 × List SO) → MapEntry × (List UInt8 × List SO) := fun q => if q.2.1 = k then (f q.1, (k, [])) else q
      have hF1 : ∀ q, (F q).2.1 = q.2.1 := fun q => by
        simp only [F]
        split
        · rename_i e; exact e.symm
        · rfl
      have hF2 : ∀ q, (F q).1.born = q.1.born := fun q => by simp only [F]; split <;> rfl
      have hborn : (L.map F).map (fun q => q.1.born) = L.map (fun q => q.1.born) := by rw [List.map_map]; exact List.map_congr_left fun q _ => hF2 q
      have hkk : (L.map F).map (fun q => q.2.1) = L.map (fun q => q.2.1) := by rw [List.map_map]; exact List.map_congr_left fun q _ => hF1 q
      refine ⟨r, clock, L.map F, ρs, fun k' => if k' = k then fun _ => PH.none else hs k', g.hx, ?_, ?_, nofun, ?_, ?_, ?_, ?_, ?_, ?_, ?_, ?_, hh_turn g k _, hd_turn g k⟩
      · rw [hput, ← g.hes, mset, List.map_map, List.map_map]
        refine List.map_congr_left fun q _ => ?_
        simp only [Function.comp, F]
        split <;> rfl
      · rw [hturn_r]
        have : (L.map Prod.fst).toArray.modify p f = ((L.map F).map Prod.fst).toArray := by
          apply Array.ext'
          rw [hmod]
        rw [this]
      · rw [hborn]; exact g.hnd
      · intro q hq; obtain ⟨q', hq', rfl⟩ := List.mem_map.1 hq; rw [hF2]; exact g.hlt q' hq'
      · rw [hkk]; exact g.hkeys
      · intro q hq
        obtain ⟨q', hq', rfl⟩ := List.mem_map.1 hq
        rw [hF1]
        simp only [F]
        split
        · rename_i e; rw [e]
        · exact g.hkey q' hq'
      · intro q hq hne
        obtain ⟨q', hq', rfl⟩ := List.mem_map.1 hq
        by_cases e : q'.2.1 = k
        · exact absurd (by rw [hF1, e]) (hne n)
        · have : F q' = q' := by simp only [F, if_neg e]
          rw [this]
          simp only [if_neg e]; exact g.hin q' hq' nofun
      · intro k' m e
        injection e with e; injection e with e1 e2; subst e1 e2
        refine ⟨⟨F q, List.mem_map.2 ⟨q, hqL, rfl⟩, by rw [hF1]; exact f3, ?_⟩, hjk, fun t => by simp⟩
        have : (F q).1.val = a.eval y := by simp only [F, if_pos f3, f]
        rw [this, hρn]; exact hyv
      · intro k' hk' t
        split
        · rfl
        · exact g.hno k' (fun q hq e => hk' (F q) (List.mem_map.2 ⟨q, hq, rfl⟩) (by rw [hF1]; exact e)) t
      · intro k' t
        split
        · rfl
        · exact g.hsr k' t
    obtain ⟨s', e1, e2, e3, e4, e5⟩ := rel_mapturn hR hj g.hr hnew
    · refine op_skip (s' := s') e1 ?_ e4 e5 (by rw [e3]; exact Rle.refl _) h1
      have hst : ∀ w, (Instr.keyThatStays q.1.key (keyV k)).run C.P w = .ok (keyV k) w := fun w => by
        rw [g.hkey q hqL, f3]
        exact MapKept.run_keyThatStays (d := .string) (k := keyV k) trivial
      simp [execOp, hop, hmv, hxv, Instr.mapUpdate, run_underlying ht, MapKept.run_getObj_map hheap, MapKept.run_checkKey hk (k := keyV k) trivial, MapKept.run_findKey hk f1, f2, hst, MapKept.run_setObj_map _ hheap, Result.andThen, f]

def outDel (k : List UInt8) : Option (List UInt8 × Nat) → Option (List UInt8 × Nat)
  | some (k', n) => if k' = k then none else some (k', n)
  | none => none
theorem outDel_none (k : List UInt8) : outDel k none = none := rfl
theorem outDel_same (k : List UInt8) (n : Nat) : outDel k (some (k, n)) = none := by simp [outDel]
theorem outDel_some {k k' : List UInt8} {n : Nat} {out : Option (List UInt8 × Nat)} (h : outDel k out = some (k', n)) : k' ≠ k ∧ out = some (k', n) := by
  unfold outDel at h
  split at h
  · split at h
    · cases h
    · rename_i hne
      injection h with h; injection h with e1 e2; subst e1 e2
      exact ⟨hne, rfl⟩
  · cases h
theorem outDel_ne {k k' : List UInt8} {out : Option (List UInt8 × Nat)} (hk : k' ≠ k) (h : ∀ n, outDel k out ≠ some (k', n)) : ∀ n, out ≠ some (k', n) := by
  rintro n rfl
  exact h n (by simp [outDel, hk])

/-- `delete(m, k)`. -/
theorem op_delete {m x : Operand} {t kt et kt' : TypeId} {j : Nat} {es : List (List UInt8 × List SO)} {out : Option (List UInt8 × Nat)} {b : Option (List Nat × Nat)} {k : List UInt8}
    (hop : o.op = .call ⟨.builtin .delete, #[m, x], #[t, kt']⟩) (ht : C.P.underlying t = some (.map kt et)) (hk : C.P.underlying kt = some .string)
    (hm : ev C env m = .mp j) (hx : ev C env x = .v (keyV k)) (hj : own[j]? = some (.rep (gmap es out b)))
    (h1 : K (env.put o.dst .any) (own.set j (.rep (gmap (mdel es k) (outDel k out) none)))) : OpGoal C o K env own := by
  intro a s hops hR
  have hmv := hops m (by simp [hop, Op.operands, Call.operands])
  have hxv := hops x (by simp [hop, Op.operands, Call.operands])
  rw [hm] at hmv; rw [hx] at hxv
  obtain ⟨r, clock, L, ρs, hs, g⟩ := hR.obj j _ hj
  obtain ⟨r', hr', hmv⟩ := hmv
  rw [g.hx] at hr'; injection hr' with hr'; injection hr' with hr'; subst hr'
  have hxv : a.eval x = keyV k := hxv
  have hheap := hR.inh j r _ g.hr
  have main : ∀ (L' : Ents), L' = L.filter (fun q => q.2.1 != k) → (gmap (mdel es k) (outDel k out) none).R s.F s.ρ (s.ρ j) (hturn (s.h j) r (.map (L'.map Prod.fst).toArray clock) (hs k)) := by
    rintro L' rfl
    have hsub : (L.filter (fun q => q.2.1 != k)).Sublist L := List.filter_sublist
    refine ⟨r, clock, _, ρs, fun k' => if k' = k then fun _ => PH.none else hs k', g.hx, ?_, hturn_r, nofun, g.hnd.sublist (hsub.map _), fun q hq => g.hlt q (hsub.subset hq), g.hkeys.sublist (hsub.map _), fun q hq => g.hkey q (hsub.subset hq), ?_, ?_, ?_, ?_, hh_turn g k _, hd_turn g k⟩
    · rw [← g.hes, mdel, List.filter_map]; rfl
    · intro q hq hne
      obtain ⟨hq, hqk⟩ := List.mem_filter.1 hq
      have hqk : q.2.1 ≠ k := by simpa using hqk
      simp only [if_neg hqk]
      exact g.hin q hq (outDel_ne hqk hne)
    · intro k' n e
      obtain ⟨hne, e⟩ := outDel_some e
      obtain ⟨⟨q, h1, h2, h3⟩, h4, h5⟩ := g.hole k' n e
      exact ⟨⟨q, List.mem_filter.2 ⟨h1, by rw [h2]; simpa using hne⟩, h2, h3⟩, h4, fun t => by simp only [if_neg hne]; exact h5 t⟩
    · intro k' hk' t
      split
      · rfl
      · rename_i hne
        exact g.hno k' (fun q hq e => hk' q (List.mem_filter.2 ⟨hq, by rw [e]; simpa using hne⟩) e) t
    · intro k' t
      split
      · rfl
      · exact g.hsr k' t
  rcases gfind g.hkey k with ⟨f1, f2⟩ | ⟨p, q, f1, f2, f3⟩
  · obtain ⟨s', e1, e2, e3, e4, e5⟩ := rel_mapturn (hk := hs k) hR hj g.hr (main L (filter_none f2).symm)
    refine op_ok (s' := s') (v := .tuple #[]) e1 ?_ (show VRel _ _ .any _ from trivial) e4 e5 (by rw [e3]; exact Rle.refl _) h1
    simp [execOp, hop, resolve, invoke, builtin, hmv, hxv, Builtin.delete_, run_underlying ht, MapKept.run_getObj_map hheap, MapKept.run_checkKey hk (k := keyV k) trivial, MapKept.run_findKey hk f1, MapKept.run_setObj_map _ hheap, Result.andThen]
  · have her := filter_erase L p q k f2 f3 g.hkeys
    obtain ⟨s', e1, e2, e3, e4, e5⟩ := rel_mapturn (hk := hs k) hR hj g.hr (main _ rfl)
    refine op_ok (s' := s') (v := .tuple #[]) e1 ?_ (show VRel _ _ .any _ from trivial) e4 e5 (by rw [e3]; exact Rle.refl _) h1
    have hpl : p < L.length := (List.getElem?_eq_some_iff.1 f2).1
    have harr : (L.map Prod.fst).toArray.eraseIdxIfInBounds p = ((L.filter (fun q => q.2.1 != k)).map Prod.fst).toArray := by
      apply Array.ext'
      unfold Array.eraseIdxIfInBounds
      rw [dif_pos (by simpa using hpl)]
      rw [her]; simp [map_eraseIdx']
    have hrun2 : (Instr.findKey kt (keyV k) ((L.map Prod.fst).toArray.toList)).run C.P s.w = .ok (some (p, q.1.val)) s.w := MapKept.run_findKey hk f1
    simp only [execOp, hop, resolve, invoke, builtin, Builtin.delete_]
    simp [hmv, hxv, run_underlying ht, MapKept.run_getObj_map hheap, MapKept.run_checkKey hk (k := keyV k) trivial, MapKept.run_findKey hk f1, MapKept.run_setObj_map _ hheap, Result.andThen, -List.eraseIdxIfInBounds_toArray, harr]

/-- `make(map)`. -/
theorem op_makeMap {t : TypeId} (hop : o.op = .makeMap t none) (h1 : K (env.put o.dst (.mp own.length)) (own ++ [.rep (gmap [] none none)])) : OpGoal C o K env own := by
  intro a s hops hR
  obtain ⟨s', e1, e2, e3, e4, e5, e6⟩ := rel_push (so := .rep (gmap [] none none)) (obj := .map #[] 0) hR (s.w.alloc (.map #[] 0)) rfl rfl rfl rfl (.map (some s.w.heap.size)) nofun (fun ρ' _ => by
    refine ⟨s.w.heap.size, 0, [], fun _ => junks, fun _ _ => PH.none, rfl, rfl, by simp [PH.sg], nofun, List.nodup_nil, nofun, List.nodup_nil, nofun, nofun, nofun, fun _ _ _ => rfl, fun _ _ => rfl, ?_, fun k t k' t' b h => absurd rfl h⟩
    intro b hb o
    constructor
    · intro h; exact absurd (sg_some h).1 hb
    · rintro ⟨k, t, h⟩; cases h)
  refine op_ok (s' := s') (v := .map (some s.w.heap.size)) e1 ?_ (show VRel _ _ (.mp own.length) _ from ⟨_, e4, rfl⟩) e5 e6 e3 h1
  simp [execOp, hop, Instr.makeMap, newObj, Sem.run]
end
end Go.AM
namespace Go.AM
open Go
set_option autoImplicit false
set_option linter.unusedVariables false

section
variable {C : Cx} {G : Nat → Option (List SV)} {n0 : Nat} {own own2 own3 own' : List SO} {s s' : St} {env env2 env3 : Env} {Q : SV → List SO → Prop} {o : Oper} {K : Env → List SO → Prop} {a : Act}

/-! ### A range over a map -/
theorem gmap_know {es : List (List UInt8 × List SO)} {out : Option (List UInt8 × Nat)} {F : PH} {ρ : Nat → Value} {x : Value} {h : PH} {r clock : Nat} {L : Ents} {ρs : List UInt8 → Nat → Value} {hs : List UInt8 → Nat → PH}
    (g : GMapR es out none F ρ x h r clock L ρs hs) : GMapR es out (some (L.map (fun q => q.1.born), clock)) F ρ x h r clock L ρs hs :=
  { g with hb := fun p hp => by injection hp with hp; exact hp.symm }
theorem gmap_forget {es : List (List UInt8 × List SO)} {out : Option (List UInt8 × Nat)} {b : Option (List Nat × Nat)} {j : Nat} (hj : own[j]? = some (.rep (gmap es out b))) : RedS G own (own.set j (.rep (gmap es out none))) := by
  intro s hR
  have hjl : j < own.length := (List.getElem?_eq_some_iff.1 hj).1
  refine ⟨s, rfl, rfl, ⟨?_, ?_, hR.dF, hR.dd, hR.inF, hR.inh, hR.glob⟩, Step.refl s⟩
  · intro i o hi
    by_cases e : i = j
    · subst e
      rw [List.getElem?_set_self hjl] at hi
      injection hi with hi; subst hi
      obtain ⟨r, clock, L, ρs, hs, g⟩ := hR.obj i _ hj
      exact ⟨r, clock, L, ρs, hs, { g with hb := nofun }⟩
    · rw [List.getElem?_set_ne (Ne.symm e)] at hi
      exact hR.obj i o hi
  · intro i hi; rw [List.length_set] at hi; exact hR.out i hi
theorem set_same {l : List SO} {j : Nat} {x : SO} (h : l[j]? = some x) : l.set j x = l := by
  apply List.ext_getElem?
  intro i
  by_cases e : j = i
  · subst e
    have : j < l.length := (List.getElem?_eq_some_iff.1 h).1
    rw [List.getElem?_set_self this, h]
  · rw [List.getElem?_set_ne e]
theorem rel_same {j : Nat} {R' : RepR} (hR : Rel G own s) (hjl : j < own.length) (hnew : R'.R s.F s.ρ (s.ρ j) (s.h j)) : Rel G (own.set j (.rep R')) s := by
  refine ⟨?_, ?_, hR.dF, hR.dd, hR.inF, hR.inh, hR.glob⟩
  · intro i o hi
    by_cases e : i = j
    · subst e
      rw [List.getElem?_set_self hjl] at hi
      injection hi with hi; subst hi
      exact hnew
    · rw [List.getElem?_set_ne (Ne.symm e)] at hi
      exact hR.obj i o hi
  · intro i hi; rw [List.length_set] at hi; exact hR.out i hi

theorem op_range {m : Operand} {t kt et : TypeId} {j : Nat} {es : List (List UInt8 × List SO)}
    (hop : o.op = .range t m) (ht : C.P.underlying t = some (.map kt et)) (hm : ev C env m = .mp j) (hj : own[j]? = some (.rep (gmap es none none)))
    (h1 : ∀ bs since, bs.Nodup → bs.length = es.length → (es.map (·.1)).Nodup → K (env.put o.dst (.ptr own.length 0)) (own.set j (.rep (gmap es none (some (bs, since)))) ++ [.rep (iterR j since [])])) : OpGoal C o K env own := by
  intro a s hops hR
  have hjl : j < own.length := (List.getElem?_eq_some_iff.1 hj).1
  have hmv := hops m (by simp [hop, Op.operands])
  rw [hm] at hmv
  obtain ⟨r, clock, L, ρs, hs, g⟩ := hR.obj j _ hj
  obtain ⟨r', hr', hmv⟩ := hmv
  have hρ := hr'
  rw [g.hx] at hr'; injection hr' with hr'; injection hr' with hr'; subst hr'
  have hheap := hR.inh j r _ g.hr
  have hR2 : Rel C.G (own.set j (.rep (gmap es none (some (L.map (fun q => q.1.born), clock))))) s := rel_same hR hjl ⟨r, clock, L, ρs, hs, gmap_know g⟩
  obtain ⟨s', e1, e2, e3, e4, e5, e6⟩ := rel_push (so := .rep (iterR j clock [])) (obj := .mapIter (some r) clock #[] clock) hR2 (s.w.alloc (.mapIter (some r) clock #[] clock)) rfl rfl rfl rfl (.pointer (some ⟨s.w.heap.size, 0, none⟩)) nofun
    (fun ρ' hr => ⟨s.w.heap.size, r, rfl, by rw [hr j (by rw [hρ]; nofun)]; exact hρ, rfl⟩)
  rw [List.length_set] at e4
  have hK := h1 (L.map (fun q => q.1.born)) clock g.hnd (by rw [← g.hes]; simp) (by rw [← g.hes, List.map_map]; exact g.hkeys)
  refine op_ok (s' := s') (v := .pointer (some ⟨s.w.heap.size, 0, none⟩)) e1 ?_ (show VRel _ _ (.ptr own.length 0) _ from ⟨_, e4, rfl⟩) e5 e6 e3 hK
  simp [execOp, hop, hmv, Instr.range, run_underlying ht, MapKept.run_getObj_map hheap, newObj, Sem.run, Result.andThen]

theorem seen_mem {L : Ents} {seen : List Nat} {e : MapEntry} (h : e ∈ (leftOf (L.map Prod.fst).toArray seen.toArray).toList) : ∃ (i : Nat) (q : MapEntry × (List UInt8 × List SO)), L[i]? = some q ∧ q.1 = e ∧ e.born ∉ seen := by
  unfold leftOf at h
  simp at h
  obtain ⟨⟨x, b, hx⟩, h2⟩ := h
  obtain ⟨i, hi⟩ := List.mem_iff_getElem?.1 hx
  exact ⟨i, _, hi, rfl, h2⟩

theorem op_next {it : Operand} {n j since : Nat} {seen bs : List Nat} {es : List (List UInt8 × List SO)}
    (hop : o.op = .next it false) (hi : ev C env it = .ptr n 0) (hn : own[n]? = some (.rep (iterR j since seen))) (hj : own[j]? = some (.rep (gmap es none (some (bs, since)))))
    (h0 : (∀ b ∈ bs, b ∈ seen) → K (env.put o.dst (.tup [.v (.bool false)])) own)
    (h1 : ∀ (i : Nat) (p : List UInt8 × List SO) (b : Nat), es[i]? = some p → bs[i]? = some b → b ∉ seen → K (env.put o.dst (.tup [.v (.bool true), .v (keyV p.1), .any])) (own.set n (.rep (iterR j since (seen ++ [b]))))) : OpGoal C o K env own := by
  intro a s hops hR
  have hiv := hops it (by simp [hop, Op.operands])
  rw [hi] at hiv
  obtain ⟨r, bm, e1, e2, e3⟩ := hR.obj n _ hn
  obtain ⟨b', hb', hiv⟩ := hiv
  rw [e1] at hb'; injection hb' with hb'; injection hb' with hb'; injection hb' with hb'; subst hb'
  obtain ⟨r2, clock, L, ρs, hs, g⟩ := hR.obj j _ hj
  have hx := g.hx
  rw [e2] at hx; injection hx with hx; injection hx with hx; subst hx
  have hb := g.hb _ rfl
  injection hb with hb1 hb2; subst hb1 hb2
  have hit := hR.inh n r _ (by rw [e3]; exact sg_same _ _)
  have hmp := hR.inh j bm _ g.hr
  have hsr : s.h n r = some (.mapIter (some bm) since seen.toArray since) := by rw [e3]; simp [PH.sg]
  rcases run_next_at (P := C.P) s.w o.type r bm since since seen.toArray _ since hit hmp (fun x hx => by
      simp at hx; obtain ⟨y, z, hy⟩ := hx; exact g.hlt _ hy) (Nat.le_refl _) with ⟨f1, f2⟩ | ⟨e, he, w1, hw1, f2⟩
  · refine op_ok (s' := s) (v := .tuple #[.bool false]) rfl ?_ (show VRel _ _ (.tup [.v (.bool false)]) _ from ⟨_, rfl, _, _, rfl, rfl, rfl⟩) hR (Step.refl s) (Rle.refl _) (h0 ?_)
    · simp only [execOp, hop, hiv]
      simp [f2]
    · intro b hb
      obtain ⟨q, hq, rfl⟩ := List.mem_map.1 hb
      by_cases hc : q.1.born ∈ seen
      · exact hc
      · exfalso
        have : q.1 ∈ leftOf (L.map Prod.fst).toArray seen.toArray := by
          unfold leftOf
          simp
          exact ⟨⟨q.2.1, q.2.2, hq⟩, hc⟩
        have he : leftOf (L.map Prod.fst).toArray seen.toArray = #[] := Array.eq_empty_of_size_eq_zero f1
        rw [he] at this; simp at this
  · obtain ⟨i, q, hq1, hq2, hq3⟩ := seen_mem he
    subst hq2
    have hqs : es[i]? = some q.2 := by rw [← g.hes, List.getElem?_map, hq1]; rfl
    have hqb : (L.map (fun q => q.1.born))[i]? = some q.1.born := by rw [List.getElem?_map, hq1]; rfl
    have hK := h1 i q.2 q.1.born hqs hqb hq3
    obtain ⟨s1, hs1w, hs1F, hs1ρ, hs1h, hR1, hS1⟩ : ∃ s1 : St, s1.w = w1 ∧ s1.F = s.F ∧ s1.ρ = s.ρ ∧ s1.h = s.h ∧ Rel C.G own s1 ∧ Step s s1 := by
      rcases hw1 with rfl | rfl
      · exact ⟨s, rfl, rfl, rfl, rfl, hR, Step.refl s⟩
      · exact ⟨{ s with w := { s.w with drawn := s.w.drawn + 1 } }, rfl, rfl, rfl, rfl, rel_drawn hR, step_drawn⟩
    have hnew : (iterR j since (seen ++ [q.1.born])).R s1.F s1.ρ (s1.ρ n) (hturn (s1.h n) r (.mapIter (some bm) since (seen.toArray.push q.1.born) since) (fun _ => PH.none)) := by
      refine ⟨r, bm, by rw [hs1ρ]; exact e1, by rw [hs1ρ]; exact e2, ?_⟩
      funext b
      rw [hs1h, e3]
      by_cases eb : b = r
      · subst eb; rw [hturn_r]; simp [PH.sg]
      · rw [hturn_n eb]
        have : PH.sg r (.mapIter (some bm) since (seen ++ [q.1.born]).toArray since) b = none := by simp [PH.sg, eb]
        rw [this]
        cases hc : less (PH.sg r (.mapIter (some bm) since seen.toArray since)) (fun _ => PH.none) b with
        | none => rfl
        | some x => have := (less_some.1 hc).2; exact absurd (sg_some this).1 eb
    obtain ⟨s', g1, g2, g3, g4, g5⟩ := rel_mapturn hR1 hn (by rw [hs1h]; exact hsr) hnew
    refine op_ok (s' := s') (v := .tuple #[.bool true, q.1.key, q.1.val]) g1 ?_ (show VRel _ _ (.tup [.v (.bool true), .v (keyV q.2.1), .any]) _ from ⟨_, rfl, _, _, rfl, rfl, _, _, rfl, g.hkey q (List.mem_of_getElem? hq1), _, _, rfl, trivial, rfl⟩) g4 (Step.trans hR1.dF hS1 g5) (by rw [g3, hs1ρ]; exact Rle.refl _) hK
    rw [hs1w]
    simp only [execOp, hop, hiv]
    simp [f2, ChangeMaps.setBlock]

theorem op_entry {it : Operand} {n j since i b : Nat} {seen bs : List Nat} {es : List (List UInt8 × List SO)} {p : List UInt8 × List SO}
    (hop : o.op = .entry it) (hi : ev C env it = .ptr n 0) (hn : own[n]? = some (.rep (iterR j since (seen ++ [b])))) (hj : own[j]? = some (.rep (gmap es none (some (bs, since)))))
    (hes : es[i]? = some p) (hbs : bs[i]? = some b) (h1 : K (env.put o.dst (.tup [.v (keyV p.1), .any])) own) : OpGoal C o K env own := by
  intro a s hops hR
  have hiv := hops it (by simp [hop, Op.operands])
  rw [hi] at hiv
  obtain ⟨r, bm, e1, e2, e3⟩ := hR.obj n _ hn
  obtain ⟨b', hb', hiv⟩ := hiv
  rw [e1] at hb'; injection hb' with hb'; injection hb' with hb'; injection hb' with hb'; subst hb'
  obtain ⟨r2, clock, L, ρs, hs, g⟩ := hR.obj j _ hj
  have hx := g.hx
  rw [e2] at hx; injection hx with hx; injection hx with hx; subst hx
  have hb := g.hb _ rfl
  injection hb with hb1 hb2; subst hb1 hb2
  obtain ⟨q, hq, hqp⟩ : ∃ q, L[i]? = some q ∧ q.2 = p := by
    rw [← g.hes, List.getElem?_map] at hes
    simpa using hes
  have hqb : q.1.born = b := by
    rw [List.getElem?_map, hq] at hbs
    simpa using hbs
  have hit := hR.inh n r _ (by rw [e3]; exact sg_same _ _)
  have hmp := hR.inh j bm _ g.hr
  have hit' : s.w.heap[r]? = some (.mapIter (some bm) since (seen.toArray.push q.1.born) since) := by rw [hit, hqb]; simp
  have hkq : q.1.key = keyV p.1 := by rw [← hqp]; exact g.hkey q (List.mem_of_getElem? hq)
  have hrun := run_entry_at (P := C.P) s.w r bm since seen.toArray _ since q.1 hit' hmp (by simpa using ⟨q.2.1, q.2.2, List.mem_of_getElem? hq⟩) (by have := g.hnd; simp only [List.map_map]; exact this)
  refine op_ok (s' := s) (v := .tuple #[q.1.key, q.1.val]) rfl ?_ (show VRel _ _ (.tup [.v (keyV p.1), .any]) _ from ⟨_, rfl, _, _, rfl, hkq, _, _, rfl, trivial, rfl⟩) hR (Step.refl s) (Rle.refl _) h1
  simp only [execOp, hop, hiv]
  simp [hrun]
end
end Go.AM
namespace Go.AM
open Go
set_option autoImplicit false
set_option linter.unusedVariables false

/-! ### Equations of the maps and the other rules -/
@[go_sem] theorem mkv_true (cs : List SV) : mkv true cs = .agg cs := rfl
@[go_sem] theorem renO_gmap (π : Nat → Nat) (es : List (List UInt8 × List SO)) (out : Option (List UInt8 × Nat)) (b : Option (List Nat × Nat)) : renO π (.rep (gmap es out b)) = .rep (gmap es (outR π out) b) := by
  show SO.rep ((gmap es out b).ren π) = _; rw [gmap_ren]
@[go_sem] theorem renO_iter (π : Nat → Nat) (j since : Nat) (seen : List Nat) : renO π (.rep (iterR j since seen)) = .rep (iterR (π j) since seen) := rfl
@[go_sem] theorem lenM_gmap (es : List (List UInt8 × List SO)) (out : Option (List UInt8 × Nat)) (b : Option (List Nat × Nat)) : lenM (some (.rep (gmap es out b))) = some (i64 (es.length : Int)) := rfl
section
variable {own : List SO}
@[go_sem] theorem lenC_map (k e : TypeId) (n m : Nat) (zs : List SV) (i : Nat) : lenC (some ⟨.map k e, n, m, zs⟩) own (.mp i) = lenM own[i]? := rfl
end
attribute [go_sem] outR frzOs frzO lkr.eq_1 lkr.eq_2 plain plainL outDel_none outDel_same
attribute [go_sem] lend lendG lendC

/-- The zero value of a type of one cell. -/
theorem zero_run {P : Program} {t : TypeId} {k : TK} {b : Nat} {z : Value} (h : tiOf P t = some ⟨k, 1, b, [.v z]⟩) (hk : k.isAgg = false) (w : World) : (zeroValue t).run P w = .ok z w := by
  obtain ⟨i, d, z', h1, h2, h3, h4, h5, h6, h7⟩ := tiOf_spec h
  have e1 : k = tkOf P d := by injection h6
  have e2 : [SV.v z] = z'.cells.toList.map .v := by injection h6
  rw [e1, tk_agg, h7] at hk
  have e3 : z'.cells = #[z'] := by cases z' <;> first | rfl | (simp [aggV] at hk)
  rw [e3] at e2
  simp at e2
  subst e2
  simp [zeroValue, typeInfo, h1, h3]

/-- What stands in the state may be used ahead. -/
theorem fun_keys {P : Program} {G : Nat → Option (List SV)} {f : FuncId} {args : List SV} {own : List SO} {Post : SV → List SO → Prop} {j : Nat} {es : List (List UInt8 × List SO)} {out : Option (List UInt8 × Nat)} {b : Option (List Nat × Nat)}
    (hj : own[j]? = some (.rep (gmap es out b))) (hc : callable P f = true) (h : (es.map (·.1)).Nodup → Fun P G f args own Post) : Fun P G f args own Post := by
  refine ⟨hc, fun s vals hT hR => ?_⟩
  obtain ⟨r, clock, L, ρs, hs, g⟩ := hR.obj j _ hj
  exact (h (by rw [← g.hes, List.map_map]; exact g.hkeys)).2 s vals hT hR

/-- A function's contract, what it says kept out of sight while the code is gone through. -/
theorem fun_of_vcQ {P : Program} {G : Nat → Option (List SV)} {f : FuncId} {fn : Func} {c : Code} {D : Nat → Option DT} {args : List SV} {own : List SO} {Post : SV → List SO → Prop}
    (hf : P.funcs[f]? = some fn) (hb : fn.body = some c) (hcall : callable P f = true) (hm : P.follows .mixedOrders = true) (hn : args.length ≤ fn.ntmps)
    (hc : codeOk ⟨P, f, fn, own.length, G, D, fun _ => false, none, false⟩ c = true)
    (h : ∀ Q : SV → List SO → Prop, (∀ sv own', Post sv own' → Q sv own') → (∀ sv own' sv2 own2, RedV G own.length sv own' sv2 own2 → Post sv2 own2 → Q sv own') → vc ⟨P, f, fn, own.length, G, D, fun _ => false, none, false⟩ Q [.code c] (env0 0 args) own) : Fun P G f args own Post :=
  fun_of_vc hf hb hcall hm hn hc (h _ (fun sv own' hp => ⟨sv, own', Red.refl, hp⟩) fun sv own' sv2 own2 hr hp => ⟨sv2, own2, hr, hp⟩)
theorem fun_of_vcQR {P : Program} {G : Nat → Option (List SV)} {f : FuncId} {fn : Func} {c : Code} {D : Nat → Option DT} {dr : Nat → Bool} {args : List SV} {own : List SO} {Post : SV → List SO → Prop}
    (hf : P.funcs[f]? = some fn) (hb : fn.body = some c) (hcall : callable P f = true) (hm : P.follows .mixedOrders = true) (hn : args.length ≤ fn.ntmps)
    (hc : codeOk ⟨P, f, fn, own.length, G, D, dr, none, false⟩ c = true)
    (h : ∀ Q : SV → List SO → Prop, (∀ sv own', Post sv own' → Q sv own') → (∀ sv own' sv2 own2, RedV G own.length sv own' sv2 own2 → Post sv2 own2 → Q sv own') → vc ⟨P, f, fn, own.length, G, D, dr, none, false⟩ Q [.code c] (env0 0 args) own) : Fun P G f args own Post :=
  fun_of_vcR hf hb hcall hm hn hc (h _ (fun sv own' hp => ⟨sv, own', Red.refl, hp⟩) fun sv own' sv2 own2 hr hp => ⟨sv2, own2, hr, hp⟩)
theorem funD_of_vcQ {P : Program} {G : Nat → Option (List SV)} {f : FuncId} {fn : Func} {c : Code} {D : Nat → Option DT} {args : List SV} {own : List SO} {Post : SV → List SO → Prop}
    (hf : P.funcs[f]? = some fn) (hb : fn.body = some c) (hcall : callable P f = true) (hm : P.follows .mixedOrders = true) (hn : args.length ≤ fn.ntmps)
    (hc : codeOk ⟨P, f, fn, own.length, G, D, fun _ => false, none, true⟩ c = true)
    (h : ∀ Q : SV → List SO → Prop, (∀ sv own', Post sv own' → Q sv own') → (∀ sv own' sv2 own2, RedV G own.length sv own' sv2 own2 → Post sv2 own2 → Q sv own') → vc ⟨P, f, fn, own.length, G, D, fun _ => false, none, true⟩ Q [.code c] (env0 0 args) own) : FunD P G f args own Post :=
  funD_of_vc hf hb hcall hm hn hc (h _ (fun sv own' hp => ⟨sv, own', Red.refl, hp⟩) fun sv own' sv2 own2 hr hp => ⟨sv2, own2, hr, hp⟩)

/-- A contract from a call: for what is handed on to a function that calls it. -/
theorem fun_of_cg {C : Cx} {f : FuncId} {args : List SV} {own : List SO} {Post : SV → List SO → Prop} (h : CG C f args own (some 0) (fun env own' => Post (env.get 0) own') []) : Fun C.P C.G f args own Post := by
  refine ⟨h.1, fun s vals hT hR => (h.2 s vals hT hR).mono ?_⟩
  rintro e w' ⟨v, sv, own', s', e1, e2, e3, e4, e5, e6, e7⟩
  refine ⟨v, sv, own', s', e1, e2, e3, e4, e5, fun i _ hi => e6 i hi, ?_⟩
  simpa [Env.put, Env.get] using e7

section
variable {α β : Type}
theorem mget_map (f : α → β) (es : List (List UInt8 × α)) (k : List UInt8) : mget (es.map fun p => (p.1, f p.2)) k = (mget es k).map f := by
  induction es with
  | nil => rfl
  | cons p es ih =>
    simp only [mget, List.map_cons, List.find?_cons] at ih ⊢
    by_cases h : p.1 == k <;> simp [h] at ih ⊢
    exact ih
theorem mset_map (f : α → β) (es : List (List UInt8 × α)) (k : List UInt8) (v : α) : mset (es.map fun p => (p.1, f p.2)) k (f v) = (mset es k v).map fun p => (p.1, f p.2) := by
  simp only [mset, List.map_map]
  refine List.map_congr_left fun p _ => ?_
  simp only [Function.comp]
  split <;> rfl
theorem mset_same {es : List (List UInt8 × α)} {k : List UInt8} {v : α} (hn : (es.map (·.1)).Nodup) (h : mget es k = some v) : mset es k v = es := by
  unfold mset
  conv => rhs; rw [← List.map_id es]
  refine List.map_congr_left fun p hp => ?_
  split
  · rename_i e
    have := mget_some (v := p.2) hn (k := k) (by rw [← e]; exact hp)
    rw [h] at this; injection this with this; subst this
    rw [← e]; rfl
  · rfl
theorem mset_mput {es : List (List UInt8 × α)} {k : List UInt8} {u v : α} : mset (mput es k u) k v = mput es k v := by
  unfold mput
  split
  · simp only [mset, List.map_map]
    refine List.map_congr_left fun p _ => ?_
    simp only [Function.comp]
    split <;> simp_all
  · rename_i h
    simp only [mset, List.map_append, List.map_cons, List.map_nil, if_true]
    congr 1
    conv => rhs; rw [← List.map_id es]
    refine List.map_congr_left fun p hp => ?_
    have : p.1 ≠ k := fun e => h (mhas_iff.2 ⟨p, hp, e⟩)
    simp [this]
theorem mhas_map (f : α → β) (es : List (List UInt8 × α)) (k : List UInt8) : mhas (es.map fun p => (p.1, f p.2)) k = mhas es k := by
  simp [mhas, List.any_map, Function.comp_def]
theorem mput_map (f : α → β) (es : List (List UInt8 × α)) (k : List UInt8) (v : α) : mput (es.map fun p => (p.1, f p.2)) k (f v) = (mput es k v).map fun p => (p.1, f p.2) := by
  unfold mput
  rw [mhas_map]
  split
  · rw [mset_map]
  · simp
theorem mdel_map (f : α → β) (es : List (List UInt8 × α)) (k : List UInt8) : mdel (es.map fun p => (p.1, f p.2)) k = (mdel es k).map fun p => (p.1, f p.2) := by
  simp only [mdel, List.filter_map]; rfl
end
end Go.AM
namespace Go.AM
open Go Go.Sort Go.Proofs
set_option autoImplicit false
set_option linter.unusedVariables false

/-! ### The library's sort of strings, by the contract that the kit's shelf lays -/
def strs (l : List (List UInt8)) : List (List SV) := l.map fun s => [.v (keyV s)]
def msort (l : List (List UInt8)) : List (List UInt8) := l.mergeSort fun x y => decide (x ≤ y)
def SortOK (P : Program) (f : FuncId) : Prop :=
  (∀ (blk off cap : Nat) (ss : List (List UInt8)) (w : World), Holds encStr w blk off ss.toArray → blk < w.heap.size → ss.length < 4611686018427387904 →
    Calls P f #[.slice (some ⟨blk, off, none⟩) ss.length cap] w fun e w' => e = .returned (.tuple #[]) ∧ ∃ n os, w' = Sort.grow (putRow encStr (Sort.ahead w n) blk off (msort ss).toArray) os) ∧
  (∀ (p : Option Addr) (cap : Nat) (w : World), Calls P f #[.slice p 0 cap] w fun e w' => e = .returned (.tuple #[]) ∧ w' = w)

theorem strs_rel {F : PH} {ρ : Nat → Value} : ∀ (ss : List (List UInt8)) (ws : List Value), RRel F ρ (strs ss) ws ↔ ws.take ss.length = ss.map encStr
  | [], ws => by simp [strs, RRel]
  | s :: ss, [] => by simp [strs, RRel, PRel]
  | s :: ss, x :: ws => by
    have ih := strs_rel (F := F) (ρ := ρ) ss ws
    simp only [strs, List.map_cons, RRel, PRel] at ih ⊢
    constructor
    · rintro ⟨⟨y, ys, e, ho, hv, _⟩, h2⟩
      injection e with e1 e2; subst e1 e2
      simp only [List.length_cons, List.length_nil, List.drop_succ_cons, List.drop_zero] at h2
      have := ih.1 h2
      have hv : x = keyV s := hv
      simp only [List.length_cons, List.take_succ_cons, this, hv]
      rfl
    · intro h
      simp only [List.length_cons, List.take_succ_cons, List.cons.injEq] at h
      refine ⟨⟨x, ws, rfl, ?_, ?_, trivial⟩, ?_⟩
      · rw [h.1]; rfl
      · show x = keyV s; rw [h.1]; rfl
      · simpa using ih.2 h.2

theorem sort_fun {P : Program} {G : Nat → Option (List SV)} {f : FuncId} (hS : SortOK P f) (hc : callable P f = true) (T : TypeId) (ss : List (List UInt8)) (hl : ss.length < 4611686018427387904) :
    Fun P G f [.gs 0] [.grow T 1 (strs ss)] (fun sv own' => own' = [.grow T 1 (strs (msort ss))]) := by
  refine ⟨hc, fun s vals hT hR => ?_⟩
  obtain ⟨x, xs, rfl, hx, hxs⟩ := hT
  have hxs : xs = [] := hxs
  subst hxs
  obtain ⟨a, n, cap, hρ, rfl⟩ := hx
  have hO := hR.obj 0 _ rfl
  obtain ⟨a', cap', q1, q2, q3, q4⟩ := hO
  rw [hρ] at q1; injection q1 with e1 e2 e3; subst e1 e2 e3
  have hsl : (strs ss).length = ss.length := by simp [strs]
  have hml : (msort ss).length = ss.length := by simp [msort]
  rcases q4 with ⟨rfl, hnil, rfl, hh⟩ | ⟨b, vs, rfl, hh, hcap, hrr⟩
  · have : ss = [] := by simpa [strs] using hnil
    subst this
    refine (hS.2 none 0 s.w).mono ?_
    rintro e w' ⟨rfl, rfl⟩
    refine ⟨.tuple #[], .any, _, s, rfl, rfl, trivial, hR, Step.refl s, fun _ _ _ => rfl, ?_⟩
    simp [msort, strs]
  · have hb : s.w.heap[b]? = some (.cells vs T (0, 0)) := hR.inh 0 b _ (by rw [hh]; exact sg_same _ _)
    have hlt : b < s.w.heap.size := (Array.getElem?_eq_some_iff.1 hb).1
    have hcap' : cap ≤ vs.size := by omega
    have htake := (strs_rel ss vs.toList).1 hrr
    have hcall := hS.1 b 0 cap ss s.w (holds_of_block hb htake) hlt hl
    rw [← hsl] at hcall
    refine hcall.mono ?_
    rintro e w' ⟨rfl, k, os, rfl⟩
    have hg := grownBy_sorted (w := s.w) (g := b) (n := k) (os := os) (msort ss).toArray
    have hnew := heap_sorted (w := s.w) (g := b) (n := k) (os := os) (msort ss).toArray hb
    have := rel_gen (own' := [.grow T 1 (strs (msort ss))]) hR s.ρ (upd s.h 0 (PH.sg b (.cells (putCells encStr 0 (msort ss).toArray vs) T (0, 0)))) _ (Rle.refl _) ?_ ?_ ?_ ?_ ?_ ?_ hg.size hg.os hg.tape hg.output
    · exact ⟨.tuple #[], .any, _, ⟨s.F, s.ρ, _, _⟩, rfl, rfl, trivial, this.1, this.2, fun _ _ _ => rfl, rfl⟩
    · intro i o hi
      rcases i with _ | i
      · injection hi with hi; subst hi
        right
        rw [upd_same, hρ]
        have hl2 : (strs (msort ss)).length = (strs ss).length := by simp [strs, hml]
        refine ⟨_, cap, by rw [hl2], fun r hr => by obtain ⟨y, _, rfl⟩ := List.mem_map.1 hr; rfl, by rw [hl2]; exact q3, .inr ⟨b, _, rfl, rfl, by simp [putCells]; omega, ?_⟩⟩
        rw [strs_rel]
        exact take_putCells vs (msort ss) (by omega)
      · simp at hi
    · intro i hi
      simp only [List.length_cons, List.length_nil] at hi
      rw [upd_ne _ _ (by omega)]
      exact hR.out i hi
    · intro i b' hb'
      by_cases e : i = 0
      · subst e; rw [upd_same] at hb'
        have := sg_ne _ hb'
        exact .inl ⟨0, by rw [hh, this, sg_same]; nofun⟩
      · rw [upd_ne _ _ e] at hb'; exact .inl ⟨i, hb'⟩
    · intro i j b' h1 h2
      have key : ∀ i, upd s.h 0 (PH.sg b (.cells (putCells encStr 0 (msort ss).toArray vs) T (0, 0))) i b' ≠ none → s.h i b' ≠ none := fun i h => by
        by_cases e : i = 0
        · subst e; rw [upd_same] at h; rw [hh, sg_ne _ h, sg_same]; nofun
        · rwa [upd_ne _ _ e] at h
      exact hR.dd _ _ _ (key i h1) (key j h2)
    · intro i b' o hb'
      by_cases e : i = 0
      · subst e; rw [upd_same] at hb'
        obtain ⟨rfl, rfl⟩ := sg_some hb'
        exact hnew
      · rw [upd_ne _ _ e] at hb'
        have hne : b' ≠ b := by
          rintro rfl
          exact e (hR.dd i 0 b' (by rw [hb']; nofun) (by rw [hh, sg_same]; nofun))
        rw [hg.block b' (Array.getElem?_eq_some_iff.1 (hR.inh _ _ _ hb')).1 (by simpa using hne)]
        exact hR.inh _ _ _ hb'
    · intro b' hb' hno
      refine hg.block b' hb' ?_
      intro e; injection e with e; subst e
      have := hno 0
      rw [hh, sg_same] at this; cases this
end Go.AM
namespace Go.AM
open Go
set_option autoImplicit false
set_option linter.unusedVariables false

section
variable {C : Cx} {G : Nat → Option (List SV)} {n0 : Nat} {own own2 own3 own' : List SO} {s s' : St} {env env2 env3 : Env} {Q : SV → List SO → Prop} {o : Oper}

theorem lend_sub {i z off len : Nat} {full : Bool} {T : TypeId} {rows : List (List SV)} (hi : own[i]? = some (.grow T z rows)) (h : off + len ≤ rows.length) : lend own (.sub i z off len full) = .fsl z ((rows.drop off).take len) full := by
  simp only [lend, hi, lendG]
  rw [if_pos ⟨by first | rfl | trivial, h⟩]
theorem lend_gs {i z : Nat} {T : TypeId} {rows : List (List SV)} (hi : own[i]? = some (.grow T z rows)) : lend own (.gs i) = .fsl z rows false := by
  simp only [lend, hi, lendG]
theorem lend_asl {i off len : Nat} {full : Bool} {T : TypeId} {cs : List SV} (hi : own[i]? = some (.cells T cs)) (hc : cs.all SV.clean = true) (h : off + len ≤ cs.length) : lend own (.asl i 1 off len full) = .fsl 1 (((cs.drop off).take len).map fun c => [c]) full := by
  simp only [lend, hi, lendC, hc, if_true]
  rw [if_pos ⟨by first | rfl | trivial, h⟩]
/-- A nil slice in an object's cell is read as one that grows. -/
theorem Red.nilC {j k : Nat} {T : TypeId} {cs : List SV} (T' : TypeId) (z : Nat) (hn : n0 ≤ own.length) (hj : own[j]? = some (.cells T cs)) (hk : cs[k]? = some (.v (.slice none 0 0))) :
    Red G n0 env own env (own.set j (.cells T (cs.set k (.gs own.length))) ++ [.grow T' z []]) := by
  intro a s h1 h2
  have hjl : j < own.length := (List.getElem?_eq_some_iff.1 hj).1
  have hr : Rle s.ρ (upd s.ρ own.length (.slice none 0 0)) := by
    intro i hi
    by_cases e : i = own.length
    · subst e; exact absurd (h2.out _ (Nat.le_refl _)).1 hi
    · exact upd_ne _ _ e
  have hh : ∀ i, i = own.length → s.h i = PH.none := fun i hi => (h2.out i (by omega)).2
  have h34 := rel_gen h2 (upd s.ρ own.length (.slice none 0 0)) s.h s.w (own' := own.set j (.cells T (cs.set k (.gs own.length))) ++ [.grow T' z []]) hr ?_ ?_ ?_ ?_ ?_ ?_ (Nat.le_refl _) rfl rfl rfl
  · exact ⟨⟨s.F, upd s.ρ own.length (.slice none 0 0), s.h, s.w⟩, rfl, fun u => VRel.mono (PHle.refl _) _ _ hr (h1 u), h34.1, h34.2, fun i hi _ => upd_ne _ _ (by omega)⟩
  · intro i o hi
    by_cases e : i < own.length
    · rw [List.getElem?_append_left (by simpa using e)] at hi
      by_cases ej : i = j
      · subst ej
        rw [List.getElem?_set_self e] at hi
        injection hi with hi; subst hi
        right
        obtain ⟨b, vs, q1, q2, q3, q4⟩ := h2.obj i _ hj
        rw [upd_ne _ _ (by omega)]
        refine ⟨b, vs, q1, q2, ?_, by simp [q4]⟩
        rw [PRel_iff] at q3 ⊢
        intro m x hm
        by_cases em : k = m
        · subst em
          have hkl : k < cs.length := (List.getElem?_eq_some_iff.1 hk).1
          rw [List.getElem?_set_self hkl] at hm
          injection hm with hm; subst hm
          obtain ⟨y, hy, ho, hv⟩ := q3 k _ hk
          exact ⟨y, hy, ho, none, 0, 0, upd_same _ _ _, hv⟩
        · rw [List.getElem?_set_ne em] at hm
          obtain ⟨y, hy, ho, hv⟩ := q3 m _ hm
          exact ⟨y, hy, ho, VRel.mono (PHle.refl _) _ _ hr hv⟩
      · rw [List.getElem?_set_ne (Ne.symm ej)] at hi
        exact .inl ⟨hi, rfl, upd_ne _ _ (by omega)⟩
    · rw [List.getElem?_append_right (by simp; omega)] at hi
      have e0 : i - (own.set j (.cells T (cs.set k (.gs own.length)))).length = 0 := by
        rcases Nat.eq_zero_or_pos (i - (own.set j (.cells T (cs.set k (.gs own.length)))).length) with h | h
        · exact h
        · rw [List.getElem?_eq_none (by simp at h ⊢; omega)] at hi; cases hi
      rw [e0] at hi
      simp only [List.getElem?_cons_zero, Option.some.injEq] at hi
      subst hi
      have ei : i = own.length := by rw [List.length_set] at e0; omega
      right
      rw [ei, upd_same, hh _ rfl]
      exact ⟨none, 0, rfl, nofun, Nat.le_refl _, .inl ⟨rfl, rfl, rfl, rfl⟩⟩
  · intro i hi
    simp only [List.length_append, List.length_cons, List.length_nil, List.length_set] at hi
    have := h2.out i (by omega)
    exact ⟨by rw [upd_ne _ _ (by omega)]; exact this.1, this.2⟩
  · intro i b hb; exact .inl ⟨i, hb⟩
  · exact h2.dd
  · exact h2.inh
  · intro b _ _; rfl

/-! ### Freezing, seen within tuples -/
def frzT (i z : Nat) (rows : List (List SV)) : SV → SV
  | .tup xs => .tup (xs.map (frz i z rows))
  | .agg xs => .agg (xs.map (frz i z rows))
  | s => frz i z rows s
theorem frz_tupL {i : Nat} {T : TypeId} {z : Nat} {rows : List (List SV)} (h2 : Rel G own s) (hi : own[i]? = some (.grow T z rows)) : ∀ (xs : List SV) (vs : List Value), TRel s.F s.ρ xs vs → TRel (s.freeze i).F (s.freeze i).ρ (xs.map (frz i z rows)) vs
  | [], _, h => h
  | x :: xs, vs, ⟨y, ys, e, h1, h3⟩ => ⟨y, ys, e, frz_rel h2 hi x y h1, frz_tupL h2 hi xs ys h3⟩
theorem frzT_rel {i : Nat} {T : TypeId} {z : Nat} {rows : List (List SV)} (h2 : Rel G own s) (hi : own[i]? = some (.grow T z rows)) (x : SV) (v : Value) (h : VRel s.F s.ρ x v) : VRel (s.freeze i).F (s.freeze i).ρ (frzT i z rows x) v := by
  cases x with
  | tup xs => obtain ⟨vs, e, h1⟩ := h; exact ⟨vs, e, frz_tupL h2 hi _ _ h1⟩
  | agg xs => obtain ⟨vs, e, h1, h3⟩ := h; exact ⟨vs, e, frz_oneL h2 hi _ _ h1, by simp [h3]⟩
  | _ => exact frz_rel h2 hi _ _ h
theorem RedV.freeze {sv : SV} {i : Nat} {T : TypeId} {z : Nat} {rows : List (List SV)} (hi : own[i]? = some (.grow T z rows)) : RedV G n0 sv own (frzT i z rows sv) (frzOs i z rows (own.set i .gone)) := by
  intro a s h1 h2
  obtain ⟨s2, q1, q2, q3, q4, q5⟩ := Red.freezeC (env := []) (n0 := n0) hi a s (fun t => trivial) h2
  have hlt : i < own.length := (List.getElem?_eq_some_iff.1 hi).1
  obtain ⟨h3, h4⟩ := rel_freeze h2 i hlt
  obtain ⟨s', r1, r2, r3, r4, r5⟩ := Red.freezeC (env := [(0, .any)]) (n0 := n0) (G := G) hi a s (fun t => by simp only [Env.get]; split <;> trivial) h2
  refine ⟨s.freeze i, rfl, ?_, ?_, h4, fun _ _ _ => rfl⟩
  · intro t
    have := h1 t
    simp only [Env.get] at this ⊢
    split
    · rename_i e; rw [if_pos e] at this; exact frzT_rel h2 hi _ _ this
    · trivial
  · refine ⟨?_, ?_, h3.dF, h3.dd, h3.inF, h3.inh, h3.glob⟩
    · intro k o hk
      rw [frzOs_get] at hk
      simp only [Option.map_eq_some_iff] at hk
      obtain ⟨o', ho', rfl⟩ := hk
      have hk := h3.obj k o' ho'
      cases o' with
      | cells T' cs =>
        obtain ⟨b, vs, e1, e2, e3, e4⟩ := hk
        by_cases e : k = i
        · subst e; rw [List.getElem?_set_self hlt] at ho'; cases ho'
        · rw [List.getElem?_set_ne (Ne.symm e)] at ho'
          obtain ⟨b2, vs2, f1, f2, f3, f4⟩ := h2.obj k _ ho'
          refine ⟨b, vs, e1, e2, ?_, by simp [e4]⟩
          have eb : b2 = b := by have h := f1.symm.trans e1; injection h with h; injection h with h; injection h
          have ev : vs2 = vs := by
            have hh : s.h k b = (s.freeze i).h k b := by show _ = upd s.h i PH.none k b; rw [upd_ne _ _ e]
            have q : s.h k b = some (.cells vs T' (0, 0)) := by rw [hh, e2]; simp [PH.sg]
            rw [f2, eb] at q; simp [PH.sg] at q; exact q
          rw [← ev]
          exact frz_oneL h2 hi _ _ f3
      | grow => exact hk
      | rep => exact hk
      | gone => exact hk
    · intro k hk
      rw [frzOs_length] at hk
      exact h3.out k hk

/-- An array's part, handed back as a slice that nobody writes any more. -/
def frzA (i : Nat) (cs : List SV) : SV → SV
  | .asl j z off len full => if j = i ∧ z = 1 ∧ off + len ≤ cs.length then .fsl 1 (((cs.drop off).take len).map fun c => [c]) full else .asl j z off len full
  | s => s
def frzAT (i : Nat) (cs : List SV) : SV → SV
  | .tup xs => .tup (xs.map (frzA i cs))
  | s => frzA i cs s
theorem frzA_rel {i : Nat} {T : TypeId} {cs : List SV} (h2 : Rel G own s) (hi : own[i]? = some (.cells T cs)) (hcl : cs.all SV.clean = true) (x : SV) (v : Value) (h : VRel s.F s.ρ x v) : VRel (s.freeze i).F (s.freeze i).ρ (frzA i cs x) v := by
  have hm := VRel.mono (freeze_le i) _ _ (Rle.refl _) h
  cases x with
  | asl j z off len full =>
    simp only [frzA]
    split
    · rename_i hc
      obtain ⟨rfl, rfl, hle⟩ := hc
      obtain ⟨b, hρ, a2, cap2, hv, k1, k2, k3⟩ := h
      obtain ⟨b', vs, q1, q2, q3, q4⟩ := h2.obj j _ hi
      rw [hρ] at q1; injection q1 with q1; injection q1 with q1; injection q1 with q1; subst q1
      have hl : (((cs.drop off).take len).map fun c => [c]).length = len := by simp; omega
      have hz : ∀ r ∈ (((cs.drop off).take len).map fun c => [c]), r.length = 1 := fun r hr => by obtain ⟨x, _, rfl⟩ := List.mem_map.1 hr; rfl
      refine ⟨some a2, cap2, by rw [hl]; exact hv, by rw [hl]; exact k1, by rw [hl]; exact k2, hz, fun hne => ?_⟩
      have hl0 : len ≠ 0 := by intro h0; subst h0; simp at hne
      have hb2 := k3 hl0
      have hh : s.h j b = some (.cells vs T (0, 0)) := by rw [q2]; simp [PH.sg]
      have hFn := h2.dF j b (by rw [hh]; nofun)
      refine ⟨b, off, vs, T, (0, 0), by rw [hb2], by simp only [St.freeze, hFn, hh], ?_⟩
      rw [RRel_iff 1 _ _ hz]
      intro k r hk
      have q3' := (PRel_iff _ _).1 (PRel.mono (freeze_le j) _ _ (Rle.refl _) (PRel_clean (ρ' := junks) hcl q3))
      rw [List.getElem?_map] at hk
      simp only [Option.map_eq_some_iff] at hk
      obtain ⟨c, hk, rfl⟩ := hk
      rw [List.getElem?_take] at hk
      split at hk
      · rw [List.getElem?_drop] at hk
        obtain ⟨x, hx, ho, hvx⟩ := q3' _ _ hk
        rw [List.drop_drop, Nat.mul_one]
        have hd : (vs.toList.drop (off + k)) = x :: vs.toList.drop (off + k + 1) := by
          obtain ⟨hlt, e⟩ := List.getElem?_eq_some_iff.1 hx
          rw [List.drop_eq_getElem_cons hlt, e]
        rw [hd]
        exact ⟨x, _, rfl, ho, hvx, trivial⟩
      · cases hk
    · exact hm
  | _ => exact hm
theorem frzA_tupL {i : Nat} {T : TypeId} {cs : List SV} (h2 : Rel G own s) (hi : own[i]? = some (.cells T cs)) (hcl : cs.all SV.clean = true) : ∀ (xs : List SV) (vs : List Value), TRel s.F s.ρ xs vs → TRel (s.freeze i).F (s.freeze i).ρ (xs.map (frzA i cs)) vs
  | [], _, h => h
  | x :: xs, vs, ⟨y, ys, e, h1, h3⟩ => ⟨y, ys, e, frzA_rel h2 hi hcl x y h1, frzA_tupL h2 hi hcl xs ys h3⟩
theorem RedV.freezeA {sv : SV} {i : Nat} {T : TypeId} {cs : List SV} (hi : own[i]? = some (.cells T cs)) (hcl : cs.all SV.clean = true) : RedV G n0 sv own (frzAT i cs sv) (own.set i .gone) := by
  intro a s h1 h2
  have hlt : i < own.length := (List.getElem?_eq_some_iff.1 hi).1
  obtain ⟨h3, h4⟩ := rel_freeze h2 i hlt
  refine ⟨s.freeze i, rfl, ?_, h3, h4, fun _ _ _ => rfl⟩
  intro t
  have := h1 t
  simp only [Env.get] at this ⊢
  split
  · rename_i e
    rw [if_pos e] at this
    cases sv with
    | tup xs => obtain ⟨vs, e, h1⟩ := this; exact ⟨vs, e, frzA_tupL h2 hi hcl _ _ h1⟩
    | _ => exact frzA_rel h2 hi hcl _ _ this
  · trivial
/-- A slice is frozen for a call, and not read again by the caller as its own. -/
theorem cg_freeze {f : FuncId} {args : List SV} {i : Nat} {T : TypeId} {z : Nat} {rows : List (List SV)} {d : Option Tmp} {K : Env → List SO → Prop} (hi : own[i]? = some (.grow T z rows))
    (h : CG C f (args.map (frz i z rows)) (own.set i .gone) d K env) : CG C f args own d K env := by
  refine ⟨h.1, fun s vals hT hR => ?_⟩
  have hlt : i < own.length := (List.getElem?_eq_some_iff.1 hi).1
  obtain ⟨h3, h4⟩ := rel_freeze hR i hlt
  refine (h.2 (s.freeze i) vals (frz_tupL hR hi args vals hT) h3).mono ?_
  rintro e w' ⟨v, sv, own', s', e1, e2, e3, e4, e5, e6, e7⟩
  exact ⟨v, sv, own', s', e1, e2, e3, e4, Step.trans h3.dF h4 e5, e6, e7⟩
/-- A weaker reading of a call's arguments. -/
theorem cg_args {f : FuncId} {args args2 : List SV} {d : Option Tmp} {K : Env → List SO → Prop} (h : ∀ (F : PH) (ρ : Nat → Value) (vs : List Value), TRel F ρ args vs → TRel F ρ args2 vs)
    (hg : CG C f args2 own d K env) : CG C f args own d K env := ⟨hg.1, fun s vals hT hR => hg.2 s vals (h _ _ _ hT) hR⟩
theorem nil_fsl {F : PH} {ρ : Nat → Value} {v : Value} (z : Nat) (full : Bool) (h : VRel F ρ (.v (.slice none 0 0)) v) : VRel F ρ (.fsl z [] full) v :=
  ⟨none, 0, h, Nat.le_refl _, fun _ => rfl, nofun, fun h => absurd rfl h⟩
end
end Go.AM
