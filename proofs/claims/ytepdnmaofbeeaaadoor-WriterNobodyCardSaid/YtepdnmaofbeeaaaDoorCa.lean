/-
  WriterNobody answers true at every input, and its arguments read as they did: the card, tied to the program's text. Condition: the package-level variable strandline/crc.half starts as the program's text lays it.
-/
import Derived.Test.YtepdnmaofbeeaaaDoorBr
import Derived.Test.YtepdnmaofbeeaaaDoorRows
import Derived.Test.YtepdnmaofbeeaaaDoorTie
import Derived.Test.YtepdnmaofbeeaaaDoorCards
import Derived.ProofKit
import Derived.LaidMore
import Derived.OpenShut
import Derived.Stop.Joined
import Derived.SevenTiedAt
import Derived.Test.YtepdnmaofbeeaaaDoorSo
/- strandlinelaw23.WriterNobody answers true at every input, and the input reads as it did: the card, tied to the program's text. -/
namespace Go.Proofs.YtepdnmaofbeeaaaDoor
open Go Go.ChangeShapes Go.WideShapes Go.ChangeAt Go.WideMaps Go.WideElems Go.RowKit
open Go.AM (frzSt rel_frz below_frz vrel_bytes vrel_nil)

set_option maxRecDepth 100000
theorem own : ownKnob Tryd.prog.godebug = none := by kernel_rfl
theorem laidOut : laidOutB Tryd.prog = true := by kernel_rfl
theorem gHalf : Tryd.prog.globalNamed "strandline/crc.half" = some 0 := by kernel_rfl
theorem gType : (Tryd.prog.globals[0]?).map (·.type) = some 140 := by kernel_rfl
theorem door_met (os : Os) (args : Array Value) : laidMetH Tryd.prog Rows.writerNobodyRow.laid ((World.doorLaid Tryd.prog 400 os).forCall (fun _ _ => 0) ⟨#[], args, []⟩).memory :=
  laidMetH_of_parts3 (fuel := 8) (laidMet_of_run' 8 (by kernel_rfl) (by kernel_rfl)) (by kernel_rfl) (by kernel_rfl)
theorem glob_of {W : World} (h : laidMetH Tryd.prog Rows.writerNobodyRow.laid W) : ∀ g cs, Go.AM.GH g = some cs → ∃ c E fz, W.heap[g]? = some (.cells c E fz) ∧ Go.AM.PRel (frzSt W).F Go.AM.junks cs c.toList := by
  rw [MakeChecks.laidMetH_plain _ _ _ (by kernel_rfl)] at h
  obtain ⟨ps, ⟨g0, t0, cs0, f0, p0, q0, hg0, ht0, hv0, hd0, _⟩, _⟩ := h
  obtain rfl := Option.some.inj (gHalf.symm.trans hg0)
  obtain rfl := Option.some.inj (gType.symm.trans ht0)
  obtain ⟨xs, m, rfl, hx, hlen, hn, hel⟩ := DataW.trod_array (n := 16) (e := 84) (by kernel_rfl) hd0
  have c1 : Tryd.prog.cellsOf 84 = 1 := by kernel_rfl
  have c16 : Tryd.prog.cellsOf 140 = 16 := by kernel_rfl
  have u32 : Tryd.prog.underlying 84 = some (.int .u32) := by kernel_rfl
  rw [c16] at hlen
  rw [c1] at hel
  simp only [Prod.mk.injEq] at hx
  have hvals : ∀ (i : Nat) (h : i < 16), cs0.toList[i]? = some (.int .u32 (((Go.AM.half.getD i 0).toNat : Nat) : Int)) := by
    intro i hi
    have h1 := hel i hi
    have hxi : xs[i]? = some (xs[i]'(by omega)) := List.getElem?_eq_getElem (by omega)
    rw [hxi] at h1
    obtain ⟨k, e1, e2, _⟩ := DataW.trod_int u32 h1
    have hL : (Rows.laid_strandline_crc_half : DataW Unit) = .agg (Go.AM.half.map fun b => .lit (.int .u32 (b.toNat : Int))) := rfl
    have hx1 := hx.1
    rw [hL] at hx1
    injection hx1 with hx1
    have hx2 := congrArg (·[i]?) hx1
    simp only [List.getElem?_map, hxi, Option.map_some, e2] at hx2
    have hh : Go.AM.half[i]? = some (Go.AM.half[i]'(by simpa [Go.AM.half] using hi)) := List.getElem?_eq_getElem _
    rw [hh] at hx2
    simp only [Option.map_some, Option.some.injEq, DataW.lit.injEq, Lit.int.injEq, true_and] at hx2
    rw [List.getD_eq_getElem?_getD, hh, Option.getD_some, hx2]
    have h3 := congrArg (·[0]?) e1
    simpa using h3
  intro g cs hg
  unfold Go.AM.GH at hg
  split at hg
  · rename_i h0
    subst h0
    injection hg with hg
    subst hg
    have hcell := World.var?_cell hg0 hv0 0
    have h16 : cs0[0]? = some (.int .u32 (((Go.AM.half.getD 0 0).toNat : Nat) : Int)) := by simpa using hvals 0 (by decide)
    rw [h16] at hcell
    unfold World.cell? at hcell
    split at hcell
    · rename_i c E fz hh
      refine ⟨c, E, fz, hh, ?_⟩
      have hc : ∀ (i : Nat), i < 16 → c[i]? = some (.int .u32 (((Go.AM.half.getD i 0).toNat : Nat) : Int)) := by
        intro i hi
        have h1 := World.var?_cell hg0 hv0 i
        have h2 := hvals i hi
        unfold World.cell? at h1
        simp only at hh
        rw [hh] at h1
        rw [Array.getElem?_toList] at h2
        rw [h2] at h1
        exact h1
      have hgen : ∀ (l : List (BitVec 32)) (ws : List Value), (∀ i, i < l.length → ws[i]? = some (.int .u32 (((l.getD i 0).toNat : Nat) : Int))) → Go.AM.PRel (frzSt W).F Go.AM.junks (l.map Go.AM.w32) ws := by
        intro l
        induction l with
        | nil => intro ws _; trivial
        | cons b l ih =>
          intro ws hw
          have h0 := hw 0 (by simp)
          cases ws with
          | nil => simp at h0
          | cons w ws =>
            simp only [List.getElem?_cons_zero, List.getD_cons_zero, Option.some.injEq] at h0
            refine ⟨w, ws, rfl, by rw [h0]; rfl, h0, ih ws fun i hi => ?_⟩
            have := hw (i + 1) (by simp; omega)
            simpa using this
      exact hgen _ _ fun i hi => by rw [Array.getElem?_toList]; exact hc i (by simpa [Go.AM.half] using hi)
    · cases hcell
  · cases hg

theorem bytes_arg {H : Type} {enc : TypeId × Value → H} {W : World} {base : Nat} {r : Reach} {v : Value} {d : DataW H} {ps : List MemPlace} (hok : Value.okWide Tryd.prog W r base 22 v) (h : DataW.Trod enc Tryd.prog W 0 (fun _ => true) true 22 v d ps) :
    ∃ l : List UInt8, Go.AM.VRel (frzSt W).F Go.AM.junks (.fsl 1 (Go.AM.bytes l) false) v := by
  have ht : Tryd.prog.underlying 22 = some (.slice 5) := by kernel_rfl
  have he : Tryd.prog.underlying 5 = some (.int .u8) := by kernel_rfl
  have hc : Tryd.prog.cellsOf 5 = 1 := by kernel_rfl
  obtain ⟨a0, len, cap, rfl⟩ := okWide_slice ht hok
  obtain ⟨fuel, hf⟩ := h
  rcases open_ints ht he hc hf with ⟨hcs, hx⟩ | ⟨a, len', cap', zs, hcs, _, hl, hm, hz, hx, hcell, hwz⟩
  · refine ⟨[], ?_⟩
    have e : (Value.slice a0 len cap) = .slice none 0 0 := by simpa [Value.cells] using hcs
    rw [e]; exact vrel_nil
  · have e : (Value.slice a0 len cap) = .slice (some a) len' cap' := by simpa [Value.cells] using hcs
    rw [e]
    rw [if_pos rfl] at hz
    exact ⟨Go.AM.u8s (zs.take len'), vrel_bytes hcell hwz hl (by omega)⟩

theorem nobody_lifted (hS : Go.AM.SortOK Tryd.prog 71) (os : Os) (started : os.Started) (H : Type) (enc : TypeId × Value → H) :
    ReturnsInHanded {} Tryd.checked os 3 .any (fun w args => (Rows.writerNobodySpec.pre enc Tryd.prog Tryd.f3 [] false w args ∧ laidMetH Tryd.prog Rows.writerNobodyRow.laid w) ∧ sizedMet enc Tryd.prog Tryd.f3 (OpenSpec.ofChange Rows.writerNobodySpec) false w args)
      (Rows.writerNobodySpec.post enc Tryd.prog Tryd.f3 false true false false) := by
  refine returnsInHanded_of_change_and (C := Tryd.checked) (X := fun w _ => laidMetH Tryd.prog Rows.writerNobodyRow.laid w) (fun _ _ _ hh h => h.of_heap hh) own started (by kernel_rfl) Tryd.func3
    (ChangeSpec.witness_shaped (enc := enc) (C := Tryd.checked) (os := os) (X := fun w _ => laidMetH Tryd.prog Rows.writerNobodyRow.laid w) false (World.doorLaid Tryd.prog 400 os) #[.slice none 0 0, .int .i64 0, .slice none 0 0] 8 rfl (World.shaped_of_RefB (by kernel_rfl) (by kernel_rfl)) (by kernel_rfl) (by kernel_rfl) (by kernel_rfl) (door_met os _)) ?_
  intro W base args ds gs before hval0 hW _ _ hL _
  have hval : ∀ (j : Nat) t v, Tryd.f3.params[j]? = some t → args[j]? = some v → Value.okWide Tryd.prog W .any base t v := hval0
  have hW' := hW
  obtain ⟨p, q, hA0, hV, rfl, hfz, hnd⟩ := hW
  have hA : DataW.TrodAll enc Tryd.prog W 0 (fun _ => true) true Tryd.f3.params.toList args.toList ds p := hA0
  rw [Tryd.params3] at hA hval
  obtain ⟨v0, v1, v2, d0, d1, d2, p0, p1, p2, rfl, rfl, rfl, h0, h1, h2⟩ := trodAll_three hA
  obtain ⟨rfl, rfl⟩ := trodVars_none hV
  have hglob := glob_of hL
  have tInt : Tryd.prog.underlying 3 = some (.int .i64) := by kernel_rfl
  have tBool : Tryd.prog.underlying 4 = some .bool := by kernel_rfl
  have h1k := h1
  obtain ⟨lb, r0⟩ := bytes_arg (hval 0 _ v0 rfl rfl) h0
  obtain ⟨n, rfl, _, _, _⟩ := open_int tInt (hval 1 _ v1 rfl rfl) h1
  obtain ⟨ld, r2⟩ := bytes_arg (hval 2 _ v2 rfl rfl) h2
  have hT : Go.AM.TRel (frzSt W).F (frzSt W).ρ [.fsl 1 (Go.AM.bytes lb) false, Go.AM.i64 n, .fsl 1 (Go.AM.bytes ld) false] [v0, .int .i64 n, v2] :=
    ⟨_, _, rfl, r0, _, _, rfl, rfl, _, _, rfl, r2, rfl⟩
  refine ((Go.AM.nobody_fun hS lb false n ld false).2 (frzSt W) _ hT (rel_frz hglob)).mono fun e W' h => ?_
  obtain ⟨v, sv, own', s', rfl, rfl, hv, hR', hS', _, rfl, rfl⟩ := h
  have hv : v = .bool true := hv
  subst hv
  have hb := below_frz hS' hR'
  have hlt : ∀ x ∈ p0 ++ p1 ++ p2 ++ [], x.block < W.heap.size := fun x hx => hW'.lt x hx
  have hr : ∀ t, Tryd.prog.readableRec t = true → t < Tryd.prog.types.size → ∀ v d ps, DataW.Trod enc Tryd.prog W 0 (fun _ => true) true t v d ps → (∀ x ∈ ps, x.block < W.heap.size) →
      DataW.Trod enc Tryd.prog s'.w 0 (fun b => decide (b < W.heap.size)) true t v d ps := fun t q1 q2 v d ps h hx => Below.trod laidOut q1 q2 h hb hx
  refine ⟨_, rfl, [d0, d1, d2], [], _, [], p0 ++ (p1 ++ p2), [], hW', ?_, ?_, rfl, hb.frame _, fun h => by cases h⟩
  · exact trodAll_mk1 (shut_bool tBool _)
  · refine trodAll_mk3 (hr _ (by kernel_rfl) (of_decide_eq_true (by kernel_rfl)) _ _ _ h0 fun x hx => hlt x (by simp [hx])) (hr _ (by kernel_rfl) (of_decide_eq_true (by kernel_rfl)) _ _ _ h1k fun x hx => hlt x (by simp [hx])) (hr _ (by kernel_rfl) (of_decide_eq_true (by kernel_rfl)) _ _ _ h2 fun x hx => hlt x (by simp [hx]))
theorem nobody_holds (hS : Go.AM.SortOK Tryd.prog 71) : Rows.WriterNobodySaid :=
  OpenClaim.holds_of_wide 3 Tryd.f3 rfl rfl rfl rfl rfl rfl rfl ⟨rfl, rfl, rfl, rfl, rfl⟩ rfl rfl rfl rfl rfl (by kernel_rfl) Tryd.func3 (by kernel_rfl)
    (of_decide_eq_true (by kernel_rfl)) (by unfold Func.isWrapper; first | (rw [if_pos (by decide +kernel)]; kernel_rfl) | (rw [if_neg (by decide +kernel)]; exact ⟨rfl, rfl⟩))
    (fun os started H enc _ => nobody_lifted hS os started H enc)
theorem nobody_card (hS : Go.AM.SortOK Tryd.prog 71) : Rows.WriterNobodyCardSaid :=
  Claim7.holds_tied_plain_at .later [] [.data] true (true, "6d4b1993cdcdfc551a7997df80e02eb7e3bae936435ec6dd8b1da7f6105ffe2a") false
    (nobody_holds hS) (fun _ h => by cases h) (by kernel_rfl) (fun _ h => by cases h) writerNobody_row_tie rfl ⟨rfl, rfl⟩ (by kernel_rfl) rfl
    (fun f fn hf hfn => by
      obtain rfl : f = 3 := Option.some.inj ((show Tryd.prog.funcNamed "strandline/strandlinelaw23.WriterNobody" = some 3 by kernel_rfl).symm.trans hf) |>.symm
      obtain rfl : fn = Tryd.f3 := (Option.some.inj (Tryd.func3.symm.trans hfn)).symm
      exact ⟨by kernel_rfl, fun j t ht => by
        rw [Tryd.params3] at ht
        have h3 : t = 22 ∨ t = 3 := by
          rcases j with _ | _ | _ | j
          · exact .inl (by simpa using ht.symm)
          · exact .inr (by simpa using ht.symm)
          · exact .inl (by simpa using ht.symm)
          · simp at ht
        rcases h3 with rfl | rfl
        · exact (show Tryd.prog.wantsStandIn 22 = false by kernel_rfl)
        · exact (show Tryd.prog.wantsStandIn 3 = false by kernel_rfl)⟩)
    (by kernel_rfl)
end Go.Proofs.YtepdnmaofbeeaaaDoor
/- WriterNobody answers true at every input: the card. -/
namespace Go.Proofs.YtepdnmaofbeeaaaDoor
theorem writerNobody_holds : Rows.WriterNobodyCardSaid := nobody_card Go.AM.sort_ok
#print axioms writerNobody_holds
end Go.Proofs.YtepdnmaofbeeaaaDoor
