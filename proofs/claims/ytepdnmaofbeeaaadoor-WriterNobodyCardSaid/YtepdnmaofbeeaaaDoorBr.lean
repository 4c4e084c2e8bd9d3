/-
  From a row's reading of its arguments to the machine's.
-/
import Derived.Test.YtepdnmaofbeeaaaDoorMb
import Derived.ProofKit
import Derived.Test.YtepdnmaofbeeaaaDoorFb
namespace Go.AM
open Go
set_option autoImplicit false
set_option linter.unusedVariables false

/-! ### From a row's reading of its arguments -/
/-- All that is there when the call begins is never written. -/
def frzSt (W : World) : St := { F := fun b => W.heap[b]?, ρ := junks, h := fun _ => PH.none, w := W }
theorem rel_frz {G : Nat → Option (List SV)} {W : World} (hg : ∀ g cs, G g = some cs → ∃ c E fz, W.heap[g]? = some (.cells c E fz) ∧ PRel (frzSt W).F junks cs c.toList) : Rel G [] (frzSt W) where
  obj i o h := by simp at h
  out i h := ⟨rfl, rfl⟩
  dF i b h := absurd rfl h
  dd i j b h := absurd rfl h
  inF b o h := h
  inh i b o h := by cases h
  glob := hg
theorem below_frz {G : Nat → Option (List SV)} {own : List SO} {W : World} {s : St} (hs : Step (frzSt W) s) (hR : Rel G own s) : RowKit.Below W.heap.size W s.w where
  os := hs.os
  tape := hs.tape
  output := hs.output
  size := hs.size
  block k hk := by
    have h : (frzSt W).F k = some W.heap[k] := by show W.heap[k]? = _; simp [hk]
    rw [hR.inF k _ (hs.F k _ h)]
    simp [hk]
end Go.AM
namespace Go.AM
open Go Go.Proofs
set_option autoImplicit false
set_option maxRecDepth 100000

theorem prel_b8 {F : PH} {ρ : Nat → Value} : ∀ (l : List UInt8) (ws : List Value), (∀ i (h : i < l.length), ws[i]? = some (.int .u8 (l[i].toNat : Int))) → PRel F ρ (l.map b8) ws
  | [], ws, _ => trivial
  | b :: l, ws, h => by
    have h0 := h 0 (by simp)
    cases ws with
    | nil => simp at h0
    | cons w ws =>
      simp only [List.getElem?_cons_zero, List.getElem_cons_zero, Option.some.injEq] at h0
      refine ⟨w, ws, rfl, by rw [h0]; rfl, h0, prel_b8 l ws fun i hi => ?_⟩
      have := h (i + 1) (by simp; omega)
      simpa using this
def u8s (zs : List Int) : List UInt8 := zs.map fun z => UInt8.ofNat z.toNat
theorem u8s_length (zs : List Int) : (u8s zs).length = zs.length := by simp [u8s]
theorem vrel_bytes {W : World} {a : Addr} {len cap : Nat} {zs : List Int} (hcell : ∀ i, i < zs.length → W.cell? (a.add i) = some (.int .u8 (zs.getD i 0))) (hwf : ∀ n ∈ zs, (Lit.int .u8 n).wf = true) (hl : len ≤ cap) (hz : len ≤ zs.length) :
    VRel (frzSt W).F junks (.fsl 1 (bytes (u8s (zs.take len))) false) (.slice (some a) len cap) := by
  have hlen : (bytes (u8s (zs.take len))).length = len := by rw [bytes_length, u8s_length, List.length_take]; omega
  refine ⟨some a, cap, by rw [hlen], by rw [hlen]; exact hl, nofun, ?_, fun hne => ?_⟩
  · intro r hr
    simp only [bytes, List.mem_map] at hr
    obtain ⟨b, _, rfl⟩ := hr; rfl
  · have h0 : 0 < len := by
      rcases Nat.eq_zero_or_pos len with h | h
      · exact absurd (List.eq_nil_of_length_eq_zero (by rw [hlen, h])) hne
      · exact h
    have hc0 := hcell 0 (by omega)
    have key : ∃ c E fz, W.heap[a.block]? = some (.cells c E fz) ∧ a.spot = none ∧ ∀ i, i < zs.length → c[a.off + i]? = some (.int .u8 (zs.getD i 0)) := by
      have ha0 : a.add 0 = a := by simp [Addr.add]
      rw [ha0] at hc0
      have hspot : a.spot = none := by
        unfold World.cell? at hc0
        split at hc0
        · cases hs : a.spot with
          | none => rfl
          | some x => rw [hs] at hc0; cases hc0
        · cases hc0
      have hadd : ∀ i, a.add i = ⟨a.block, a.off + i, none⟩ := fun i => by
        unfold Addr.add
        split
        · rename_i h; subst h; cases a; simp only at hspot; subst hspot; rfl
        · rfl
      have hc1 := hcell 0 (by omega)
      rw [hadd] at hc1
      unfold World.cell? at hc1
      split at hc1
      · rename_i c E fz hh
        refine ⟨c, E, fz, hh, hspot, fun i hi => ?_⟩
        have := hcell i hi
        rw [hadd] at this
        unfold World.cell? at this
        rw [hh] at this
        exact this
      · cases hc1
    obtain ⟨c, E, fz, hh, hs, hi⟩ := key
    refine ⟨a.block, a.off, c, E, fz, ?_, hh, ?_⟩
    · cases a; simp only at hs; subst hs; rfl
    · rw [PRel_flatten, bytes_flat]
      refine prel_b8 _ _ fun i h => ?_
      rw [u8s_length, List.length_take] at h
      have := hi i (by omega)
      rw [List.getElem?_drop, Array.getElem?_toList, this]
      have hm : zs[i]? = some zs[i] := List.getElem?_eq_getElem (by omega)
      have hw := hwf zs[i] (List.getElem_mem (by omega))
      simp only [u8s, List.getElem_map, List.getElem_take]
      rw [List.getD_eq_getElem?_getD, hm, Option.getD_some]
      have hb : 0 ≤ zs[i] ∧ zs[i] < 256 := by
        have : (decide (0 ≤ zs[i]) && decide (zs[i] ≤ 255)) = true := hw
        simp only [Bool.and_eq_true, decide_eq_true_eq] at this
        omega
      congr 2
      simp; omega
theorem vrel_nil {W : World} : VRel (frzSt W).F junks (.fsl 1 (bytes []) false) (.slice none 0 0) := nil_fsl 1 false rfl
end Go.AM
