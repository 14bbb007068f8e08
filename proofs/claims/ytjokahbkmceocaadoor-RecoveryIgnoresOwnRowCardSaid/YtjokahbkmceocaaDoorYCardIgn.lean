/- The law RecoveryIgnoresOwnRow of chapter 47 answers true: what the recovering party's own row holds changes nothing of what it recovers, nor of what the parties see. It is proved for every input that can be read, in whatever memory, on every schedule, with the package-level variable privity/field.exps as the program's text lays it. -/
import Derived.Test.YtjokahbkmceocaaDoorYCardArgs
import Derived.Test.YtjokahbkmceocaaDoorYLawIgn
set_option linter.unusedVariables false
set_option linter.unusedSimpArgs false
namespace Pv
open Go Go.Proofs Go.Proofs.YtjokahbkmceocaaDoor Go.ChangeShapes Go.WideShapes Go.ChangeAt Go.RowKit

set_option maxRecDepth 100000 in
theorem rign_lifted (os : Os) (started : os.Started) (H : Type) (enc : TypeId × Value → H) :
    ReturnsInHanded {} Tryd.checked os 6 .any (fun w args => (Rows.recoveryIgnoresOwnRowSpec.pre enc Tryd.prog Tryd.f6 [] false w args ∧ laidMetH Tryd.prog laidE w) ∧ sizedMet enc Tryd.prog Tryd.f6 (OpenSpec.ofChange Rows.recoveryIgnoresOwnRowSpec) false w args)
      (Rows.recoveryIgnoresOwnRowSpec.post enc Tryd.prog Tryd.f6 false true false false) := by
  refine returnsInHanded_of_change_and (C := Tryd.checked) (X := fun w _ => laidMetH Tryd.prog laidE w) (fun _ _ _ hh h => h.of_heap hh) own started (by kernel_rfl) Tryd.func6
    (ChangeSpec.witness_shaped (enc := enc) (C := Tryd.checked) (os := os) (X := fun w _ => laidMetH Tryd.prog laidE w) false (World.doorLaid Tryd.prog 400 os) #[.agg #[.int .u64 0, .int .i64 0, .int .i64 0, .slice none 0 0, .slice none 0 0, .slice none 0 0, .int .u8 0, .slice none 0 0, .slice none 0 0], .slice none 0 0] 8 rfl (World.shaped_of_RefB (by kernel_rfl) (by kernel_rfl)) (by kernel_rfl) (by kernel_rfl) (by kernel_rfl) (door_met os _)) ?_
  intro W base args ds gs before hval0 hW _ _ hL _
  have hval : ∀ (j : Nat) t v, Tryd.f6.params[j]? = some t → args[j]? = some v → Value.okWide Tryd.prog W .any base t v := hval0
  have hW' := hW
  obtain ⟨pp, pq, hA0, hV, rfl, hfz, hnd⟩ := hW
  have hA : DataW.TrodAll enc Tryd.prog W 0 (fun _ => true) true Tryd.f6.params.toList args.toList ds pp := hA0
  rw [Tryd.params6] at hA hval
  obtain ⟨v0, v1, d0, d1, p0, p1, rfl, rfl, rfl, h0, h1⟩ := trodAll_two hA
  obtain ⟨p, n, t, vc, vd, vt, wh, vl, vs, corrupt, devs, tapes, L, spoil, rfl, hc, hd, ht, hwh, hl, hs⟩ := ask_open (hval 0 32 v0 rfl rfl) h0
  obtain ⟨xs1, hx1⟩ := words_open (hval 1 30 v1 rfl rfl) h1
  refine (rign_any p n t vc vd vt vl vs wh corrupt devs tapes L spoil W (of_laid hL) hc hd ht hl hs hwh _ xs1 hx1).mono fun e W' ⟨he, hB⟩ => ?_
  subst he
  exact ⟨_, rfl, law_post hW' rfl rfl (fun t ht => by
    rw [Tryd.params6] at ht
    simp only [List.mem_cons, List.not_mem_nil, or_false] at ht
    rcases ht with rfl | rfl
    · exact reads_ask
    · exact ⟨by kernel_rfl, of_decide_eq_true (by kernel_rfl)⟩) rfl hB⟩
theorem rign_row : Rows.RecoveryIgnoresOwnRowSaid :=
  OpenClaim.holds_of_wide 6 Tryd.f6 rfl rfl rfl rfl rfl rfl rfl ⟨rfl, rfl, rfl, rfl, rfl⟩ rfl rfl rfl rfl rfl (by kernel_rfl) Tryd.func6 (by kernel_rfl)
    (of_decide_eq_true (by kernel_rfl)) (by unfold Func.isWrapper; first | (rw [if_pos (by decide +kernel)]; kernel_rfl) | (rw [if_neg (by decide +kernel)]; exact ⟨rfl, rfl⟩))
    (fun os started H enc _ => rign_lifted os started H enc)
end Pv
namespace Go.Proofs.YtjokahbkmceocaaDoor
open Go Pv
theorem rign_card : Rows.RecoveryIgnoresOwnRowCardSaid :=
  Claim7.holds_tied_plain_at .later [] [.data] true (true, Rows.recoveryIgnoresOwnRowCard.stood.harness.2) false
    rign_row (fun _ h => by cases h) (by kernel_rfl) (fun _ h => by cases h) recoveryIgnoresOwnRow_row_tie rfl ⟨rfl, rfl⟩ (by kernel_rfl) rfl
    (fun f fn hf hfn => by
      obtain rfl : f = 6 := Option.some.inj ((show Tryd.prog.funcNamed "privity/privitylaw47.RecoveryIgnoresOwnRow" = some 6 by kernel_rfl).symm.trans hf) |>.symm
      obtain rfl : fn = Tryd.f6 := (Option.some.inj (Tryd.func6.symm.trans hfn)).symm
      exact ⟨by kernel_rfl, fun j t ht => by
        rw [Tryd.params6] at ht
        match j, ht with
        | 0, ht => simp at ht; subst ht; exact (show Tryd.prog.wantsStandIn 32 = false by kernel_rfl)
        | 1, ht => simp at ht; subst ht; exact (show Tryd.prog.wantsStandIn 30 = false by kernel_rfl)
        | j + 2, ht => simp at ht⟩)
    (by kernel_rfl)
#print axioms rign_card
end Go.Proofs.YtjokahbkmceocaaDoor
