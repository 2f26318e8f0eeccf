/-
  The tied card of FnExactPathText: for every input it returns true, and each argument reads afterwards as it read before; the three listed tables are tied to the program's text.
-/
import Derived.Test.YtfdbhlhlhjdpbaaDoorRowPathText
import Derived.Test.YtfdbhlhlhjdpbaaDoorCards
import Derived.Test.YtfdbhlhlhjdpbaaDoorTie
import Derived.SevenTiedAt
namespace Go.Proofs.YtfdbhlhlhjdpbaaDoor.cardPathText
open Go Go.Proofs.YtfdbhlhlhjdpbaaDoor

theorem proved : Rows.FnExactPathTextCardSaid :=
  Claim7.holds_tied_plain_at .later [] Rows.fnExactPathTextCard.laidKinds true Rows.fnExactPathTextCard.stood.harness true
    lawPathTextRow.row_holds (fun _ h => by cases h) (by kernel_rfl) (fun _ h => by cases h) fnExactPathText_row_tie rfl ⟨rfl, rfl⟩ (by kernel_rfl) rfl
    (fun f fn hf hfn => by
      obtain rfl : f = 4 := Option.some.inj ((show Tryd.prog.funcNamed Rows.fnExactPathTextRow.func = some 4 by kernel_rfl).symm.trans hf) |>.symm
      obtain rfl : fn = Tryd.f4 := (Option.some.inj (Tryd.func4.symm.trans hfn)).symm
      exact ⟨by kernel_rfl, fun j t ht => by
        rw [Tryd.params4] at ht
        have hm : t ∈ [23] := by simpa using Array.mem_of_getElem? ht
        have hall : ([23].all fun u => !Tryd.prog.wantsStandIn u) = true := by kernel_rfl
        exact (show Tryd.prog.wantsStandIn t = false by simpa using List.all_eq_true.1 hall t hm)⟩)
    (by kernel_rfl)
end Go.Proofs.YtfdbhlhlhjdpbaaDoor.cardPathText
