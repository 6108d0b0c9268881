/- The law FnExactDeskWords at its plain functions: after some rounds it tells true. No conditions. -/
import Derived.Test.YtgcckeglmhbnmaaPFnExactDeskWordsx1
namespace Go.Proofs.Ytgcckeglmhbnmaa.Pure
open Go.RowKit Go.Proofs.Ytgcckeglmhbnmaa.PFnExactDeskWords Go.Proofs.YtgcckeglmhbnmaaW.PrintWords Go.Proofs.YtgcckeglmhbnmaaW.PrintLast

theorem FnExactDeskWords : laws_FnExactDeskWords.Pure := ⟨14, by decide +kernel⟩

end Go.Proofs.Ytgcckeglmhbnmaa.Pure
