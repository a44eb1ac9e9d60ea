/- QuiverNames: the closed law that every error, limit and kind of package api is the document's returns true. No condition. -/
import Derived.Test.YtbbakifachemcaaPQuiverNamesx1
namespace Go.Proofs.Ytbbakifachemcaa.Pure
open Go.RowKit Go.Proofs.Ytbbakifachemcaa.PQuiverNames Go.Proofs.YtbbakifachemcaaW.PrintWords Go.Proofs.YtbbakifachemcaaW.PrintLast

/-- YOURS: quiverlaw0_QuiverNames.f  = some true
What it reaches (each with k first where it has rounds; `.mono`: more rounds tell the same; `.l0`, ..: its loops, with `.mono_l`): quiverlaw0_Num.f, quiverlaw0_errors1.f, quiverlaw0_errors2.f, quiverlaw0_errors3.f, quiverlaw0_numbers1.f, quiverlaw0_numbers2.f, quiverlaw0_numbers3.f, quiverlaw0_QuiverNames.f -/
theorem QuiverNames : quiverlaw0_QuiverNames.Pure := by
  unfold quiverlaw0_QuiverNames.Pure
  rfl

end Go.Proofs.Ytbbakifachemcaa.Pure
