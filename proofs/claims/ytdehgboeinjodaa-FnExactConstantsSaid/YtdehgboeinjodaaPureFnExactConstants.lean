/- The law of the constants returns true: the program's constants are the document's. -/
import Derived.Test.YtdehgboeinjodaaPFnExactConstantsx1
namespace Go.Proofs.Ytdehgboeinjodaa.Pure
open Go.RowKit Go.Proofs.Ytdehgboeinjodaa.PFnExactConstants Go.Proofs.YtdehgboeinjodaaW.PrintWords Go.Proofs.YtdehgboeinjodaaW.PrintLast
theorem FnExactConstants : laws_FnExactConstants.Pure := rfl
end Go.Proofs.Ytdehgboeinjodaa.Pure
