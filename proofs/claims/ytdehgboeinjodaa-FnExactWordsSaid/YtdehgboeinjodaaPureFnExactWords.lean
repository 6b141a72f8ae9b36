/- The program's Words and the reference's give one list, which is new memory at each call. -/
import Derived.Test.YtdehgboeinjodaaPFnExactWordsx1
import Derived.Test.YtdehgboeinjodaaLib
namespace Go.Proofs.Ytdehgboeinjodaa.Pure
open Go.RowKit Go.Proofs.Ytdehgboeinjodaa.PFnExactWords Go.Proofs.YtdehgboeinjodaaW.PrintWords Go.Proofs.YtdehgboeinjodaaW.PrintLast Go.Proofs.Ytdehgboeinjodaa.Lib
theorem FnExactWords : laws_FnExactWords.Pure := ⟨60, by decide +kernel⟩
end Go.Proofs.Ytdehgboeinjodaa.Pure
