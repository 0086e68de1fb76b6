import Derived.Deep.DeepLaidRun
import Derived.Test.YtepphihcggppbaaDoorLaid
namespace Go.Proofs.YtepphihcggppbaaDoor.A
open Go.RowKit
set_option maxRecDepth 100000 in
theorem laid_met (os : Os) (args : Array Value) : laidMet Tryd.prog Rows.mtspecToldRow.laid ((laidWorld os).forCall (fun _ _ => 0) ⟨#[], args, []⟩).memory :=
  laidMet_of_run3 8 (by as_aux_lemma => kernel_rfl) (by as_aux_lemma => kernel_rfl) (by as_aux_lemma => kernel_rfl)
end Go.Proofs.YtepphihcggppbaaDoor.A
