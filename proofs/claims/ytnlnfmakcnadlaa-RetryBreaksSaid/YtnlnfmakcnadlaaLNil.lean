/- A nil breaker answers as the document says. -/
import Derived.Test.YtnlnfmakcnadlaaLRetry
import Derived.Test.YtnlnfmakcnadlaaGe
namespace Go.Proofs.Ytnlnfmakcnadlaa
open Go.Rf
theorem retry_nil (n : Nat) (x : Int × Int) : f14 n x = some true := by
  have h1 : f66z n () x.2 = some (false, 1) := by rw [f66z_eq, f88z_eq]; rfl
  have h2 : f68z n () x.2 true = some 1 := by rw [f68z_eq, f88z_eq]; rfl
  rw [f14_eq, h1, f67z_eq, awake_retry, h2, f69z_eq, f70z_eq]
  rfl
end Go.Proofs.Ytnlnfmakcnadlaa
