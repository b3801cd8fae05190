/- Arguments of the laws laid open: whatever reads as such an argument is such data, of such a size. -/
import Derived.Test.YthefcgmhjonopaaAm33
import Derived.Test.YthefcgmhjonopaaTy
set_option linter.unusedVariables false
set_option linter.unusedSimpArgs false
namespace Go.Proofs.Ythefcgmhjonopaa
open Go

theorem opens5 : Opens Try.prog 5 eU8 okU8 := opens_u8 Try.underlying5
theorem opens22 : Opens Try.prog 22 (fun l : List Int => [vsl 1 eU8 l]) (okL 1 okU8) := opens_slice Try.underlying22 opens5 (by kernel_rfl) (by decide) (by kernel_rfl) (fun _ => rfl)

end Go.Proofs.Ythefcgmhjonopaa
