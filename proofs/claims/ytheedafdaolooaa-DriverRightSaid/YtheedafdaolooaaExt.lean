import Derived.Test.YtheedafdaolooaaBase
import Derived.Test.YtheedafdaolooaaSeArith
namespace Go.Proofs.Ytheedafdaolooaa
open Go.Se
noncomputable def k0 : Know Try.prog := ((Know.none Try.prog).add 43 add64 (add64_sat Try.func43 (by kernel_rfl) (by kernel_rfl) (by kernel_rfl) (by kernel_rfl))).add 52 sub64 (sub64_sat Try.func52 (by kernel_rfl) (by kernel_rfl) (by kernel_rfl) (by kernel_rfl))
end Go.Proofs.Ytheedafdaolooaa
