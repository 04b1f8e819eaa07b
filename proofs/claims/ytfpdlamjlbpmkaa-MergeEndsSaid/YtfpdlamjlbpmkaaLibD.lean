/- What all texts of a seat use. -/
import Derived.Test.YtfpdlamjlbpmkaaChecked
import Derived.Test.YtfpdlamjlbpmkaaLibC
namespace Go.Proofs.Ytfpdlamjlbpmkaa
open E
set_option maxRecDepth 100000

theorem hmix : Try.prog.follows .mixedOrders = true := by kernel_rfl

def U (n : Int) : V := .val (.int .u64 n)
end Go.Proofs.Ytfpdlamjlbpmkaa
