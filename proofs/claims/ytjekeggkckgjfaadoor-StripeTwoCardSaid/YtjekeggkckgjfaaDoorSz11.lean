/- Texts of one claim, one behind the other: StTop. -/
import Derived.Test.YtjekeggkckgjfaaDoorSz10
/- All that the laws of a stripe stand on. -/
namespace Go.Proofs.YtjekeggkckgjfaaDoor
end Go.Proofs.YtjekeggkckgjfaaDoor
