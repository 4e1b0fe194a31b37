/- Texts of one claim, one behind the other: WalTop. -/
import Derived.Test.YthifabopnabjoaaDoorWz8
/- All walks of layer 18 that the laws need. -/
