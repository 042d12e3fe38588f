/- What the print can't tell of layer 32 (bound), given by hand. -/
import Derived.Test.YtgmkbcoahilkhaaDoorAwake
