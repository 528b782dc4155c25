/- The shelf's layings, together. -/
import Derived.Test.YtcieieljgmkjmaaSortI
import Derived.Test.YtcieieljgmkjmaaSortL
import Derived.Test.YtcieieljgmkjmaaCloneI
