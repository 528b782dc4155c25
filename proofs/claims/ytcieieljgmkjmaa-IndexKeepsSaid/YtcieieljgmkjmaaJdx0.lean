/- A slice as a value of an index. -/
import Derived.Test.YtcieieljgmkjmaaIdxBase
namespace Go.Proofs.Ytcieieljgmkjmaa
open Go
/-- A slice's three words. -/
abbrev SV := Option Addr × Nat × Nat
end Go.Proofs.Ytcieieljgmkjmaa
