import Derived.Lib.AtoiAll
/- What a string that spells no number is, to Atoi. -/
namespace Go.Proofs.YtcofejbkbcdopaaGreatDoor
def noInt : Lib.NumEnd Int := Lib.atoiAll []
end Go.Proofs.YtcofejbkbcdopaaGreatDoor
