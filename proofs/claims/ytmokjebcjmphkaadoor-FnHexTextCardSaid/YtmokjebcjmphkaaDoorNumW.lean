/- Contracts of the program's and the reference's 'n is in the range low to high', Clamp, IsWord and MappingOk. -/
import Derived.Test.YtmokjebcjmphkaaDoorRows
import Derived.Test.YtmokjebcjmphkaaDoorFrame
import Derived.Test.YtmokjebcjmphkaaDoorGeoP
import Derived.WalkSpells
import Derived.WalkLawsBesides
import Derived.Deep.QuietTactic
import Derived.BigQuiet
import Derived.Outline
namespace Go.Proofs.YtmokjebcjmphkaaDoor
open Go.RowKit



end Go.Proofs.YtmokjebcjmphkaaDoor
