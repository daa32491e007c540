/- Contracts of the program's and the reference's 'n is in the range low to high', Clamp, IsWord and MappingOk. -/
import Derived.Test.YtmokjebcjmphkaaRows
import Derived.Test.YtmokjebcjmphkaaFrame
import Derived.Test.YtmokjebcjmphkaaGeoP
import Derived.WalkSpells
import Derived.WalkLawsBesides
import Derived.Deep.QuietTactic
import Derived.BigQuiet
import Derived.Outline
namespace Go.Proofs.Ytmokjebcjmphkaa
open Go.RowKit



end Go.Proofs.Ytmokjebcjmphkaa
