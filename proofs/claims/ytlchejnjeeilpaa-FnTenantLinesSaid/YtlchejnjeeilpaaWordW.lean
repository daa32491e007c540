/- Walks of the laws FnExactConstants, FnExactIsWord, FnExactMappingOk and FnExactClamp. -/
import Derived.Test.YtlchejnjeeilpaaNumW
namespace Go.Proofs.Ytlchejnjeeilpaa
open Go.RowKit













end Go.Proofs.Ytlchejnjeeilpaa
