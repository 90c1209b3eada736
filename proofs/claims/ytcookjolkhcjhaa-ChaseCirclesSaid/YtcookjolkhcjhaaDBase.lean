import Derived.Test.YtcookjolkhcjhaaD26
import Derived.Test.YtcookjolkhcjhaaDEnv
namespace Go.Proofs.Ytcookjolkhcjhaa
open Go.Proofs.Ytcookjolkhcjhaa.D
noncomputable def E0 : Env := DEnv.env fun _ => none
end Go.Proofs.Ytcookjolkhcjhaa
