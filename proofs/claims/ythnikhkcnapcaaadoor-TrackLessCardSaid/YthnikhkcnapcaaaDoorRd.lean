import Derived.Test.YthnikhkcnapcaaaDoorRa
namespace Go.Proofs.YthnikhkcnapcaaaDoor
open Go.Se
set_option maxRecDepth 100000
noncomputable def q3 : Know Tryd.prog := q2
end Go.Proofs.YthnikhkcnapcaaaDoor
