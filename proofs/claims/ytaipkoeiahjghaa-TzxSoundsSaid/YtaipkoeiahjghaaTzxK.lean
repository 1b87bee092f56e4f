/- A block that is 37: joined. -/
import Derived.Test.YtaipkoeiahjghaaTzxJ
import Derived.Test.YtaipkoeiahjghaaTzxH
namespace Go.Proofs.Ytaipkoeiahjghaa
set_option linter.unusedSimpArgs false
set_option linter.unusedVariables false
open Go.RowKit
theorem b37 : Ex.B37 := fun P R A n c k w hp hr hl hk hn hc hne hPR =>
  (block37 P R A n c k w hp hr hl hk hn hc hne hPR).mono fun e w' ⟨gb, cb, gs, cs, h1, h2, h3, h4, h5, h6⟩ => ⟨gb, cb, gs, cs, h1, h2, h3, h4, h5, ⟨h6.os, h6.tape, h6.output, h6.size, h6.block⟩⟩
end Go.Proofs.Ytaipkoeiahjghaa
