/- Nodes (layer 23): Good, both kinds. -/
import Derived.Test.YtlpdanghcdajmaaDoorNg
namespace Go.Proofs.YtlpdanghcdajmaaDoor
open Go.RowKit
theorem node_Good (lf : Bool) (v1 v2 v3 : Value) (I : List It) (K D : List Int) (lI : I.length < 4294967296) (lK : K.length < 4294967296) (lD : D.length < 4294967296) (w : World) (h1 : SlItems w v1 I) (h2 : SlInts .u32 w v2 K) (h3 : SlInts .i64 w v3 D) :
    Calls Tryd.prog 48 #[.agg #[.bool lf, v1, v2, v3]] w fun e w' => e = .returned (.bool (goodN lf I K D)) ∧ Below w.heap.size w w' := by
  cases lf with
  | true => exact node_Good_leaf v1 v2 v3 I K D lI lK lD w h1 h2 h3
  | false => exact node_Good_inner v1 v2 v3 I K D lK lD w h1 h2 h3
end Go.Proofs.YtlpdanghcdajmaaDoor
