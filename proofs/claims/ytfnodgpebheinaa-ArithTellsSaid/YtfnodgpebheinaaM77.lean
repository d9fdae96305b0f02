/- Words: the least and the greatest of four numbers. -/
import Derived.Test.YtfnodgpebheinaaM51
import Derived.Test.YtfnodgpebheinaaM28
namespace Go.Proofs.Ytfnodgpebheinaa.M
open Go Go.RowKit
theorem max4w (ats : Array TypeId) (ty : TypeId) (k k1 k2 k3 : IntKind) (a b c d : Int) : Builtin.max_ ats ty #[.int k a, .int k1 b, .int k2 c, .int k3 d] = pure (.int k (max4 a b c d)) := by
  rw [maxd]
  simp only [maxi, pure_bind, max4]
theorem min4w (ats : Array TypeId) (ty : TypeId) (k k1 k2 k3 : IntKind) (a b c d : Int) : Builtin.min_ ats ty #[.int k a, .int k1 b, .int k2 c, .int k3 d] = pure (.int k (min4 a b c d)) := by
  rw [mind]
  simp only [mini, pure_bind, min4]
end Go.Proofs.Ytfnodgpebheinaa.M
