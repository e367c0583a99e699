/- zig.Zig and zig.both of two methods: what they compute; no conditions. -/
import Derived.Test.YtggalbhjkkmcaaaMk
namespace Go.Proofs.Ytggalbhjkkmcaaa.M
open Go.RowKit Go.Proofs.YtggalbhjkkmcaaaW.PrintWords Go.Proofs.YtggalbhjkkmcaaaW.PrintLast
def zig_Zig.f (a0 : Int) : Option Int := some (Go.bits .xor .u64 (IntKind.u64.wrap (IntKind.u64.wrap a0 * 2)) (IntKind.u64.wrap (wrap64 (IntKind.u64.wrap a0) / 9223372036854775808)))
set_option maxHeartbeats 400000 in
theorem zig_Zig.calls (a0 r : Int) (w : World) (h : zig_Zig.f a0 = some r) :
    Calls Try.prog 17 #[.int .i64 a0] w fun e w' => e = .returned (.int .u64 r) ∧ Drawn0 w w' := by
  unfold zig_Zig.f at h
  obtain rfl := Option.some.inj h
  go_enter Try.func17, Try.ntmps17
  go_wp2
  go_ret
  exact ⟨rfl, Drawn0.refl _⟩
end Go.Proofs.Ytggalbhjkkmcaaa.M
