import Derived.Test.YtmipjkalfodcpaaGreatDoorProg
import Derived.Test.YtmipjkalfodcpaaGreatDoorM1
namespace Go.Proofs.YtmipjkalfodcpaaGreatDoor
open Go.Sh
theorem allNamed : (Tryz.prog.funcs.all fun fn => !fn.body.isSome || !(fn.name == "runtime.NumGoroutine")) = true := by kernel_rfl
theorem callable : Callable Tryz.prog := ⟨fun f fn hf hb => by
  have h := (Array.all_eq_true_iff_forall_mem.1 allNamed) fn (Array.mem_of_getElem? hf)
  simpa [hb] using h⟩
end Go.Proofs.YtmipjkalfodcpaaGreatDoor
