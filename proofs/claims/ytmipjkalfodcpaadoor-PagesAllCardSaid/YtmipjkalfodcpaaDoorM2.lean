import Derived.Test.YtmipjkalfodcpaaDoorProg
import Derived.Test.YtmipjkalfodcpaaDoorM1
namespace Go.Proofs.YtmipjkalfodcpaaDoor
open Go.Sh
theorem allNamed : (Tryd.prog.funcs.all fun fn => !fn.body.isSome || !(fn.name == "runtime.NumGoroutine")) = true := by kernel_rfl
theorem callable : Callable Tryd.prog := ⟨fun f fn hf hb => by
  have h := (Array.all_eq_true_iff_forall_mem.1 allNamed) fn (Array.mem_of_getElem? hf)
  simpa [hb] using h⟩
end Go.Proofs.YtmipjkalfodcpaaDoor
