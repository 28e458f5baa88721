/-
  No cell of these rows narrows 'for every input' (looked for: loops, veiled, ifaces, maps, wideKeys, modest, calm, conditions, laid).
  DERIVED. THE GIVEN ROWS OF THIS SEAT. 7 by the template 'for every input the law returns true; each argument reads behind the call as it read before'; 0 by the template 'total and deterministic' (their statements: YtkknkmplmilihaaGreatTotals.lean).
  GIVEN WITH THE SEED: the statements are not yours to turn. If you find one false, say at which input.
  Laid BY PROGRAM, IN A SANDBOX (cutbox-rows.mjs): the forced cells as the released guide's own fill.sh prints them over the translation ac3fcb5a840e6457… (all of the seat's roots in one cut). By AI agents, Wed Nov 11 2026. No macro, syntax, notation, axiom, sorry.
-/
import Derived.Test.YtkknkmplmilihaaGreatChecked
import GoSem.Claim
import GoSem.ClaimJoined
import GoSem.ClaimMapViews
import Derived.JoinedTies
import Derived.KernelRfl
namespace Go.Proofs.YtkknkmplmilihaaGreat
/- THE CELL 'sum', in the pinned program and in every row, IS THE sha256 OF THE DUMP (.gsa) THAT YtkknkmplmilihaaGreatProg.lean LOADS. Nothing in Lean hashes anything: it is a label: what it is worth is what the hold of that sum in a sandbox is worth. -/
noncomputable def Tryz.pinned : Pinned := { name := "ytkknkmplmilihaagreat", sum := "ac3fcb5a840e64579fd27d00c79497074dd5cdd725ef8c899faa93d7aeff5397", checked := Tryz.checked }
namespace Rows
def none {H : Type} : Left H := { results := [], args := [] }

/-- 'revetmentlaw17.StripeReads': WHATEVER THE INPUT: true; the input reads as it did. -/
def stripeReadsSpec : ChangeSpec := { name := "stripeReads", fn := fun _ => fun
  | [d1, d2, d3, d4, d5, d6, d7, d8] => { results := [.lit (.bool true)], args := [d1, d2, d3, d4, d5, d6, d7, d8] }
  | _ => none }
def stripeReadsRow : OpenClaim := { program := "ytkknkmplmilihaagreat", sum := "ac3fcb5a840e64579fd27d00c79497074dd5cdd725ef8c899faa93d7aeff5397", func := "revetment/revetmentlaw17.StripeReads", spec := "stripeReads", inPlace := ["internal/abi.NoEscape", "internal/bytealg.MakeNoZero", "sync/atomic.AddInt32", "sync/atomic.LoadUint32", "(*internal/sync.Mutex).Lock", "internal/race.Disable", "sync/atomic.CompareAndSwapInt32", "internal/race.Enable", "internal/race.Acquire", "(*internal/sync.Mutex).lockSlow", "internal/sync.runtime_canSpin", "internal/sync.runtime_doSpin", "internal/sync.throw", "internal/sync.runtime_nanotime", "internal/sync.runtime_SemacquireMutex", "(*internal/sync.Mutex).Unlock", "internal/race.ReleaseMerge", "(*internal/sync.Mutex).unlockSlow", "internal/sync.fatal", "internal/sync.runtime_Semrelease", "sync/atomic.StoreUint32", "sync/atomic.LoadInt32"], unfollowed := true, recurses := true, plainKeys := false, apart := false }
def StripeReadsSaid : Prop := stripeReadsRow.holds Tryz.pinned (OpenSpec.ofChange stripeReadsSpec)

/-- ITS FALSE NEIGHBOUR: 'it returns false'. Refute it at one input. -/
def stripeReadsWrong : ChangeSpec := { name := "stripeReads", fn := fun _ => fun
  | [d1, d2, d3, d4, d5, d6, d7, d8] => { results := [.lit (.bool false)], args := [d1, d2, d3, d4, d5, d6, d7, d8] }
  | _ => none }
def StripeReadsWrongFalsely : Prop := stripeReadsRow.holds Tryz.pinned (OpenSpec.ofChange stripeReadsWrong)

/-- 'revetmentlaw17.StripeFew': WHATEVER THE INPUT: true; the input reads as it did. -/
def stripeFewSpec : ChangeSpec := { name := "stripeFew", fn := fun _ => fun
  | [d1, d2, d3, d4] => { results := [.lit (.bool true)], args := [d1, d2, d3, d4] }
  | _ => none }
def stripeFewRow : OpenClaim := { program := "ytkknkmplmilihaagreat", sum := "ac3fcb5a840e64579fd27d00c79497074dd5cdd725ef8c899faa93d7aeff5397", func := "revetment/revetmentlaw17.StripeFew", spec := "stripeFew", inPlace := ["internal/abi.NoEscape", "internal/bytealg.MakeNoZero", "sync/atomic.AddInt32", "sync/atomic.LoadUint32", "(*internal/sync.Mutex).Lock", "internal/race.Disable", "sync/atomic.CompareAndSwapInt32", "internal/race.Enable", "internal/race.Acquire", "(*internal/sync.Mutex).lockSlow", "internal/sync.runtime_canSpin", "internal/sync.runtime_doSpin", "internal/sync.throw", "internal/sync.runtime_nanotime", "internal/sync.runtime_SemacquireMutex", "(*internal/sync.Mutex).Unlock", "internal/race.ReleaseMerge", "(*internal/sync.Mutex).unlockSlow", "internal/sync.fatal", "internal/sync.runtime_Semrelease", "sync/atomic.StoreUint32", "sync/atomic.LoadInt32"], unfollowed := true, recurses := true, plainKeys := false, apart := false }
def StripeFewSaid : Prop := stripeFewRow.holds Tryz.pinned (OpenSpec.ofChange stripeFewSpec)

/-- ITS FALSE NEIGHBOUR: 'it returns false'. Refute it at one input. -/
def stripeFewWrong : ChangeSpec := { name := "stripeFew", fn := fun _ => fun
  | [d1, d2, d3, d4] => { results := [.lit (.bool false)], args := [d1, d2, d3, d4] }
  | _ => none }
def StripeFewWrongFalsely : Prop := stripeFewRow.holds Tryz.pinned (OpenSpec.ofChange stripeFewWrong)

/-- 'revetmentlaw17.StripeLost': WHATEVER THE INPUT: true; the input reads as it did. -/
def stripeLostSpec : ChangeSpec := { name := "stripeLost", fn := fun _ => fun
  | [d1, d2, d3, d4, d5, d6] => { results := [.lit (.bool true)], args := [d1, d2, d3, d4, d5, d6] }
  | _ => none }
def stripeLostRow : OpenClaim := { program := "ytkknkmplmilihaagreat", sum := "ac3fcb5a840e64579fd27d00c79497074dd5cdd725ef8c899faa93d7aeff5397", func := "revetment/revetmentlaw17.StripeLost", spec := "stripeLost", inPlace := ["internal/abi.NoEscape", "internal/bytealg.MakeNoZero", "sync/atomic.AddInt32", "sync/atomic.LoadUint32", "(*internal/sync.Mutex).Lock", "internal/race.Disable", "sync/atomic.CompareAndSwapInt32", "internal/race.Enable", "internal/race.Acquire", "(*internal/sync.Mutex).lockSlow", "internal/sync.runtime_canSpin", "internal/sync.runtime_doSpin", "internal/sync.throw", "internal/sync.runtime_nanotime", "internal/sync.runtime_SemacquireMutex", "(*internal/sync.Mutex).Unlock", "internal/race.ReleaseMerge", "(*internal/sync.Mutex).unlockSlow", "internal/sync.fatal", "internal/sync.runtime_Semrelease", "sync/atomic.StoreUint32", "sync/atomic.LoadInt32"], unfollowed := true, recurses := true, plainKeys := false, apart := false }
def StripeLostSaid : Prop := stripeLostRow.holds Tryz.pinned (OpenSpec.ofChange stripeLostSpec)

/-- ITS FALSE NEIGHBOUR: 'it returns false'. Refute it at one input. -/
def stripeLostWrong : ChangeSpec := { name := "stripeLost", fn := fun _ => fun
  | [d1, d2, d3, d4, d5, d6] => { results := [.lit (.bool false)], args := [d1, d2, d3, d4, d5, d6] }
  | _ => none }
def StripeLostWrongFalsely : Prop := stripeLostRow.holds Tryz.pinned (OpenSpec.ofChange stripeLostWrong)

/-- 'revetmentlaw17.StripeBusy': WHATEVER THE INPUT: true; the input reads as it did. -/
def stripeBusySpec : ChangeSpec := { name := "stripeBusy", fn := fun _ => fun
  | [d1, d2, d3, d4] => { results := [.lit (.bool true)], args := [d1, d2, d3, d4] }
  | _ => none }
def stripeBusyRow : OpenClaim := { program := "ytkknkmplmilihaagreat", sum := "ac3fcb5a840e64579fd27d00c79497074dd5cdd725ef8c899faa93d7aeff5397", func := "revetment/revetmentlaw17.StripeBusy", spec := "stripeBusy", inPlace := ["internal/abi.NoEscape", "internal/bytealg.MakeNoZero", "sync/atomic.AddInt32", "sync/atomic.LoadUint32", "(*internal/sync.Mutex).Lock", "internal/race.Disable", "sync/atomic.CompareAndSwapInt32", "internal/race.Enable", "internal/race.Acquire", "(*internal/sync.Mutex).lockSlow", "internal/sync.runtime_canSpin", "internal/sync.runtime_doSpin", "internal/sync.throw", "internal/sync.runtime_nanotime", "internal/sync.runtime_SemacquireMutex", "(*internal/sync.Mutex).Unlock", "internal/race.ReleaseMerge", "(*internal/sync.Mutex).unlockSlow", "internal/sync.fatal", "internal/sync.runtime_Semrelease", "sync/atomic.StoreUint32", "sync/atomic.LoadInt32"], unfollowed := true, recurses := true, plainKeys := false, apart := false }
def StripeBusySaid : Prop := stripeBusyRow.holds Tryz.pinned (OpenSpec.ofChange stripeBusySpec)

/-- ITS FALSE NEIGHBOUR: 'it returns false'. Refute it at one input. -/
def stripeBusyWrong : ChangeSpec := { name := "stripeBusy", fn := fun _ => fun
  | [d1, d2, d3, d4] => { results := [.lit (.bool false)], args := [d1, d2, d3, d4] }
  | _ => none }
def StripeBusyWrongFalsely : Prop := stripeBusyRow.holds Tryz.pinned (OpenSpec.ofChange stripeBusyWrong)

/-- 'revetmentlaw17.StripePuts': WHATEVER THE INPUT: true; the input reads as it did. -/
def stripePutsSpec : ChangeSpec := { name := "stripePuts", fn := fun _ => fun
  | [d1, d2, d3, d4] => { results := [.lit (.bool true)], args := [d1, d2, d3, d4] }
  | _ => none }
def stripePutsRow : OpenClaim := { program := "ytkknkmplmilihaagreat", sum := "ac3fcb5a840e64579fd27d00c79497074dd5cdd725ef8c899faa93d7aeff5397", func := "revetment/revetmentlaw17.StripePuts", spec := "stripePuts", inPlace := ["internal/abi.NoEscape", "internal/bytealg.MakeNoZero", "sync/atomic.AddInt32", "sync/atomic.LoadUint32", "(*internal/sync.Mutex).Lock", "internal/race.Disable", "sync/atomic.CompareAndSwapInt32", "internal/race.Enable", "internal/race.Acquire", "(*internal/sync.Mutex).lockSlow", "internal/sync.runtime_canSpin", "internal/sync.runtime_doSpin", "internal/sync.throw", "internal/sync.runtime_nanotime", "internal/sync.runtime_SemacquireMutex", "(*internal/sync.Mutex).Unlock", "internal/race.ReleaseMerge", "(*internal/sync.Mutex).unlockSlow", "internal/sync.fatal", "internal/sync.runtime_Semrelease", "sync/atomic.StoreUint32", "sync/atomic.LoadInt32"], unfollowed := true, recurses := true, plainKeys := false, apart := false }
def StripePutsSaid : Prop := stripePutsRow.holds Tryz.pinned (OpenSpec.ofChange stripePutsSpec)

/-- ITS FALSE NEIGHBOUR: 'it returns false'. Refute it at one input. -/
def stripePutsWrong : ChangeSpec := { name := "stripePuts", fn := fun _ => fun
  | [d1, d2, d3, d4] => { results := [.lit (.bool false)], args := [d1, d2, d3, d4] }
  | _ => none }
def StripePutsWrongFalsely : Prop := stripePutsRow.holds Tryz.pinned (OpenSpec.ofChange stripePutsWrong)

/-- 'revetmentlaw17.StripeHole': WHATEVER THE INPUT: true; the input reads as it did. -/
def stripeHoleSpec : ChangeSpec := { name := "stripeHole", fn := fun _ => fun
  | [d1, d2, d3, d4, d5, d6, d7, d8] => { results := [.lit (.bool true)], args := [d1, d2, d3, d4, d5, d6, d7, d8] }
  | _ => none }
def stripeHoleRow : OpenClaim := { program := "ytkknkmplmilihaagreat", sum := "ac3fcb5a840e64579fd27d00c79497074dd5cdd725ef8c899faa93d7aeff5397", func := "revetment/revetmentlaw17.StripeHole", spec := "stripeHole", inPlace := ["internal/abi.NoEscape", "internal/bytealg.MakeNoZero", "sync/atomic.AddInt32", "sync/atomic.LoadUint32", "(*internal/sync.Mutex).Lock", "internal/race.Disable", "sync/atomic.CompareAndSwapInt32", "internal/race.Enable", "internal/race.Acquire", "(*internal/sync.Mutex).lockSlow", "internal/sync.runtime_canSpin", "internal/sync.runtime_doSpin", "internal/sync.throw", "internal/sync.runtime_nanotime", "internal/sync.runtime_SemacquireMutex", "(*internal/sync.Mutex).Unlock", "internal/race.ReleaseMerge", "(*internal/sync.Mutex).unlockSlow", "internal/sync.fatal", "internal/sync.runtime_Semrelease", "sync/atomic.StoreUint32", "sync/atomic.LoadInt32"], unfollowed := true, recurses := true, plainKeys := false, apart := false }
def StripeHoleSaid : Prop := stripeHoleRow.holds Tryz.pinned (OpenSpec.ofChange stripeHoleSpec)

/-- ITS FALSE NEIGHBOUR: 'it returns false'. Refute it at one input. -/
def stripeHoleWrong : ChangeSpec := { name := "stripeHole", fn := fun _ => fun
  | [d1, d2, d3, d4, d5, d6, d7, d8] => { results := [.lit (.bool false)], args := [d1, d2, d3, d4, d5, d6, d7, d8] }
  | _ => none }
def StripeHoleWrongFalsely : Prop := stripeHoleRow.holds Tryz.pinned (OpenSpec.ofChange stripeHoleWrong)

/-- 'revetmentlaw17.StripeActs': WHATEVER THE INPUT: true; the input reads as it did. -/
def stripeActsSpec : ChangeSpec := { name := "stripeActs", fn := fun _ => fun
  | [d1, d2, d3, d4, d5] => { results := [.lit (.bool true)], args := [d1, d2, d3, d4, d5] }
  | _ => none }
def stripeActsRow : OpenClaim := { program := "ytkknkmplmilihaagreat", sum := "ac3fcb5a840e64579fd27d00c79497074dd5cdd725ef8c899faa93d7aeff5397", func := "revetment/revetmentlaw17.StripeActs", spec := "stripeActs", inPlace := ["internal/abi.NoEscape", "internal/bytealg.MakeNoZero", "sync/atomic.AddInt32", "sync/atomic.LoadUint32", "(*internal/sync.Mutex).Lock", "internal/race.Disable", "sync/atomic.CompareAndSwapInt32", "internal/race.Enable", "internal/race.Acquire", "(*internal/sync.Mutex).lockSlow", "internal/sync.runtime_canSpin", "internal/sync.runtime_doSpin", "internal/sync.throw", "internal/sync.runtime_nanotime", "internal/sync.runtime_SemacquireMutex", "(*internal/sync.Mutex).Unlock", "internal/race.ReleaseMerge", "(*internal/sync.Mutex).unlockSlow", "internal/sync.fatal", "internal/sync.runtime_Semrelease", "sync/atomic.StoreUint32", "sync/atomic.LoadInt32"], unfollowed := true, recurses := true, plainKeys := false, apart := false }
def StripeActsSaid : Prop := stripeActsRow.holds Tryz.pinned (OpenSpec.ofChange stripeActsSpec)

/-- ITS FALSE NEIGHBOUR: 'it returns false'. Refute it at one input. -/
def stripeActsWrong : ChangeSpec := { name := "stripeActs", fn := fun _ => fun
  | [d1, d2, d3, d4, d5] => { results := [.lit (.bool false)], args := [d1, d2, d3, d4, d5] }
  | _ => none }
def StripeActsWrongFalsely : Prop := stripeActsRow.holds Tryz.pinned (OpenSpec.ofChange stripeActsWrong)

/- THE SECOND FORM. 'bulk': how many values and letters a reading holds, each counted each time it is reached (what is shared counts as often as it is met; a slice's spare places count too). A statement '..UptoSaid' is the law's where the arguments, and the package variables that the reading takes, are together of bulk at most 1048576: NARROWER than '..Said'. Prove '..Said' where nothing that the law and all that it calls make is longer than what came in: it says more and counts as full. Else prove '..UptoSaid'. A law counts once. -/
mutual
def uptoBulk {H : Type} : DataW H → Nat
  | .lit (.string bytes) => bytes.length + 1
  | .lit _ => 1
  | .nil => 1
  | .ptr d => uptoBulk d + 1
  | .slice elems spare => uptoBulkAll elems + uptoBulkAll spare + 1
  | .agg parts => uptoBulkAll parts + 1
  | .iface _ d => uptoBulk d + 1
  | .map entries => uptoBulkEntries entries + 1
  | .held _ => 1
def uptoBulkAll {H : Type} : List (DataW H) → Nat
  | [] => 0
  | d :: r => uptoBulk d + uptoBulkAll r
def uptoBulkEntries {H : Type} : List (Lit × DataW H) → Nat
  | [] => 0
  | x :: r => uptoBulkEntry x + uptoBulkEntries r
def uptoBulkEntry {H : Type} : Lit × DataW H → Nat
  | (.string bytes, d) => bytes.length + uptoBulk d + 1
  | (_, d) => uptoBulk d + 1
 end
def uptoSmall : (H : Type) → List (DataW H) → Bool := fun _ ds => decide (uptoBulkAll ds ≤ 1048576)
def OpenSpec.upto (s : _root_.Go.ChangeSpec) : _root_.Go.OpenSpec := { _root_.Go.OpenSpec.ofChange s with cond := some uptoSmall }

/-- 'revetmentlaw17.StripeReads', WHERE WHAT IT READS IS OF BULK AT MOST 1048576: true; the input reads as it did. -/
def stripeReadsUptoRow : OpenClaim := { program := "ytkknkmplmilihaagreat", sum := "ac3fcb5a840e64579fd27d00c79497074dd5cdd725ef8c899faa93d7aeff5397", func := "revetment/revetmentlaw17.StripeReads", spec := "stripeReads", inPlace := ["internal/abi.NoEscape", "internal/bytealg.MakeNoZero", "sync/atomic.AddInt32", "sync/atomic.LoadUint32", "(*internal/sync.Mutex).Lock", "internal/race.Disable", "sync/atomic.CompareAndSwapInt32", "internal/race.Enable", "internal/race.Acquire", "(*internal/sync.Mutex).lockSlow", "internal/sync.runtime_canSpin", "internal/sync.runtime_doSpin", "internal/sync.throw", "internal/sync.runtime_nanotime", "internal/sync.runtime_SemacquireMutex", "(*internal/sync.Mutex).Unlock", "internal/race.ReleaseMerge", "(*internal/sync.Mutex).unlockSlow", "internal/sync.fatal", "internal/sync.runtime_Semrelease", "sync/atomic.StoreUint32", "sync/atomic.LoadInt32"], unfollowed := true, recurses := true, plainKeys := false, apart := false, narrowed := true }
def StripeReadsUptoSaid : Prop := stripeReadsUptoRow.holds Tryz.pinned (OpenSpec.upto stripeReadsSpec)

/-- 'revetmentlaw17.StripeFew', WHERE WHAT IT READS IS OF BULK AT MOST 1048576: true; the input reads as it did. -/
def stripeFewUptoRow : OpenClaim := { program := "ytkknkmplmilihaagreat", sum := "ac3fcb5a840e64579fd27d00c79497074dd5cdd725ef8c899faa93d7aeff5397", func := "revetment/revetmentlaw17.StripeFew", spec := "stripeFew", inPlace := ["internal/abi.NoEscape", "internal/bytealg.MakeNoZero", "sync/atomic.AddInt32", "sync/atomic.LoadUint32", "(*internal/sync.Mutex).Lock", "internal/race.Disable", "sync/atomic.CompareAndSwapInt32", "internal/race.Enable", "internal/race.Acquire", "(*internal/sync.Mutex).lockSlow", "internal/sync.runtime_canSpin", "internal/sync.runtime_doSpin", "internal/sync.throw", "internal/sync.runtime_nanotime", "internal/sync.runtime_SemacquireMutex", "(*internal/sync.Mutex).Unlock", "internal/race.ReleaseMerge", "(*internal/sync.Mutex).unlockSlow", "internal/sync.fatal", "internal/sync.runtime_Semrelease", "sync/atomic.StoreUint32", "sync/atomic.LoadInt32"], unfollowed := true, recurses := true, plainKeys := false, apart := false, narrowed := true }
def StripeFewUptoSaid : Prop := stripeFewUptoRow.holds Tryz.pinned (OpenSpec.upto stripeFewSpec)

/-- 'revetmentlaw17.StripeLost', WHERE WHAT IT READS IS OF BULK AT MOST 1048576: true; the input reads as it did. -/
def stripeLostUptoRow : OpenClaim := { program := "ytkknkmplmilihaagreat", sum := "ac3fcb5a840e64579fd27d00c79497074dd5cdd725ef8c899faa93d7aeff5397", func := "revetment/revetmentlaw17.StripeLost", spec := "stripeLost", inPlace := ["internal/abi.NoEscape", "internal/bytealg.MakeNoZero", "sync/atomic.AddInt32", "sync/atomic.LoadUint32", "(*internal/sync.Mutex).Lock", "internal/race.Disable", "sync/atomic.CompareAndSwapInt32", "internal/race.Enable", "internal/race.Acquire", "(*internal/sync.Mutex).lockSlow", "internal/sync.runtime_canSpin", "internal/sync.runtime_doSpin", "internal/sync.throw", "internal/sync.runtime_nanotime", "internal/sync.runtime_SemacquireMutex", "(*internal/sync.Mutex).Unlock", "internal/race.ReleaseMerge", "(*internal/sync.Mutex).unlockSlow", "internal/sync.fatal", "internal/sync.runtime_Semrelease", "sync/atomic.StoreUint32", "sync/atomic.LoadInt32"], unfollowed := true, recurses := true, plainKeys := false, apart := false, narrowed := true }
def StripeLostUptoSaid : Prop := stripeLostUptoRow.holds Tryz.pinned (OpenSpec.upto stripeLostSpec)

/-- 'revetmentlaw17.StripeBusy', WHERE WHAT IT READS IS OF BULK AT MOST 1048576: true; the input reads as it did. -/
def stripeBusyUptoRow : OpenClaim := { program := "ytkknkmplmilihaagreat", sum := "ac3fcb5a840e64579fd27d00c79497074dd5cdd725ef8c899faa93d7aeff5397", func := "revetment/revetmentlaw17.StripeBusy", spec := "stripeBusy", inPlace := ["internal/abi.NoEscape", "internal/bytealg.MakeNoZero", "sync/atomic.AddInt32", "sync/atomic.LoadUint32", "(*internal/sync.Mutex).Lock", "internal/race.Disable", "sync/atomic.CompareAndSwapInt32", "internal/race.Enable", "internal/race.Acquire", "(*internal/sync.Mutex).lockSlow", "internal/sync.runtime_canSpin", "internal/sync.runtime_doSpin", "internal/sync.throw", "internal/sync.runtime_nanotime", "internal/sync.runtime_SemacquireMutex", "(*internal/sync.Mutex).Unlock", "internal/race.ReleaseMerge", "(*internal/sync.Mutex).unlockSlow", "internal/sync.fatal", "internal/sync.runtime_Semrelease", "sync/atomic.StoreUint32", "sync/atomic.LoadInt32"], unfollowed := true, recurses := true, plainKeys := false, apart := false, narrowed := true }
def StripeBusyUptoSaid : Prop := stripeBusyUptoRow.holds Tryz.pinned (OpenSpec.upto stripeBusySpec)

/-- 'revetmentlaw17.StripePuts', WHERE WHAT IT READS IS OF BULK AT MOST 1048576: true; the input reads as it did. -/
def stripePutsUptoRow : OpenClaim := { program := "ytkknkmplmilihaagreat", sum := "ac3fcb5a840e64579fd27d00c79497074dd5cdd725ef8c899faa93d7aeff5397", func := "revetment/revetmentlaw17.StripePuts", spec := "stripePuts", inPlace := ["internal/abi.NoEscape", "internal/bytealg.MakeNoZero", "sync/atomic.AddInt32", "sync/atomic.LoadUint32", "(*internal/sync.Mutex).Lock", "internal/race.Disable", "sync/atomic.CompareAndSwapInt32", "internal/race.Enable", "internal/race.Acquire", "(*internal/sync.Mutex).lockSlow", "internal/sync.runtime_canSpin", "internal/sync.runtime_doSpin", "internal/sync.throw", "internal/sync.runtime_nanotime", "internal/sync.runtime_SemacquireMutex", "(*internal/sync.Mutex).Unlock", "internal/race.ReleaseMerge", "(*internal/sync.Mutex).unlockSlow", "internal/sync.fatal", "internal/sync.runtime_Semrelease", "sync/atomic.StoreUint32", "sync/atomic.LoadInt32"], unfollowed := true, recurses := true, plainKeys := false, apart := false, narrowed := true }
def StripePutsUptoSaid : Prop := stripePutsUptoRow.holds Tryz.pinned (OpenSpec.upto stripePutsSpec)

/-- 'revetmentlaw17.StripeHole', WHERE WHAT IT READS IS OF BULK AT MOST 1048576: true; the input reads as it did. -/
def stripeHoleUptoRow : OpenClaim := { program := "ytkknkmplmilihaagreat", sum := "ac3fcb5a840e64579fd27d00c79497074dd5cdd725ef8c899faa93d7aeff5397", func := "revetment/revetmentlaw17.StripeHole", spec := "stripeHole", inPlace := ["internal/abi.NoEscape", "internal/bytealg.MakeNoZero", "sync/atomic.AddInt32", "sync/atomic.LoadUint32", "(*internal/sync.Mutex).Lock", "internal/race.Disable", "sync/atomic.CompareAndSwapInt32", "internal/race.Enable", "internal/race.Acquire", "(*internal/sync.Mutex).lockSlow", "internal/sync.runtime_canSpin", "internal/sync.runtime_doSpin", "internal/sync.throw", "internal/sync.runtime_nanotime", "internal/sync.runtime_SemacquireMutex", "(*internal/sync.Mutex).Unlock", "internal/race.ReleaseMerge", "(*internal/sync.Mutex).unlockSlow", "internal/sync.fatal", "internal/sync.runtime_Semrelease", "sync/atomic.StoreUint32", "sync/atomic.LoadInt32"], unfollowed := true, recurses := true, plainKeys := false, apart := false, narrowed := true }
def StripeHoleUptoSaid : Prop := stripeHoleUptoRow.holds Tryz.pinned (OpenSpec.upto stripeHoleSpec)

/-- 'revetmentlaw17.StripeActs', WHERE WHAT IT READS IS OF BULK AT MOST 1048576: true; the input reads as it did. -/
def stripeActsUptoRow : OpenClaim := { program := "ytkknkmplmilihaagreat", sum := "ac3fcb5a840e64579fd27d00c79497074dd5cdd725ef8c899faa93d7aeff5397", func := "revetment/revetmentlaw17.StripeActs", spec := "stripeActs", inPlace := ["internal/abi.NoEscape", "internal/bytealg.MakeNoZero", "sync/atomic.AddInt32", "sync/atomic.LoadUint32", "(*internal/sync.Mutex).Lock", "internal/race.Disable", "sync/atomic.CompareAndSwapInt32", "internal/race.Enable", "internal/race.Acquire", "(*internal/sync.Mutex).lockSlow", "internal/sync.runtime_canSpin", "internal/sync.runtime_doSpin", "internal/sync.throw", "internal/sync.runtime_nanotime", "internal/sync.runtime_SemacquireMutex", "(*internal/sync.Mutex).Unlock", "internal/race.ReleaseMerge", "(*internal/sync.Mutex).unlockSlow", "internal/sync.fatal", "internal/sync.runtime_Semrelease", "sync/atomic.StoreUint32", "sync/atomic.LoadInt32"], unfollowed := true, recurses := true, plainKeys := false, apart := false, narrowed := true }
def StripeActsUptoSaid : Prop := stripeActsUptoRow.holds Tryz.pinned (OpenSpec.upto stripeActsSpec)

end Rows
end Go.Proofs.YtkknkmplmilihaaGreat
