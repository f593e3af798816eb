/- The numbers under which this seat's translation holds the mutex of package sync, and that it holds it (the kit's MuLib). -/
import Derived.Test.YtjbhhoajpahdlaaProg
import Derived.Conc.MuLib
import Derived.KernelRfl
namespace Go.Proofs
abbrev Try.muLink : Go.Conc.Locks.MuLink := { lock := 156, unlock := 157, ilock := 176, iunlock := 177, lockSlow := 182, unlockSlow := 184, disable := 136, enable := 137, acquire := 148, relMerge := 135, cas32 := 181, add32 := 183, tMutex := 104, tIMutex := 102, tPMutex := 278, tPIMutex := 282, tPI32 := 284, tUP := 242, tNoCopy := 96, tU32 := 98 }
theorem Try.muLib : Go.Conc.Locks.MuLib Try.prog Try.muLink :=
  ⟨Try.func156, Try.func157, Try.func176, Try.func177, Try.func136, Try.func137, Try.func148, Try.func135, Try.func181, Try.func183,
  Try.underlying102, Try.runUnderlying102, Try.sizeOf102, Try.isAgg102, Try.zeroValue102, Try.underlying104, Try.runUnderlying104, Try.sizeOf104, Try.isAgg104, Try.zeroValue104, Try.underlying278, Try.runUnderlying278, Try.sizeOf278, Try.isAgg278, Try.zeroValue278, Try.underlying282, Try.runUnderlying282, Try.sizeOf282, Try.isAgg282, Try.zeroValue282, Try.underlying284, Try.runUnderlying284, Try.sizeOf284, Try.isAgg284, Try.zeroValue284, Try.underlying242, Try.runUnderlying242, Try.sizeOf242, Try.isAgg242, Try.zeroValue242, Try.underlying96, Try.runUnderlying96, Try.sizeOf96, Try.isAgg96, Try.zeroValue96, Try.underlying21, Try.runUnderlying21, Try.sizeOf21, Try.isAgg21, Try.zeroValue21, by kernel_rfl⟩
end Go.Proofs
