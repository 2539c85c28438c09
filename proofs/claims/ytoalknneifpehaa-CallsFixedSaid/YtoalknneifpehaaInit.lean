import Derived.Test.YtoalknneifpehaaRows
import Derived.JoinedOf
import Derived.KernelRfl
namespace Go.Proofs.Ytoalknneifpehaa.Hand
open Go
set_option maxRecDepth 100000
def ioL : List Char := ['h', 'a', 'r', 'n', 'e', 's', 's', ' ', '1', 'd', '4', '5', 'f', '6', '3', 'd', 'e', '1', 'd', '5', 'c', '4', '5', 'd', '4', '7', '4', '2', 'd', '2', 'a', 'f', '8', '8', 'e', '2', 'c', '2', '7', '6', '5', '6', 'e', '3', 'b', '8', 'f', '3', '1', 'f', '7', 'b', 'c', '0', 'f', '5', '1', '7', '7', '0', '2', '9', '2', 'e', '8', '1', '6', 'b', 'f', 'f', '7', '4', ' ', 'c', 'u', 't', ' ', 'a', 't', ' ', 'w', 'h', 'a', 'r', 'f', 'i', 'n', 'g', 'e', 'r', '/', 'w', 'h', 'a', 'r', 'f', 'i', 'n', 'g', 'e', 'r', 'l', 'a', 'w', '0', '6', '.', 'C', 'a', 'l', 'l', 's', 'B', 'a', 'c', 'k', ' ', 'w', 'h', 'a', 'r', 'f', 'i', 'n', 'g', 'e', 'r', '/', 'w', 'h', 'a', 'r', 'f', 'i', 'n', 'g', 'e', 'r', 'l', 'a', 'w', '0', '6', '.', 'C', 'a', 'l', 'l', 's', 'A', 'g', 'a', 'i', 'n', ' ', 'w', 'h', 'a', 'r', 'f', 'i', 'n', 'g', 'e', 'r', '/', 'w', 'h', 'a', 'r', 'f', 'i', 'n', 'g', 'e', 'r', 'l', 'a', 'w', '0', '6', '.', 'C', 'a', 'l', 'l', 's', 'P', 'a', 'r', 't', 's', ' ', 'w', 'h', 'a', 'r', 'f', 'i', 'n', 'g', 'e', 'r', '/', 'w', 'h', 'a', 'r', 'f', 'i', 'n', 'g', 'e', 'r', 'l', 'a', 'w', '0', '6', '.', 'C', 'a', 'l', 'l', 's', 'F', 'i', 'x', 'e', 'd', ' ', 'w', 'h', 'a', 'r', 'f', 'i', 'n', 'g', 'e', 'r', '/', 'w', 'h', 'a', 'r', 'f', 'i', 'n', 'g', 'e', 'r', 'l', 'a', 'w', '0', '6', '.', 'C', 'a', 'l', 'l', 's', 'N', 'o', 'b', 'o', 'd', 'y']
def ioR : List (List Char) := [['w', 'h', 'a', 'r', 'f', 'i', 'n', 'g', 'e', 'r', '/', 'w', 'h', 'a', 'r', 'f', 'i', 'n', 'g', 'e', 'r', 'l', 'a', 'w', '0', '6', '.', 'C', 'a', 'l', 'l', 's', 'B', 'a', 'c', 'k'], ['w', 'h', 'a', 'r', 'f', 'i', 'n', 'g', 'e', 'r', '/', 'w', 'h', 'a', 'r', 'f', 'i', 'n', 'g', 'e', 'r', 'l', 'a', 'w', '0', '6', '.', 'C', 'a', 'l', 'l', 's', 'A', 'g', 'a', 'i', 'n'], ['w', 'h', 'a', 'r', 'f', 'i', 'n', 'g', 'e', 'r', '/', 'w', 'h', 'a', 'r', 'f', 'i', 'n', 'g', 'e', 'r', 'l', 'a', 'w', '0', '6', '.', 'C', 'a', 'l', 'l', 's', 'P', 'a', 'r', 't', 's'], ['w', 'h', 'a', 'r', 'f', 'i', 'n', 'g', 'e', 'r', '/', 'w', 'h', 'a', 'r', 'f', 'i', 'n', 'g', 'e', 'r', 'l', 'a', 'w', '0', '6', '.', 'C', 'a', 'l', 'l', 's', 'F', 'i', 'x', 'e', 'd'], ['w', 'h', 'a', 'r', 'f', 'i', 'n', 'g', 'e', 'r', '/', 'w', 'h', 'a', 'r', 'f', 'i', 'n', 'g', 'e', 'r', 'l', 'a', 'w', '0', '6', '.', 'C', 'a', 'l', 'l', 's', 'N', 'o', 'b', 'o', 'd', 'y']]
theorem io_str : Try.prog.initOrder = String.ofList ioL := by kernel_rfl
theorem io_list : Try.prog.initOrder.toList = ioL := by rw [io_str]; exact String.toList_ofList
theorem io_main : behindMainWord (wordsSigns Try.prog.initOrder.toList) = "cut".toList :: "at".toList :: ioR := by rw [io_list]; kernel_rfl
theorem io_ll : Try.prog.laysLater = false := by kernel_rfl
theorem io_br : Try.prog.bearsReflect = false := by kernel_rfl
theorem io_dr : Try.prog.doorRows = [] := by kernel_rfl
theorem io_df : Try.prog.doorFits [] = true := by unfold Program.doorFits; rw [io_dr]; kernel_rfl
theorem io_sl : stripLifts liftWords ("cut".toList :: "at".toList :: ioR) = ([], "cut".toList :: "at".toList :: ioR) := by kernel_rfl
theorem io_hl : Try.prog.headLifts = [] := by
  unfold Program.headLifts; rw [io_main]; dsimp only; rw [io_sl]; kernel_rfl
theorem may_of {P : Program} {ws : List (List Char)} (h : behindMainWord (wordsSigns P.initOrder.toList) = "cut".toList :: ws) (l : P.laysLater = false) (b : P.bearsReflect = false) (d : P.doorFits [] = true) (s : stripLifts liftWords ("cut".toList :: ws) = ([], "cut".toList :: ws)) : P.mayEnter = true := by
  unfold Program.mayEnter; rw [h, l, b]; dsimp only; rw [s, d]; kernel_rfl
theorem make_of {P : Program} {ws : List (List Char)} (h : behindMainWord (wordsSigns P.initOrder.toList) = "cut".toList :: ws) : P.make = some .cut := by
  unfold Program.make; rw [h]; kernel_rfl
theorem io_may : Try.prog.mayEnter = true := may_of io_main io_ll io_br io_df io_sl
theorem io_lf : Try.prog.liftsFinal = false := by
  unfold Program.liftsFinal; rw [io_main, io_hl]; kernel_rfl
theorem io_make : Try.prog.make = some .cut := make_of io_main
end Go.Proofs.Ytoalknneifpehaa.Hand
