import Derived.Test.YtbebcbcnibfbhaaRows
import Derived.JoinedOf
import Derived.KernelRfl
namespace Go.Proofs.Ytbebcbcnibfbhaa.Hand
open Go
set_option maxRecDepth 100000
def ioL : List Char := ['h', 'a', 'r', 'n', 'e', 's', 's', ' ', '8', 'e', 'a', '0', 'e', 'c', '9', '6', 'b', '7', 'a', 'a', '6', '2', '5', '4', 'b', '8', 'e', 'c', '1', '8', '6', '8', '2', 'a', 'e', '4', '0', '7', '6', '7', '3', '7', 'f', 'b', '6', '4', 'a', '3', 'b', 'b', '7', '2', '1', 'b', '0', 'd', '5', '7', 'd', '8', '6', '2', '5', '3', 'a', '9', '8', 'c', 'a', '5', '7', '8', ' ', 'c', 'u', 't', ' ', 'a', 't', ' ', 'w', 'h', 'a', 'r', 'f', 'i', 'n', 'g', 'e', 'r', '/', 'w', 'h', 'a', 'r', 'f', 'i', 'n', 'g', 'e', 'r', 'l', 'a', 'w', '1', '6', '.', 'G', 'u', 'a', 'r', 'd', 'T', 'w', 'i', 'c', 'e', ' ', 'w', 'h', 'a', 'r', 'f', 'i', 'n', 'g', 'e', 'r', '/', 'w', 'h', 'a', 'r', 'f', 'i', 'n', 'g', 'e', 'r', 'l', 'a', 'w', '2', '0', '.', 'C', 'o', 'd', 'e', 'c', 'S', 'u', 'm', 's', ' ', 'w', 'h', 'a', 'r', 'f', 'i', 'n', 'g', 'e', 'r', '/', 'w', 'h', 'a', 'r', 'f', 'i', 'n', 'g', 'e', 'r', 'l', 'a', 'w', '2', '0', '.', 'C', 'o', 'd', 'e', 'c', 'A', 'g', 'a', 'i', 'n', ' ', 'w', 'h', 'a', 'r', 'f', 'i', 'n', 'g', 'e', 'r', '/', 'w', 'h', 'a', 'r', 'f', 'i', 'n', 'g', 'e', 'r', 'l', 'a', 'w', '1', '4', '.', 'N', 'o', 'd', 'e', 's', 'F', 'o', 'u', 'n', 'd', ' ', 'w', 'h', 'a', 'r', 'f', 'i', 'n', 'g', 'e', 'r', '/', 'w', 'h', 'a', 'r', 'f', 'i', 'n', 'g', 'e', 'r', 'l', 'a', 'w', '1', '4', '.', 'N', 'o', 'd', 'e', 's', 'S', 'p', 'o', 'i', 'l', ' ', 'w', 'h', 'a', 'r', 'f', 'i', 'n', 'g', 'e', 'r', '/', 'w', 'h', 'a', 'r', 'f', 'i', 'n', 'g', 'e', 'r', 'l', 'a', 'w', '1', '6', '.', 'G', 'u', 'a', 'r', 'd', 'K', 'e', 'e', 'p', 's', ' ', 'w', 'h', 'a', 'r', 'f', 'i', 'n', 'g', 'e', 'r', '/', 'w', 'h', 'a', 'r', 'f', 'i', 'n', 'g', 'e', 'r', 'l', 'a', 'w', '2', '0', '.', 'C', 'o', 'd', 'e', 'c', 'B', 'a', 'c', 'k']
def ioR : List (List Char) := [['w', 'h', 'a', 'r', 'f', 'i', 'n', 'g', 'e', 'r', '/', 'w', 'h', 'a', 'r', 'f', 'i', 'n', 'g', 'e', 'r', 'l', 'a', 'w', '1', '6', '.', 'G', 'u', 'a', 'r', 'd', 'T', 'w', 'i', 'c', 'e'], ['w', 'h', 'a', 'r', 'f', 'i', 'n', 'g', 'e', 'r', '/', 'w', 'h', 'a', 'r', 'f', 'i', 'n', 'g', 'e', 'r', 'l', 'a', 'w', '2', '0', '.', 'C', 'o', 'd', 'e', 'c', 'S', 'u', 'm', 's'], ['w', 'h', 'a', 'r', 'f', 'i', 'n', 'g', 'e', 'r', '/', 'w', 'h', 'a', 'r', 'f', 'i', 'n', 'g', 'e', 'r', 'l', 'a', 'w', '2', '0', '.', 'C', 'o', 'd', 'e', 'c', 'A', 'g', 'a', 'i', 'n'], ['w', 'h', 'a', 'r', 'f', 'i', 'n', 'g', 'e', 'r', '/', 'w', 'h', 'a', 'r', 'f', 'i', 'n', 'g', 'e', 'r', 'l', 'a', 'w', '1', '4', '.', 'N', 'o', 'd', 'e', 's', 'F', 'o', 'u', 'n', 'd'], ['w', 'h', 'a', 'r', 'f', 'i', 'n', 'g', 'e', 'r', '/', 'w', 'h', 'a', 'r', 'f', 'i', 'n', 'g', 'e', 'r', 'l', 'a', 'w', '1', '4', '.', 'N', 'o', 'd', 'e', 's', 'S', 'p', 'o', 'i', 'l'], ['w', 'h', 'a', 'r', 'f', 'i', 'n', 'g', 'e', 'r', '/', 'w', 'h', 'a', 'r', 'f', 'i', 'n', 'g', 'e', 'r', 'l', 'a', 'w', '1', '6', '.', 'G', 'u', 'a', 'r', 'd', 'K', 'e', 'e', 'p', 's'], ['w', 'h', 'a', 'r', 'f', 'i', 'n', 'g', 'e', 'r', '/', 'w', 'h', 'a', 'r', 'f', 'i', 'n', 'g', 'e', 'r', 'l', 'a', 'w', '2', '0', '.', 'C', 'o', 'd', 'e', 'c', 'B', 'a', 'c', 'k']]
theorem io_str : Try.prog.initOrder = String.ofList ioL := by kernel_rfl
theorem io_list : Try.prog.initOrder.toList = ioL := by rw [io_str]; exact String.toList_ofList
theorem io_main : behindMainWord (wordsSigns Try.prog.initOrder.toList) = "cut".toList :: "at".toList :: ioR := by rw [io_list]; kernel_rfl
theorem io_ll : Try.prog.laysLater = false := by kernel_rfl
theorem io_br : Try.prog.bearsReflect = false := by kernel_rfl
theorem io_dr : Try.prog.doorRows = [] := by kernel_rfl
theorem io_df : Try.prog.doorFits [] = true := by unfold Program.doorFits; rw [io_dr]; kernel_rfl
theorem io_sl : stripLifts liftWords ("cut".toList :: "at".toList :: ioR) = ([], "cut".toList :: "at".toList :: ioR) := by kernel_rfl
theorem io_hl : Try.prog.headLifts = [] := by
  unfold Program.headLifts; rw [io_main]; dsimp only; rw [io_sl]; kernel_rfl
theorem may_of {P : Program} {ws : List (List Char)} (h : behindMainWord (wordsSigns P.initOrder.toList) = "cut".toList :: ws) (l : P.laysLater = false) (b : P.bearsReflect = false) (d : P.doorFits [] = true) (s : stripLifts liftWords ("cut".toList :: ws) = ([], "cut".toList :: ws)) : P.mayEnter = true := by
  unfold Program.mayEnter; rw [h, l, b]; dsimp only; rw [s, d]; kernel_rfl
theorem make_of {P : Program} {ws : List (List Char)} (h : behindMainWord (wordsSigns P.initOrder.toList) = "cut".toList :: ws) : P.make = some .cut := by
  unfold Program.make; rw [h]; kernel_rfl
theorem io_may : Try.prog.mayEnter = true := may_of io_main io_ll io_br io_df io_sl
theorem io_lf : Try.prog.liftsFinal = false := by
  unfold Program.liftsFinal; rw [io_main, io_hl]; kernel_rfl
theorem io_make : Try.prog.make = some .cut := make_of io_main
end Go.Proofs.Ytbebcbcnibfbhaa.Hand
