import Derived.Test.YtnkeijebkpjdgaaRows
import Derived.JoinedOf
import Derived.KernelRfl
namespace Go.Proofs.Ytnkeijebkpjdgaa.Hand
open Go
set_option maxRecDepth 100000
def ioL : List Char := ['h', 'a', 'r', 'n', 'e', 's', 's', ' ', '2', '1', 'f', 'e', '4', 'c', '3', '9', '7', '6', '5', 'c', '8', '7', '0', '8', '9', '7', '2', 'f', '8', '6', '2', '6', 'b', '5', 'e', 'a', 'f', '6', 'c', '8', '3', '6', 'f', '1', '2', '4', 'e', '0', '2', '2', 'a', '0', '0', '2', '7', 'f', '2', '6', '9', 'a', '6', 'f', '6', '5', 'e', '2', '1', 'd', 'e', '3', 'd', 'a', ' ', 'c', 'u', 't', ' ', 'a', 't', ' ', 'w', 'h', 'a', 'r', 'f', 'i', 'n', 'g', 'e', 'r', '/', 'w', 'h', 'a', 'r', 'f', 'i', 'n', 'g', 'e', 'r', 'l', 'a', 'w', '1', '7', '.', 'L', 'o', 'o', 'k', 'K', 'e', 'e', 'p', 's', ' ', 'w', 'h', 'a', 'r', 'f', 'i', 'n', 'g', 'e', 'r', '/', 'w', 'h', 'a', 'r', 'f', 'i', 'n', 'g', 'e', 'r', 'l', 'a', 'w', '1', '7', '.', 'L', 'o', 'o', 'k', 'R', 'e', 'a', 'd', 's', ' ', 'w', 'h', 'a', 'r', 'f', 'i', 'n', 'g', 'e', 'r', '/', 'w', 'h', 'a', 'r', 'f', 'i', 'n', 'g', 'e', 'r', 'l', 'a', 'w', '1', '7', '.', 'L', 'o', 'o', 'k', 'H', 'i', 'd', 'e', 's']
def ioR : List (List Char) := [['w', 'h', 'a', 'r', 'f', 'i', 'n', 'g', 'e', 'r', '/', 'w', 'h', 'a', 'r', 'f', 'i', 'n', 'g', 'e', 'r', 'l', 'a', 'w', '1', '7', '.', 'L', 'o', 'o', 'k', 'K', 'e', 'e', 'p', 's'], ['w', 'h', 'a', 'r', 'f', 'i', 'n', 'g', 'e', 'r', '/', 'w', 'h', 'a', 'r', 'f', 'i', 'n', 'g', 'e', 'r', 'l', 'a', 'w', '1', '7', '.', 'L', 'o', 'o', 'k', 'R', 'e', 'a', 'd', 's'], ['w', 'h', 'a', 'r', 'f', 'i', 'n', 'g', 'e', 'r', '/', 'w', 'h', 'a', 'r', 'f', 'i', 'n', 'g', 'e', 'r', 'l', 'a', 'w', '1', '7', '.', 'L', 'o', 'o', 'k', 'H', 'i', 'd', 'e', 's']]
theorem io_str : Try.prog.initOrder = String.ofList ioL := by kernel_rfl
theorem io_list : Try.prog.initOrder.toList = ioL := by rw [io_str]; exact String.toList_ofList
theorem io_main : behindMainWord (wordsSigns Try.prog.initOrder.toList) = "cut".toList :: "at".toList :: ioR := by rw [io_list]; kernel_rfl
theorem io_ll : Try.prog.laysLater = false := by kernel_rfl
theorem io_br : Try.prog.bearsReflect = false := by kernel_rfl
theorem io_dr : Try.prog.doorRows = [] := by kernel_rfl
theorem io_df : Try.prog.doorFits [] = true := by unfold Program.doorFits; rw [io_dr]; kernel_rfl
theorem io_sl : stripLifts liftWords ("cut".toList :: "at".toList :: ioR) = ([], "cut".toList :: "at".toList :: ioR) := by kernel_rfl
theorem io_hl : Try.prog.headLifts = [] := by
  unfold Program.headLifts; rw [io_main]; dsimp only; rw [io_sl]; kernel_rfl
theorem may_of {P : Program} {ws : List (List Char)} (h : behindMainWord (wordsSigns P.initOrder.toList) = "cut".toList :: ws) (l : P.laysLater = false) (b : P.bearsReflect = false) (d : P.doorFits [] = true) (s : stripLifts liftWords ("cut".toList :: ws) = ([], "cut".toList :: ws)) : P.mayEnter = true := by
  unfold Program.mayEnter; rw [h, l, b]; dsimp only; rw [s, d]; kernel_rfl
theorem make_of {P : Program} {ws : List (List Char)} (h : behindMainWord (wordsSigns P.initOrder.toList) = "cut".toList :: ws) : P.make = some .cut := by
  unfold Program.make; rw [h]; kernel_rfl
theorem io_may : Try.prog.mayEnter = true := may_of io_main io_ll io_br io_df io_sl
theorem io_lf : Try.prog.liftsFinal = false := by
  unfold Program.liftsFinal; rw [io_main, io_hl]; kernel_rfl
theorem io_make : Try.prog.make = some .cut := make_of io_main
end Go.Proofs.Ytnkeijebkpjdgaa.Hand
