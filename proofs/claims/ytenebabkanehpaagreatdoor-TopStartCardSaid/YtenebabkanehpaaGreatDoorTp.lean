/- The functions that have bodies, with the order in which their regions are told; the two that the model stands in for; the deferred ones that do nothing: the first table. No condition. -/
import Derived.Test.YtenebabkanehpaaGreatDoorChecked
import Derived.Test.YtenebabkanehpaaGreatDoorGe
import Derived.KernelRfl
import Derived.Tactics
import Derived.RecoverIn
import Derived.Lib.Builder
import Derived.Lib.MakeNoZero
namespace Go.Proofs.YtenebabkanehpaaGreatDoor
open Go Go.Sx Go.Gx
theorem quiet57 : Quiet Tryz.prog 57 := by
  refine ⟨fun ys w => Tryz.call57 ys w, fun ys w => ?_⟩
  refine callsDIn_of_wpSIn Tryz.func57 rfl trivial fun c₀ cs hu => ?_
  rw [Tryz.ntmps57]
  have hT : 16 ≤ (ys ++ Array.replicate (16 - ys.size) undef).size := by simp; omega
  generalize ys ++ Array.replicate (16 - ys.size) undef = T at hT
  have h2 : 2 < T.size := by omega
  have h5 : 5 < T.size := by omega
  have h6 : 6 < T.size := by omega
  have h7 : 7 < T.size := by omega
  apply wpSIn_seq
  apply wpSIn_region
  simp [wpOpsSIn, go_sem, recoverD, hu, Exit.thenS, h5]
  apply wpSIn_seq
  apply wpSIn_region
  simp [wpOpsSIn, go_sem, Exit.thenS, h2, h6]
  refine wpSIn_cond (t := false) (by simp [Act.eval, h7]) ?_
  simp only [Bool.false_eq_true, if_false]
  refine wpSIn_of_wpIn rfl (wpIn_skip ?_)
  cases c₀
  simp_all [bodyPostS, results, Tryz.results57]
theorem quiet147 : Quiet Tryz.prog 147 := by
  refine ⟨fun ys w => Tryz.call147 ys w, fun ys w => ?_⟩
  refine callsDIn_of_wpSIn Tryz.func147 rfl trivial fun c₀ cs hu => ?_
  rw [Tryz.ntmps147]
  have hT : 18 ≤ (ys ++ Array.replicate (18 - ys.size) undef).size := by simp; omega
  generalize ys ++ Array.replicate (18 - ys.size) undef = T at hT
  have h2 : 2 < T.size := by omega
  have h5 : 5 < T.size := by omega
  have h6 : 6 < T.size := by omega
  have h7 : 7 < T.size := by omega
  apply wpSIn_seq
  apply wpSIn_region
  simp [wpOpsSIn, go_sem, recoverD, hu, Exit.thenS, h5]
  apply wpSIn_seq
  apply wpSIn_region
  simp [wpOpsSIn, go_sem, Exit.thenS, h2, h6]
  refine wpSIn_cond (t := false) (by simp [Act.eval, h7]) ?_
  simp only [Bool.false_eq_true, if_false]
  refine wpSIn_of_wpIn rfl (wpIn_skip ?_)
  cases c₀
  simp_all [bodyPostS, results, Tryz.results147]
theorem mixed : Tryz.prog.follows .mixedOrders = true := by kernel_rfl
theorem noEscape : FncOk Tryz.prog 207 sameF := same_ok fun x w => by
  rw [run_callFunc_extern Tryz.func207 (by kernel_rfl) (by kernel_rfl) (by kernel_rfl) (e := Extern.AbiNoEscape.same) (by kernel_rfl), Lib.run_noEscape]
  rfl
theorem noZero : FncOk Tryz.prog 208 (noZeroF 5) := noZero_ok fun m w hm => by
  obtain ⟨cs, h1, h2, h3⟩ := Lib.run_makeNoZero (P := Tryz.prog) (w := w) #[3] 81 5 Tryz.underlying81 m (by omega)
  refine ⟨cs, ?_, h2, h3 (by simp [maxLen]; omega)⟩
  rw [run_callFunc_extern Tryz.func208 (by kernel_rfl) (by kernel_rfl) (by kernel_rfl) (e := Extern.BytealgMakeNoZero.makeNoZero #[3] #[81]) (by kernel_rfl), h1]
  rfl
def c (i : Nat) (p : Plan) : Plan := .calm i p
def e (i : Nat) (a b : List Nat) (p : Plan) : Plan := .eff i a b p
def d : Plan := .done
noncomputable def row0 : List FnE := [none,
  none,
  some (Tryz.f2, []),
  some (Tryz.f3, [(14, c 0 (c 1 (e 2 [0] [] (e 3 [0] [] (e 4 [0] [] (e 5 [] [] (c 6 (c 7 (c 8 (.late 9 (e 10 [8] [] (e 11 [] [] (d))))))))))))), (20, c 0 (c 1 (c 2 (c 3 (c 4 (c 5 (c 6 (c 7 (c 8 (c 9 (c 10 (c 11 (c 12 (c 13 (e 14 [8, 9, 10, 11, 12] [] (e 15 [8, 9, 10, 11, 12] [] (e 16 [] [] (c 17 (e 18 [] [] (d))))))))))))))))))))]),
  some (Tryz.f4, [(6, c 0 (c 1 (c 7 (e 2 [0, 1, 7] [] (e 3 [0, 1, 7] [] (e 4 [0, 1, 7] [] (e 5 [0, 1, 7] [] (c 6 (e 8 [0, 1] [] (e 9 [] [] (c 10 (e 11 [] [] (d))))))))))))), (12, c 0 (c 1 (e 2 [0] [] (e 3 [0] [] (e 4 [0] [] (e 5 [] [] (c 6 (c 7 (c 8 (.late 9 (e 10 [8] [] (e 11 [] [] (d))))))))))))), (20, c 0 (c 1 (c 2 (c 3 (c 4 (e 5 [0, 1, 2, 3, 4] [] (e 6 [0, 1, 2, 3, 4] [] (e 7 [] [] (e 8 [] [] (d))))))))))]),
  some (Tryz.f5, [(10, c 0 (c 1 (c 2 (c 3 (c 4 (c 5 (c 6 (c 7 (c 8 (c 9 (c 10 (c 11 (c 12 (c 13 (c 14 (c 15 (c 16 (c 17 (c 18 (c 19 (c 20 (c 21 (c 22 (c 23 (c 24 (c 25 (c 26 (c 27 (c 28 (e 29 [23, 24, 25, 26, 27] [] (e 30 [23, 24, 25, 26, 27] [] (e 31 [] [] (c 32 (c 33 (d))))))))))))))))))))))))))))))))))), (16, c 0 (c 1 (c 2 (c 3 (c 4 (c 5 (c 6 (c 7 (e 8 [0, 1, 2, 3, 4] [] (e 9 [0, 1, 2, 3, 4] [] (e 10 [] [] (e 11 [] [] (d)))))))))))))]),
  some (Tryz.f6, [(12, c 0 (e 1 [0] [] (e 2 [] [] (c 3 (c 4 (c 5 (.late 6 (e 7 [5] [] (e 8 [] [] (d)))))))))), (13, c 0 (c 1 (c 2 (c 3 (c 4 (c 5 (c 6 (c 7 (c 8 (c 9 (c 10 (c 11 (c 12 (c 13 (e 14 [9, 10, 11, 12] [] (c 15 (c 16 (d)))))))))))))))))), (17, c 0 (c 1 (c 2 (c 3 (c 4 (c 5 (c 6 (c 7 (c 8 (c 9 (c 10 (c 11 (c 12 (c 13 (c 14 (c 15 (c 16 (e 17 [11, 12, 13, 14, 15] [] (e 18 [11, 12, 13, 14, 15] [] (e 19 [] [] (c 20 (e 21 [] [] (d)))))))))))))))))))))))]),
  some (Tryz.f7, [(6, c 0 (c 1 (c 2 (e 5 [0, 1, 2] [3, 4] (.late 3 (c 4 (e 6 [0] [] (e 7 [] [] (.late 8 (e 9 [] [] (d))))))))))), (7, c 0 (c 1 (c 3 (e 2 [0, 3] [] (e 4 [0] [] (e 5 [0] [] (e 6 [0] [] (e 7 [] [] (c 8 (c 9 (c 10 (.late 11 (e 12 [10] [] (e 13 [] [] (d))))))))))))))), (13, c 0 (c 1 (c 2 (c 3 (e 4 [2] [] (e 5 [] [] (c 6 (e 7 [] [] (d)))))))))]),
  some (Tryz.f8, [(13, c 0 (c 1 (c 2 (c 3 (e 4 [2] [] (e 5 [] [] (c 6 (e 7 [] [] (d)))))))))]),
  some (Tryz.f9, [(6, c 0 (c 1 (c 2 (c 3 (e 6 [0, 1, 2, 3] [4, 5] (.late 4 (c 5 (e 7 [0, 1] [] (c 8 (c 9 (e 10 [] [] (d)))))))))))), (13, c 0 (c 1 (e 2 [0] [] (e 3 [0] [] (e 4 [0] [] (e 5 [] [] (c 6 (c 7 (c 8 (.late 9 (e 10 [8] [] (e 11 [] [] (d))))))))))))), (14, c 0 (c 1 (c 2 (c 3 (e 4 [3] [] (e 5 [] [] (c 6 (c 7 (d)))))))))]),
  some (Tryz.f10, [(2, c 0 (e 1 [0] [] (e 2 [0] [] (e 3 [0] [] (e 4 [] [] (c 5 (c 6 (c 7 (.late 8 (e 9 [7] [] (e 10 [] [] (d)))))))))))), (4, c 0 (c 1 (c 2 (e 3 [] [] (c 4 (c 5 (c 6 (c 7 (c 8 (c 9 (c 10 (c 11 (c 12 (c 13 (c 14 (c 15 (c 16 (c 17 (e 18 [13, 14, 15, 16, 17] [] (e 19 [13, 14, 15, 16, 17] [] (e 20 [] [] (c 21 (c 22 (c 23 (c 24 (c 25 (c 26 (c 27 (e 28 [] [] (d))))))))))))))))))))))))))))))]),
  some (Tryz.f11, []),
  some (Tryz.f12, []),
  some (Tryz.f13, []),
  some (Tryz.f14, []),
  some (Tryz.f15, [])]
theorem known0 : KnownR Tryz.prog 0 row0 := ⟨⟨Tryz.func2, rfl, Tryz.call2⟩, ⟨⟨Tryz.func3, rfl, Tryz.call3⟩, ⟨⟨Tryz.func4, rfl, Tryz.call4⟩, ⟨⟨Tryz.func5, rfl, Tryz.call5⟩, ⟨⟨Tryz.func6, rfl, Tryz.call6⟩, ⟨⟨Tryz.func7, rfl, Tryz.call7⟩, ⟨⟨Tryz.func8, rfl, Tryz.call8⟩, ⟨⟨Tryz.func9, rfl, Tryz.call9⟩, ⟨⟨Tryz.func10, rfl, Tryz.call10⟩, ⟨⟨Tryz.func11, rfl, Tryz.call11⟩, ⟨⟨Tryz.func12, rfl, Tryz.call12⟩, ⟨⟨Tryz.func13, rfl, Tryz.call13⟩, ⟨⟨Tryz.func14, rfl, Tryz.call14⟩, ⟨⟨Tryz.func15, rfl, Tryz.call15⟩, trivial⟩⟩⟩⟩⟩⟩⟩⟩⟩⟩⟩⟩⟩⟩
theorem fine0 : plRow Tryz.prog row0 = true := by kernel_rfl
noncomputable def row1 : List FnE := [some (Tryz.f16, [(3, c 0 (c 1 (e 2 [0] [] (c 3 (c 4 (c 5 (e 6 [0] [] (c 7 (c 8 (c 9 (c 10 (c 11 (e 12 [0] [] (c 13 (c 14 (c 15 (c 16 (c 17 (e 18 [0] [] (c 19 (c 20 (e 21 [19, 20] [] (e 22 [] [] (d))))))))))))))))))))))))]),
  some (Tryz.f17, []),
  some (Tryz.f18, []),
  some (Tryz.f19, [(6, c 0 (c 1 (c 2 (c 3 (c 4 (c 5 (c 6 (c 7 (c 8 (d))))))))))]),
  some (Tryz.f20, []),
  some (Tryz.f21, [(1, c 0 (c 1 (c 2 (c 3 (c 4 (c 5 (c 6 (c 7 (c 8 (c 9 (e 10 [5, 6, 7, 8] [] (c 11 (e 12 [] [] (c 13 (e 14 [] [] (d))))))))))))))))]),
  some (Tryz.f22, []),
  some (Tryz.f23, []),
  some (Tryz.f24, []),
  some (Tryz.f25, [(10, c 0 (c 1 (c 2 (c 3 (c 4 (c 5 (c 6 (c 7 (c 8 (c 9 (e 10 [] [] (c 11 (d))))))))))))), (23, c 0 (c 1 (c 2 (c 3 (c 4 (c 5 (c 6 (c 7 (c 8 (c 9 (c 10 (c 11 (c 12 (c 13 (c 14 (c 15 (c 16 (c 17 (c 18 (c 19 (c 20 (c 21 (c 22 (c 23 (c 24 (c 25 (e 26 [] [] (c 27 (c 28 (d))))))))))))))))))))))))))))))]),
  some (Tryz.f26, [(1, c 0 (c 1 (c 2 (c 3 (c 4 (c 5 (c 6 (c 7 (c 8 (c 10 (c 11 (c 12 (c 13 (c 15 (c 16 (c 17 (c 18 (c 19 (c 20 (c 21 (c 22 (c 23 (c 25 (c 26 (c 27 (c 28 (c 30 (c 31 (c 32 (c 33 (e 9 [0, 1, 2, 3, 4, 10, 11, 12, 13, 15, 16, 17, 18, 19, 20, 21, 22, 23, 25, 26, 27, 28, 30, 31, 32, 33] [] (e 14 [0, 1, 2, 3, 4, 15, 16, 17, 18, 19, 20, 21, 22, 23, 25, 26, 27, 28, 30, 31, 32, 33] [] (e 24 [0, 1, 2, 3, 4, 15, 16, 17, 18, 19, 25, 26, 27, 28, 30, 31, 32, 33] [] (e 29 [0, 1, 2, 3, 4, 15, 16, 17, 18, 19, 30, 31, 32, 33] [] (e 34 [0, 1, 2, 3, 4, 15, 16, 17, 18, 19] [] (c 35 (.late 36 (e 37 [] [] (d)))))))))))))))))))))))))))))))))))))))]),
  some (Tryz.f27, []),
  some (Tryz.f28, [(3, c 0 (c 1 (c 3 (c 4 (c 6 (c 7 (c 9 (c 10 (c 12 (c 13 (c 15 (c 16 (c 18 (c 19 (c 21 (c 22 (c 24 (c 25 (c 27 (c 28 (c 30 (c 31 (e 2 [3, 4, 6, 7, 9, 10, 12, 13, 15, 16, 18, 19, 21, 22, 24, 25, 27, 28, 30, 31] [] (e 5 [6, 7, 9, 10, 12, 13, 15, 16, 18, 19, 21, 22, 24, 25, 27, 28, 30, 31] [] (e 8 [9, 10, 12, 13, 15, 16, 18, 19, 21, 22, 24, 25, 27, 28, 30, 31] [] (e 11 [12, 13, 15, 16, 18, 19, 21, 22, 24, 25, 27, 28, 30, 31] [] (e 14 [15, 16, 18, 19, 21, 22, 24, 25, 27, 28, 30, 31] [] (e 17 [18, 19, 21, 22, 24, 25, 27, 28, 30, 31] [] (e 20 [21, 22, 24, 25, 27, 28, 30, 31] [] (e 23 [24, 25, 27, 28, 30, 31] [] (e 26 [27, 28, 30, 31] [] (e 29 [30, 31] [] (e 32 [] [] (e 33 [] [] (e 34 [] [] (c 35 (e 36 [] [] (d))))))))))))))))))))))))))))))))))))))]),
  some (Tryz.f29, [(1, c 1 (c 2 (c 3 (c 6 (c 7 (c 8 (c 11 (c 12 (c 13 (c 16 (c 17 (c 18 (e 0 [1, 2, 3, 6, 7, 8, 11, 12, 13, 16, 17, 18] [] (c 4 (e 5 [1, 2, 3, 4, 6, 7, 8, 11, 12, 13, 16, 17, 18] [] (c 9 (e 10 [1, 2, 3, 4, 6, 7, 8, 9, 11, 12, 13, 16, 17, 18] [] (c 14 (e 15 [1, 2, 3, 4, 6, 7, 8, 9, 11, 12, 13, 14, 16, 17, 18] [] (c 19 (e 20 [6, 7, 8, 9, 11, 12, 13, 14, 16, 17, 18, 19] [] (e 21 [11, 12, 13, 14, 16, 17, 18, 19] [] (e 22 [16, 17, 18, 19] [] (e 23 [] [] (d)))))))))))))))))))))))))]),
  some (Tryz.f30, []),
  some (Tryz.f31, [(6, c 0 (c 1 (c 2 (c 3 (c 4 (e 5 [] [] (c 6 (c 7 (c 8 (c 9 (e 10 [8, 9] [] (e 11 [9] [] (e 12 [] [] (d)))))))))))))), (7, c 0 (c 1 (c 2 (c 3 (c 4 (c 5 (c 6 (c 7 (c 8 (c 9 (e 10 [6, 7, 8, 9] [] (c 11 (c 12 (d))))))))))))))])]
theorem known1 : KnownR Tryz.prog 16 row1 := ⟨⟨Tryz.func16, rfl, Tryz.call16⟩, ⟨⟨Tryz.func17, rfl, Tryz.call17⟩, ⟨⟨Tryz.func18, rfl, Tryz.call18⟩, ⟨⟨Tryz.func19, rfl, Tryz.call19⟩, ⟨⟨Tryz.func20, rfl, Tryz.call20⟩, ⟨⟨Tryz.func21, rfl, Tryz.call21⟩, ⟨⟨Tryz.func22, rfl, Tryz.call22⟩, ⟨⟨Tryz.func23, rfl, Tryz.call23⟩, ⟨⟨Tryz.func24, rfl, Tryz.call24⟩, ⟨⟨Tryz.func25, rfl, Tryz.call25⟩, ⟨⟨Tryz.func26, rfl, Tryz.call26⟩, ⟨⟨Tryz.func27, rfl, Tryz.call27⟩, ⟨⟨Tryz.func28, rfl, Tryz.call28⟩, ⟨⟨Tryz.func29, rfl, Tryz.call29⟩, ⟨⟨Tryz.func30, rfl, Tryz.call30⟩, ⟨⟨Tryz.func31, rfl, Tryz.call31⟩, trivial⟩⟩⟩⟩⟩⟩⟩⟩⟩⟩⟩⟩⟩⟩⟩⟩
theorem fine1 : plRow Tryz.prog row1 = true := by kernel_rfl
noncomputable def row2 : List FnE := [some (Tryz.f32, []),
  some (Tryz.f33, []),
  some (Tryz.f34, [(4, c 0 (c 1 (c 2 (c 3 (c 4 (e 5 [] [] (c 6 (d)))))))), (6, c 0 (c 1 (c 2 (c 3 (c 4 (e 5 [] [] (e 6 [] [] (d))))))))]),
  some (Tryz.f35, [(6, c 0 (c 1 (c 2 (c 3 (c 4 (e 5 [] [] (c 6 (d))))))))]),
  some (Tryz.f36, []),
  some (Tryz.f37, []),
  some (Tryz.f38, []),
  some (Tryz.f39, [(3, c 0 (c 1 (c 2 (c 3 (c 4 (c 5 (c 6 (e 7 [] [] (c 8 (c 9 (c 10 (.late 11 (e 12 [10] [] (e 13 [] [] (d)))))))))))))))]),
  some (Tryz.f40, []),
  some (Tryz.f41, []),
  some (Tryz.f42, []),
  some (Tryz.f43, []),
  some (Tryz.f44, []),
  some (Tryz.f45, []),
  some (Tryz.f46, [(4, c 0 (c 1 (c 2 (c 3 (c 4 (c 5 (c 6 (c 7 (c 8 (c 9 (c 10 (c 11 (c 12 (c 13 (c 14 (c 15 (c 16 (e 17 [] [] (c 18 (c 19 (c 20 (e 21 [20] [] (e 22 [] [] (d))))))))))))))))))))))))]),
  some (Tryz.f47, [])]
theorem known2 : KnownR Tryz.prog 32 row2 := ⟨⟨Tryz.func32, rfl, Tryz.call32⟩, ⟨⟨Tryz.func33, rfl, Tryz.call33⟩, ⟨⟨Tryz.func34, rfl, Tryz.call34⟩, ⟨⟨Tryz.func35, rfl, Tryz.call35⟩, ⟨⟨Tryz.func36, rfl, Tryz.call36⟩, ⟨⟨Tryz.func37, rfl, Tryz.call37⟩, ⟨⟨Tryz.func38, rfl, Tryz.call38⟩, ⟨⟨Tryz.func39, rfl, Tryz.call39⟩, ⟨⟨Tryz.func40, rfl, Tryz.call40⟩, ⟨⟨Tryz.func41, rfl, Tryz.call41⟩, ⟨⟨Tryz.func42, rfl, Tryz.call42⟩, ⟨⟨Tryz.func43, rfl, Tryz.call43⟩, ⟨⟨Tryz.func44, rfl, Tryz.call44⟩, ⟨⟨Tryz.func45, rfl, Tryz.call45⟩, ⟨⟨Tryz.func46, rfl, Tryz.call46⟩, ⟨⟨Tryz.func47, rfl, Tryz.call47⟩, trivial⟩⟩⟩⟩⟩⟩⟩⟩⟩⟩⟩⟩⟩⟩⟩⟩
theorem fine2 : plRow Tryz.prog row2 = true := by kernel_rfl
noncomputable def row3 : List FnE := [some (Tryz.f48, [(1, c 0 (c 1 (c 2 (c 3 (c 4 (c 5 (c 6 (c 7 (c 8 (e 9 [] [] (c 10 (c 11 (c 12 (e 13 [12] [] (e 14 [] [] (d)))))))))))))))), (7, c 0 (c 1 (c 2 (c 3 (c 4 (c 5 (c 6 (c 7 (c 8 (c 9 (c 10 (c 11 (c 12 (c 13 (e 14 [] [] (c 15 (e 16 [] [] (d))))))))))))))))))]),
  some (Tryz.f49, [(6, c 0 (c 1 (c 2 (c 3 (c 4 (c 5 (c 6 (c 7 (c 8 (d))))))))))]),
  some (Tryz.f50, []),
  some (Tryz.f51, []),
  some (Tryz.f52, [(6, c 0 (c 1 (c 2 (c 3 (c 4 (c 5 (c 6 (c 7 (c 8 (d))))))))))]),
  some (Tryz.f53, [(6, c 0 (c 1 (c 2 (c 3 (c 4 (c 5 (c 6 (c 7 (c 8 (d))))))))))]),
  some (Tryz.f54, []),
  some (Tryz.f55, []),
  some (Tryz.f56, []),
  some (Tryz.f57, []),
  some (Tryz.f58, []),
  some (Tryz.f59, []),
  some (Tryz.f60, []),
  some (Tryz.f61, []),
  some (Tryz.f62, []),
  some (Tryz.f63, [])]
theorem known3 : KnownR Tryz.prog 48 row3 := ⟨⟨Tryz.func48, rfl, Tryz.call48⟩, ⟨⟨Tryz.func49, rfl, Tryz.call49⟩, ⟨⟨Tryz.func50, rfl, Tryz.call50⟩, ⟨⟨Tryz.func51, rfl, Tryz.call51⟩, ⟨⟨Tryz.func52, rfl, Tryz.call52⟩, ⟨⟨Tryz.func53, rfl, Tryz.call53⟩, ⟨⟨Tryz.func54, rfl, Tryz.call54⟩, ⟨⟨Tryz.func55, rfl, Tryz.call55⟩, ⟨⟨Tryz.func56, rfl, Tryz.call56⟩, ⟨⟨Tryz.func57, rfl, Tryz.call57⟩, ⟨⟨Tryz.func58, rfl, Tryz.call58⟩, ⟨⟨Tryz.func59, rfl, Tryz.call59⟩, ⟨⟨Tryz.func60, rfl, Tryz.call60⟩, ⟨⟨Tryz.func61, rfl, Tryz.call61⟩, ⟨⟨Tryz.func62, rfl, Tryz.call62⟩, ⟨⟨Tryz.func63, rfl, Tryz.call63⟩, trivial⟩⟩⟩⟩⟩⟩⟩⟩⟩⟩⟩⟩⟩⟩⟩⟩
theorem fine3 : plRow Tryz.prog row3 = true := by kernel_rfl
noncomputable def row4 : List FnE := [some (Tryz.f64, []),
  some (Tryz.f65, [(1, c 0 (c 1 (c 2 (c 3 (e 4 [0, 1, 2] [] (e 5 [] [] (d)))))))]),
  some (Tryz.f66, []),
  some (Tryz.f67, []),
  some (Tryz.f68, []),
  some (Tryz.f69, []),
  some (Tryz.f70, []),
  some (Tryz.f71, []),
  some (Tryz.f72, []),
  some (Tryz.f73, []),
  some (Tryz.f74, []),
  some (Tryz.f75, []),
  some (Tryz.f76, []),
  some (Tryz.f77, [(20, c 0 (c 1 (c 2 (c 3 (c 4 (c 5 (e 6 [0, 1, 2] [] (e 7 [] [] (d)))))))))]),
  some (Tryz.f78, []),
  some (Tryz.f79, [(4, c 0 (c 1 (c 2 (c 3 (c 4 (e 5 [] [] (d)))))))])]
theorem known4 : KnownR Tryz.prog 64 row4 := ⟨⟨Tryz.func64, rfl, Tryz.call64⟩, ⟨⟨Tryz.func65, rfl, Tryz.call65⟩, ⟨⟨Tryz.func66, rfl, Tryz.call66⟩, ⟨⟨Tryz.func67, rfl, Tryz.call67⟩, ⟨⟨Tryz.func68, rfl, Tryz.call68⟩, ⟨⟨Tryz.func69, rfl, Tryz.call69⟩, ⟨⟨Tryz.func70, rfl, Tryz.call70⟩, ⟨⟨Tryz.func71, rfl, Tryz.call71⟩, ⟨⟨Tryz.func72, rfl, Tryz.call72⟩, ⟨⟨Tryz.func73, rfl, Tryz.call73⟩, ⟨⟨Tryz.func74, rfl, Tryz.call74⟩, ⟨⟨Tryz.func75, rfl, Tryz.call75⟩, ⟨⟨Tryz.func76, rfl, Tryz.call76⟩, ⟨⟨Tryz.func77, rfl, Tryz.call77⟩, ⟨⟨Tryz.func78, rfl, Tryz.call78⟩, ⟨⟨Tryz.func79, rfl, Tryz.call79⟩, trivial⟩⟩⟩⟩⟩⟩⟩⟩⟩⟩⟩⟩⟩⟩⟩⟩
theorem fine4 : plRow Tryz.prog row4 = true := by kernel_rfl
noncomputable def row5 : List FnE := [some (Tryz.f80, []),
  some (Tryz.f81, [(3, c 0 (c 1 (c 2 (c 3 (c 4 (c 5 (c 6 (c 7 (c 8 (c 9 (c 10 (e 11 [] [] (e 12 [] [] (d))))))))))))))]),
  some (Tryz.f82, []),
  some (Tryz.f83, [(6, c 0 (c 1 (c 2 (c 3 (c 4 (c 5 (c 6 (c 7 (e 8 [4, 5, 6, 7] [] (e 9 [] [] (e 10 [] [] (d)))))))))))), (10, c 0 (c 1 (c 2 (c 3 (c 4 (c 5 (c 6 (c 7 (c 8 (c 9 (c 10 (c 11 (c 12 (c 13 (c 14 (c 15 (e 16 [8, 9, 10, 11, 12, 13, 14, 15] [] (e 17 [] [] (e 18 [] [] (d))))))))))))))))))))]),
  some (Tryz.f84, []),
  some (Tryz.f85, []),
  some (Tryz.f86, []),
  some (Tryz.f87, []),
  some (Tryz.f88, []),
  some (Tryz.f89, []),
  some (Tryz.f90, []),
  some (Tryz.f91, []),
  some (Tryz.f92, []),
  some (Tryz.f93, [(1, c 0 (c 1 (c 2 (c 3 (c 4 (c 5 (c 6 (c 7 (c 8 (c 9 (c 10 (c 11 (c 12 (c 13 (e 14 [] [] (d))))))))))))))))]),
  some (Tryz.f94, []),
  some (Tryz.f95, [])]
theorem known5 : KnownR Tryz.prog 80 row5 := ⟨⟨Tryz.func80, rfl, Tryz.call80⟩, ⟨⟨Tryz.func81, rfl, Tryz.call81⟩, ⟨⟨Tryz.func82, rfl, Tryz.call82⟩, ⟨⟨Tryz.func83, rfl, Tryz.call83⟩, ⟨⟨Tryz.func84, rfl, Tryz.call84⟩, ⟨⟨Tryz.func85, rfl, Tryz.call85⟩, ⟨⟨Tryz.func86, rfl, Tryz.call86⟩, ⟨⟨Tryz.func87, rfl, Tryz.call87⟩, ⟨⟨Tryz.func88, rfl, Tryz.call88⟩, ⟨⟨Tryz.func89, rfl, Tryz.call89⟩, ⟨⟨Tryz.func90, rfl, Tryz.call90⟩, ⟨⟨Tryz.func91, rfl, Tryz.call91⟩, ⟨⟨Tryz.func92, rfl, Tryz.call92⟩, ⟨⟨Tryz.func93, rfl, Tryz.call93⟩, ⟨⟨Tryz.func94, rfl, Tryz.call94⟩, ⟨⟨Tryz.func95, rfl, Tryz.call95⟩, trivial⟩⟩⟩⟩⟩⟩⟩⟩⟩⟩⟩⟩⟩⟩⟩⟩
theorem fine5 : plRow Tryz.prog row5 = true := by kernel_rfl
noncomputable def row6 : List FnE := [some (Tryz.f96, [(3, c 1 (c 2 (c 3 (e 0 [1, 2, 3] [] (c 4 (e 5 [] [] (d))))))), (17, c 0 (c 1 (c 2 (c 3 (c 4 (c 5 (c 6 (e 7 [] [] (d)))))))))]),
  some (Tryz.f97, []),
  some (Tryz.f98, []),
  some (Tryz.f99, []),
  some (Tryz.f100, []),
  some (Tryz.f101, []),
  some (Tryz.f102, []),
  some (Tryz.f103, []),
  some (Tryz.f104, []),
  some (Tryz.f105, []),
  some (Tryz.f106, []),
  some (Tryz.f107, []),
  some (Tryz.f108, [(7, c 0 (c 1 (c 2 (c 3 (c 4 (e 5 [0, 1, 2] [] (c 6 (e 7 [0] [] (e 8 [] [] (e 9 [] [] (d)))))))))))]),
  some (Tryz.f109, [(3, c 0 (c 1 (c 2 (c 3 (c 4 (c 5 (c 6 (c 7 (c 8 (c 9 (c 10 (c 11 (c 12 (d))))))))))))))]),
  some (Tryz.f110, []),
  some (Tryz.f111, [(1, c 0 (c 1 (c 2 (c 3 (c 4 (c 5 (c 6 (c 7 (c 8 (c 9 (e 10 [] [] (e 11 [] [] (d)))))))))))))])]
theorem known6 : KnownR Tryz.prog 96 row6 := ⟨⟨Tryz.func96, rfl, Tryz.call96⟩, ⟨⟨Tryz.func97, rfl, Tryz.call97⟩, ⟨⟨Tryz.func98, rfl, Tryz.call98⟩, ⟨⟨Tryz.func99, rfl, Tryz.call99⟩, ⟨⟨Tryz.func100, rfl, Tryz.call100⟩, ⟨⟨Tryz.func101, rfl, Tryz.call101⟩, ⟨⟨Tryz.func102, rfl, Tryz.call102⟩, ⟨⟨Tryz.func103, rfl, Tryz.call103⟩, ⟨⟨Tryz.func104, rfl, Tryz.call104⟩, ⟨⟨Tryz.func105, rfl, Tryz.call105⟩, ⟨⟨Tryz.func106, rfl, Tryz.call106⟩, ⟨⟨Tryz.func107, rfl, Tryz.call107⟩, ⟨⟨Tryz.func108, rfl, Tryz.call108⟩, ⟨⟨Tryz.func109, rfl, Tryz.call109⟩, ⟨⟨Tryz.func110, rfl, Tryz.call110⟩, ⟨⟨Tryz.func111, rfl, Tryz.call111⟩, trivial⟩⟩⟩⟩⟩⟩⟩⟩⟩⟩⟩⟩⟩⟩⟩⟩
theorem fine6 : plRow Tryz.prog row6 = true := by kernel_rfl
noncomputable def row7 : List FnE := [some (Tryz.f112, []),
  some (Tryz.f113, []),
  some (Tryz.f114, [(1, c 0 (c 1 (c 4 (c 5 (c 8 (e 6 [0, 1, 8] [2, 3] (.late 2 (c 3 (c 7 (c 9 (e 10 [] [] (d))))))))))))]),
  some (Tryz.f115, []),
  some (Tryz.f116, []),
  some (Tryz.f117, []),
  some (Tryz.f118, []),
  some (Tryz.f119, []),
  some (Tryz.f120, []),
  some (Tryz.f121, []),
  some (Tryz.f122, []),
  some (Tryz.f123, []),
  some (Tryz.f124, []),
  some (Tryz.f125, []),
  some (Tryz.f126, []),
  some (Tryz.f127, [])]
theorem known7 : KnownR Tryz.prog 112 row7 := ⟨⟨Tryz.func112, rfl, Tryz.call112⟩, ⟨⟨Tryz.func113, rfl, Tryz.call113⟩, ⟨⟨Tryz.func114, rfl, Tryz.call114⟩, ⟨⟨Tryz.func115, rfl, Tryz.call115⟩, ⟨⟨Tryz.func116, rfl, Tryz.call116⟩, ⟨⟨Tryz.func117, rfl, Tryz.call117⟩, ⟨⟨Tryz.func118, rfl, Tryz.call118⟩, ⟨⟨Tryz.func119, rfl, Tryz.call119⟩, ⟨⟨Tryz.func120, rfl, Tryz.call120⟩, ⟨⟨Tryz.func121, rfl, Tryz.call121⟩, ⟨⟨Tryz.func122, rfl, Tryz.call122⟩, ⟨⟨Tryz.func123, rfl, Tryz.call123⟩, ⟨⟨Tryz.func124, rfl, Tryz.call124⟩, ⟨⟨Tryz.func125, rfl, Tryz.call125⟩, ⟨⟨Tryz.func126, rfl, Tryz.call126⟩, ⟨⟨Tryz.func127, rfl, Tryz.call127⟩, trivial⟩⟩⟩⟩⟩⟩⟩⟩⟩⟩⟩⟩⟩⟩⟩⟩
theorem fine7 : plRow Tryz.prog row7 = true := by kernel_rfl
noncomputable def row8 : List FnE := [some (Tryz.f128, []),
  some (Tryz.f129, []),
  some (Tryz.f130, []),
  some (Tryz.f131, []),
  some (Tryz.f132, []),
  some (Tryz.f133, []),
  some (Tryz.f134, []),
  some (Tryz.f135, []),
  some (Tryz.f136, []),
  some (Tryz.f137, []),
  some (Tryz.f138, []),
  some (Tryz.f139, []),
  some (Tryz.f140, [(2, c 0 (c 1 (c 2 (c 3 (c 4 (c 5 (c 6 (c 7 (c 8 (c 9 (e 10 [5, 6, 7, 8, 9] [] (e 11 [] [] (d))))))))))))), (10, c 0 (c 1 (c 2 (c 3 (c 5 (c 6 (c 7 (c 8 (e 4 [5, 6, 7, 8] [] (e 9 [] [] (e 10 [] [] (e 11 [] [] (d))))))))))))), (20, c 0 (c 1 (c 2 (c 3 (c 4 (c 5 (c 6 (c 7 (c 8 (c 9 (c 10 (c 11 (c 12 (c 13 (c 14 (c 15 (c 16 (c 17 (c 18 (c 19 (c 20 (c 21 (c 22 (c 23 (c 24 (c 25 (c 26 (c 27 (c 28 (c 29 (c 30 (e 31 [] [] (d)))))))))))))))))))))))))))))))))]),
  some (Tryz.f141, []),
  some (Tryz.f142, []),
  some (Tryz.f143, [(5, c 0 (c 1 (c 2 (c 3 (c 4 (c 5 (d)))))))])]
theorem known8 : KnownR Tryz.prog 128 row8 := ⟨⟨Tryz.func128, rfl, Tryz.call128⟩, ⟨⟨Tryz.func129, rfl, Tryz.call129⟩, ⟨⟨Tryz.func130, rfl, Tryz.call130⟩, ⟨⟨Tryz.func131, rfl, Tryz.call131⟩, ⟨⟨Tryz.func132, rfl, Tryz.call132⟩, ⟨⟨Tryz.func133, rfl, Tryz.call133⟩, ⟨⟨Tryz.func134, rfl, Tryz.call134⟩, ⟨⟨Tryz.func135, rfl, Tryz.call135⟩, ⟨⟨Tryz.func136, rfl, Tryz.call136⟩, ⟨⟨Tryz.func137, rfl, Tryz.call137⟩, ⟨⟨Tryz.func138, rfl, Tryz.call138⟩, ⟨⟨Tryz.func139, rfl, Tryz.call139⟩, ⟨⟨Tryz.func140, rfl, Tryz.call140⟩, ⟨⟨Tryz.func141, rfl, Tryz.call141⟩, ⟨⟨Tryz.func142, rfl, Tryz.call142⟩, ⟨⟨Tryz.func143, rfl, Tryz.call143⟩, trivial⟩⟩⟩⟩⟩⟩⟩⟩⟩⟩⟩⟩⟩⟩⟩⟩
theorem fine8 : plRow Tryz.prog row8 = true := by kernel_rfl
noncomputable def row9 : List FnE := [some (Tryz.f144, [(8, c 0 (c 1 (c 2 (c 3 (c 4 (c 5 (c 6 (c 7 (c 8 (c 9 (c 10 (c 11 (c 12 (c 13 (d))))))))))))))), (10, c 0 (c 1 (c 2 (c 3 (c 4 (c 5 (c 6 (c 7 (c 8 (e 9 [] [] (d)))))))))))]),
  some (Tryz.f145, [(1, c 0 (c 1 (c 3 (c 4 (e 2 [3, 4] [] (e 5 [] [] (c 6 (e 7 [] [] (d)))))))))]),
  some (Tryz.f146, []),
  some (Tryz.f147, [(5, c 0 (c 1 (e 2 [0, 1] [] (e 3 [] [] (d)))))]),
  some (Tryz.f148, []),
  some (Tryz.f149, [(0, c 0 (c 1 (c 2 (c 3 (c 4 (c 5 (c 6 (c 7 (c 8 (c 9 (c 10 (c 11 (c 12 (e 13 [0, 1, 2, 3, 4] [] (e 14 [0] [] (c 15 (c 16 (e 17 [] [] (d))))))))))))))))))), (7, c 0 (c 1 (c 2 (c 3 (c 4 (c 5 (e 6 [0, 1, 2, 3, 4] [] (c 7 (c 8 (c 9 (c 10 (e 11 [] [] (d))))))))))))), (8, c 0 (c 1 (c 2 (c 3 (c 4 (c 5 (c 6 (c 7 (c 8 (c 9 (c 10 (c 11 (c 12 (c 13 (e 14 [] [] (d))))))))))))))))]),
  some (Tryz.f150, [(1, c 0 (c 1 (c 3 (c 4 (c 6 (c 7 (c 9 (c 10 (c 12 (c 13 (e 2 [3, 4, 6, 7, 9, 10, 12, 13] [] (c 15 (e 5 [6, 7, 9, 10, 12, 13, 15] [] (e 8 [9, 10, 12, 13, 15] [] (e 11 [12, 13, 15] [] (e 14 [15] [] (e 16 [] [] (c 17 (e 18 [] [] (c 19 (e 20 [] [] (c 21 (e 22 [] [] (c 23 (e 24 [] [] (d)))))))))))))))))))))))))), (2, c 0 (c 1 (c 3 (c 4 (c 6 (c 7 (c 9 (c 10 (c 12 (c 13 (e 2 [3, 4, 6, 7, 9, 10, 12, 13] [] (c 15 (e 5 [6, 7, 9, 10, 12, 13, 15] [] (e 8 [9, 10, 12, 13, 15] [] (e 11 [12, 13, 15] [] (e 14 [15] [] (e 16 [] [] (c 17 (e 18 [] [] (c 19 (e 20 [] [] (c 21 (e 22 [] [] (c 23 (e 24 [] [] (d)))))))))))))))))))))))))), (6, c 0 (c 1 (c 2 (c 3 (e 4 [0, 1, 2] [] (c 5 (e 6 [] [] (d)))))))), (11, c 0 (c 1 (c 2 (c 3 (c 4 (c 5 (c 6 (c 7 (c 8 (e 9 [0, 1, 2] [] (c 10 (c 11 (e 12 [] [] (d)))))))))))))), (16, c 0 (c 1 (c 2 (c 3 (c 4 (c 6 (c 7 (e 5 [0, 1, 2, 6, 7] [] (e 8 [0, 1, 2] [] (c 9 (c 10 (e 11 [] [] (d))))))))))))), (21, c 0 (c 1 (c 2 (c 3 (c 4 (c 6 (c 7 (e 5 [0, 1, 2, 6, 7] [] (e 8 [0, 1, 2] [] (c 9 (c 10 (e 11 [] [] (d))))))))))))), (26, c 0 (c 1 (c 2 (c 3 (c 4 (c 5 (c 6 (c 7 (c 8 (e 9 [0, 1, 2] [] (c 10 (c 11 (e 12 [] [] (d))))))))))))))]),
  some (Tryz.f151, []),
  some (Tryz.f152, [(5, c 0 (c 1 (c 2 (c 3 (c 4 (c 5 (c 6 (e 7 [0, 1, 2, 3, 4] [] (c 8 (e 9 [0, 1, 2, 3, 4] [] (e 10 [0] [] (c 11 (c 12 (e 13 [] [] (d)))))))))))))))]),
  some (Tryz.f153, []),
  some (Tryz.f154, []),
  some (Tryz.f155, []),
  some (Tryz.f156, [(5, c 0 (c 1 (c 2 (c 3 (c 4 (c 5 (c 6 (c 7 (e 8 [0, 1, 2, 3, 4] [] (e 9 [0] [] (c 10 (c 11 (e 12 [] [] (d))))))))))))))]),
  some (Tryz.f157, []),
  some (Tryz.f158, []),
  some (Tryz.f159, [(3, c 0 (c 1 (c 2 (c 3 (c 4 (c 5 (c 6 (c 8 (c 9 (e 7 [0, 1, 2, 3, 8, 9] [] (e 10 [] [] (d)))))))))))), (8, c 0 (c 1 (c 2 (c 3 (c 4 (c 5 (c 6 (c 8 (c 9 (e 7 [0, 1, 2, 3, 8, 9] [] (e 10 [] [] (d))))))))))))])]
theorem known9 : KnownR Tryz.prog 144 row9 := ⟨⟨Tryz.func144, rfl, Tryz.call144⟩, ⟨⟨Tryz.func145, rfl, Tryz.call145⟩, ⟨⟨Tryz.func146, rfl, Tryz.call146⟩, ⟨⟨Tryz.func147, rfl, Tryz.call147⟩, ⟨⟨Tryz.func148, rfl, Tryz.call148⟩, ⟨⟨Tryz.func149, rfl, Tryz.call149⟩, ⟨⟨Tryz.func150, rfl, Tryz.call150⟩, ⟨⟨Tryz.func151, rfl, Tryz.call151⟩, ⟨⟨Tryz.func152, rfl, Tryz.call152⟩, ⟨⟨Tryz.func153, rfl, Tryz.call153⟩, ⟨⟨Tryz.func154, rfl, Tryz.call154⟩, ⟨⟨Tryz.func155, rfl, Tryz.call155⟩, ⟨⟨Tryz.func156, rfl, Tryz.call156⟩, ⟨⟨Tryz.func157, rfl, Tryz.call157⟩, ⟨⟨Tryz.func158, rfl, Tryz.call158⟩, ⟨⟨Tryz.func159, rfl, Tryz.call159⟩, trivial⟩⟩⟩⟩⟩⟩⟩⟩⟩⟩⟩⟩⟩⟩⟩⟩
theorem fine9 : plRow Tryz.prog row9 = true := by kernel_rfl
noncomputable def row10 : List FnE := [some (Tryz.f160, [(8, c 0 (c 1 (c 2 (c 3 (c 4 (c 5 (c 6 (c 7 (c 8 (c 9 (c 10 (c 11 (c 12 (c 13 (c 14 (c 15 (c 16 (c 17 (e 18 [0, 1, 2, 3, 4] [] (e 19 [0, 1, 2, 3, 4] [] (e 20 [0] [] (c 21 (c 22 (e 23 [] [] (d)))))))))))))))))))))))))]),
  some (Tryz.f161, [(7, c 0 (c 1 (c 2 (c 3 (c 4 (c 5 (e 6 [0, 1, 2, 3, 4] [] (c 7 (e 8 [] [] (d))))))))))]),
  some (Tryz.f162, []),
  some (Tryz.f163, [(3, c 0 (c 1 (c 2 (c 3 (c 4 (c 5 (c 6 (c 7 (c 8 (c 9 (e 10 [0] [] (e 11 [] [] (c 12 (d))))))))))))))]),
  some (Tryz.f164, [(5, c 0 (c 1 (c 2 (c 3 (c 4 (c 5 (e 6 [] [] (c 7 (d))))))))), (7, c 0 (c 1 (c 2 (c 3 (c 4 (c 5 (c 6 (c 7 (c 8 (c 9 (c 10 (c 11 (c 12 (c 13 (c 14 (c 15 (c 16 (e 17 [] [] (e 18 [] [] (d))))))))))))))))))))]),
  some (Tryz.f165, []),
  some (Tryz.f166, []),
  some (Tryz.f167, []),
  some (Tryz.f168, [(0, c 0 (c 1 (c 2 (c 3 (c 4 (c 5 (c 6 (c 7 (c 9 (c 10 (c 11 (c 12 (c 13 (e 8 [9, 10, 11, 12, 13] [] (c 14 (e 15 [] [] (d)))))))))))))))))]),
  some (Tryz.f169, []),
  some (Tryz.f170, []),
  some (Tryz.f171, []),
  some (Tryz.f172, []),
  some (Tryz.f173, [(4, c 0 (c 1 (c 2 (c 3 (c 4 (c 5 (c 6 (c 7 (c 8 (c 9 (c 10 (c 11 (c 12 (c 13 (e 14 [] [] (c 15 (c 16 (d))))))))))))))))))]),
  some (Tryz.f174, []),
  some (Tryz.f175, [])]
theorem known10 : KnownR Tryz.prog 160 row10 := ⟨⟨Tryz.func160, rfl, Tryz.call160⟩, ⟨⟨Tryz.func161, rfl, Tryz.call161⟩, ⟨⟨Tryz.func162, rfl, Tryz.call162⟩, ⟨⟨Tryz.func163, rfl, Tryz.call163⟩, ⟨⟨Tryz.func164, rfl, Tryz.call164⟩, ⟨⟨Tryz.func165, rfl, Tryz.call165⟩, ⟨⟨Tryz.func166, rfl, Tryz.call166⟩, ⟨⟨Tryz.func167, rfl, Tryz.call167⟩, ⟨⟨Tryz.func168, rfl, Tryz.call168⟩, ⟨⟨Tryz.func169, rfl, Tryz.call169⟩, ⟨⟨Tryz.func170, rfl, Tryz.call170⟩, ⟨⟨Tryz.func171, rfl, Tryz.call171⟩, ⟨⟨Tryz.func172, rfl, Tryz.call172⟩, ⟨⟨Tryz.func173, rfl, Tryz.call173⟩, ⟨⟨Tryz.func174, rfl, Tryz.call174⟩, ⟨⟨Tryz.func175, rfl, Tryz.call175⟩, trivial⟩⟩⟩⟩⟩⟩⟩⟩⟩⟩⟩⟩⟩⟩⟩⟩
theorem fine10 : plRow Tryz.prog row10 = true := by kernel_rfl
noncomputable def row11 : List FnE := [some (Tryz.f176, []),
  some (Tryz.f177, []),
  some (Tryz.f178, []),
  some (Tryz.f179, []),
  some (Tryz.f180, []),
  some (Tryz.f181, [(1, c 0 (c 1 (c 2 (c 3 (c 4 (c 5 (c 6 (c 7 (c 8 (c 9 (c 10 (e 11 [] [] (d)))))))))))))]),
  some (Tryz.f182, []),
  some (Tryz.f183, []),
  some (Tryz.f184, []),
  some (Tryz.f185, []),
  some (Tryz.f186, []),
  some (Tryz.f187, []),
  some (Tryz.f188, []),
  some (Tryz.f189, []),
  some (Tryz.f190, [(5, c 0 (c 1 (c 3 (c 4 (c 6 (c 7 (e 2 [3, 4, 6, 7] [] (c 9 (e 5 [6, 7, 9] [] (e 8 [9] [] (e 10 [] [] (c 11 (e 12 [] [] (c 13 (e 14 [] [] (d))))))))))))))))]),
  some (Tryz.f191, [(9, c 0 (c 1 (c 2 (c 3 (c 4 (c 5 (c 6 (e 7 [0] [] (c 8 (e 9 [] [] (d)))))))))))])]
theorem known11 : KnownR Tryz.prog 176 row11 := ⟨⟨Tryz.func176, rfl, Tryz.call176⟩, ⟨⟨Tryz.func177, rfl, Tryz.call177⟩, ⟨⟨Tryz.func178, rfl, Tryz.call178⟩, ⟨⟨Tryz.func179, rfl, Tryz.call179⟩, ⟨⟨Tryz.func180, rfl, Tryz.call180⟩, ⟨⟨Tryz.func181, rfl, Tryz.call181⟩, ⟨⟨Tryz.func182, rfl, Tryz.call182⟩, ⟨⟨Tryz.func183, rfl, Tryz.call183⟩, ⟨⟨Tryz.func184, rfl, Tryz.call184⟩, ⟨⟨Tryz.func185, rfl, Tryz.call185⟩, ⟨⟨Tryz.func186, rfl, Tryz.call186⟩, ⟨⟨Tryz.func187, rfl, Tryz.call187⟩, ⟨⟨Tryz.func188, rfl, Tryz.call188⟩, ⟨⟨Tryz.func189, rfl, Tryz.call189⟩, ⟨⟨Tryz.func190, rfl, Tryz.call190⟩, ⟨⟨Tryz.func191, rfl, Tryz.call191⟩, trivial⟩⟩⟩⟩⟩⟩⟩⟩⟩⟩⟩⟩⟩⟩⟩⟩
theorem fine11 : plRow Tryz.prog row11 = true := by kernel_rfl
noncomputable def row12 : List FnE := [some (Tryz.f192, []),
  some (Tryz.f193, []),
  some (Tryz.f194, [(1, c 0 (c 1 (c 2 (c 4 (c 5 (c 6 (c 8 (c 9 (c 10 (c 11 (e 3 [4, 5, 6, 8, 9, 10, 11] [] (c 7 (e 12 [4, 5, 6, 7] [] (c 13 (c 14 (e 15 [] [] (d)))))))))))))))))]),
  some (Tryz.f195, []),
  some (Tryz.f196, []),
  some (Tryz.f197, [(1, c 0 (c 1 (c 2 (c 4 (c 5 (c 6 (c 8 (c 9 (c 10 (c 11 (e 3 [4, 5, 6, 8, 9, 10, 11] [] (c 7 (e 12 [4, 5, 6, 7] [] (c 13 (c 14 (e 15 [] [] (d)))))))))))))))))]),
  some (Tryz.f198, []),
  some (Tryz.f199, []),
  some (Tryz.f200, []),
  some (Tryz.f201, [(1, c 0 (c 1 (c 2 (c 3 (c 4 (c 5 (c 6 (e 7 [] [] (c 8 (c 9 (c 10 (e 11 [10] [] (e 12 [] [] (d)))))))))))))), (2, c 0 (c 1 (c 2 (c 3 (c 4 (c 5 (c 6 (c 7 (c 8 (c 9 (c 10 (c 11 (c 12 (c 13 (c 14 (c 15 (c 16 (c 17 (c 18 (c 19 (e 20 [] [] (e 21 [] [] (d)))))))))))))))))))))))]),
  some (Tryz.f202, [(1, c 0 (c 1 (c 2 (c 3 (c 5 (c 6 (c 7 (c 8 (c 9 (c 10 (c 11 (c 12 (e 4 [5, 6, 7, 8, 9, 10, 11, 12] [] (c 13 (e 14 [] [] (e 15 [] [] (d))))))))))))))))), (5, c 0 (c 1 (c 2 (c 3 (c 4 (c 5 (c 6 (e 7 [0, 1, 2, 3, 4] [] (c 8 (c 9 (e 10 [] [] (d)))))))))))), (9, c 0 (c 1 (c 2 (c 3 (c 4 (c 5 (c 6 (c 7 (c 8 (c 9 (c 10 (e 11 [0, 1, 2, 3, 4, 5, 6, 7, 8] [] (c 12 (c 13 (e 14 [] [] (d))))))))))))))))]),
  some (Tryz.f203, [(6, c 0 (c 1 (c 2 (c 3 (c 4 (c 5 (e 6 [] [] (d))))))))]),
  some (Tryz.f204, []),
  some (Tryz.f205, []),
  some (Tryz.f206, []),
  none]
theorem known12 : KnownR Tryz.prog 192 row12 := ⟨⟨Tryz.func192, rfl, Tryz.call192⟩, ⟨⟨Tryz.func193, rfl, Tryz.call193⟩, ⟨⟨Tryz.func194, rfl, Tryz.call194⟩, ⟨⟨Tryz.func195, rfl, Tryz.call195⟩, ⟨⟨Tryz.func196, rfl, Tryz.call196⟩, ⟨⟨Tryz.func197, rfl, Tryz.call197⟩, ⟨⟨Tryz.func198, rfl, Tryz.call198⟩, ⟨⟨Tryz.func199, rfl, Tryz.call199⟩, ⟨⟨Tryz.func200, rfl, Tryz.call200⟩, ⟨⟨Tryz.func201, rfl, Tryz.call201⟩, ⟨⟨Tryz.func202, rfl, Tryz.call202⟩, ⟨⟨Tryz.func203, rfl, Tryz.call203⟩, ⟨⟨Tryz.func204, rfl, Tryz.call204⟩, ⟨⟨Tryz.func205, rfl, Tryz.call205⟩, ⟨⟨Tryz.func206, rfl, Tryz.call206⟩, trivial⟩⟩⟩⟩⟩⟩⟩⟩⟩⟩⟩⟩⟩⟩⟩
theorem fine12 : plRow Tryz.prog row12 = true := by kernel_rfl
noncomputable def row13 : List FnE := [none,
  some (Tryz.f209, [(7, c 0 (c 1 (c 2 (c 3 (c 4 (c 6 (c 7 (e 5 [6, 7] [] (e 8 [] [] (c 9 (c 10 (c 11 (c 12 (d)))))))))))))), (9, c 0 (c 1 (c 2 (c 3 (c 4 (c 6 (c 7 (c 10 (c 11 (c 13 (c 14 (e 5 [6, 7, 10, 11, 13, 14] [] (e 8 [10, 11, 13, 14] [] (c 9 (e 12 [9, 13, 14] [] (e 15 [9] [] (c 16 (c 17 (c 18 (c 19 (c 20 (d)))))))))))))))))))))), (17, c 0 (c 1 (c 2 (c 3 (c 4 (c 5 (c 6 (c 7 (c 8 (c 9 (c 10 (c 11 (c 12 (c 13 (c 14 (c 15 (c 16 (d)))))))))))))))))), (21, c 0 (c 1 (c 2 (c 3 (c 4 (c 5 (c 6 (c 7 (c 8 (c 9 (c 10 (c 11 (c 12 (c 13 (c 14 (c 15 (c 16 (c 17 (c 18 (c 19 (c 20 (c 21 (c 22 (c 23 (c 24 (c 25 (c 26 (d)))))))))))))))))))))))))))), (25, c 0 (c 1 (c 2 (c 3 (c 4 (c 5 (c 6 (c 7 (c 8 (c 9 (c 10 (c 11 (c 12 (c 13 (c 14 (c 15 (c 16 (c 17 (c 18 (c 19 (c 20 (c 21 (c 22 (c 23 (c 24 (c 25 (c 26 (c 27 (c 28 (c 29 (c 30 (c 31 (c 32 (c 33 (c 34 (c 35 (c 36 (d))))))))))))))))))))))))))))))))))))))]),
  some (Tryz.f210, []),
  some (Tryz.f211, []),
  some (Tryz.f212, []),
  some (Tryz.f213, [(3, c 0 (c 1 (c 2 (c 3 (c 4 (c 5 (c 6 (c 7 (c 8 (c 9 (e 10 [] [] (c 11 (c 12 (c 13 (e 14 [13] [] (e 15 [] [] (d))))))))))))))))), (6, c 0 (c 1 (c 2 (c 3 (c 4 (c 5 (c 6 (c 7 (c 8 (c 9 (c 10 (c 11 (c 12 (c 13 (c 14 (c 15 (c 16 (e 17 [] [] (d))))))))))))))))))), (7, c 0 (c 1 (c 2 (c 3 (c 4 (c 5 (c 6 (c 7 (c 8 (c 9 (c 10 (c 11 (c 12 (e 13 [] [] (d)))))))))))))))]),
  some (Tryz.f214, [(2, c 0 (c 1 (c 2 (c 3 (c 4 (c 5 (c 6 (c 7 (c 8 (c 9 (d))))))))))), (5, c 0 (c 1 (c 2 (c 3 (c 4 (c 5 (c 6 (c 7 (c 8 (c 9 (c 10 (c 11 (e 12 [] [] (d)))))))))))))), (6, c 0 (c 1 (c 2 (c 3 (c 4 (c 5 (c 6 (c 7 (c 8 (c 9 (c 10 (c 11 (c 12 (c 13 (e 14 [] [] (d))))))))))))))))]),
  some (Tryz.f215, []),
  some (Tryz.f216, [(1, c 0 (c 1 (c 2 (c 3 (c 4 (c 5 (c 6 (c 7 (c 8 (c 9 (e 10 [] [] (c 11 (c 12 (c 13 (c 14 (e 15 [13, 14] [] (e 16 [14] [] (e 17 [] [] (d))))))))))))))))))), (7, c 0 (c 1 (c 2 (c 3 (c 4 (c 5 (c 6 (c 7 (c 8 (c 9 (e 10 [] [] (d)))))))))))), (8, c 0 (c 1 (c 2 (c 3 (c 4 (c 5 (c 6 (c 7 (c 8 (c 9 (e 10 [] [] (d))))))))))))]),
  some (Tryz.f217, [(2, c 0 (c 1 (c 2 (c 3 (c 4 (c 5 (c 6 (c 7 (c 8 (c 9 (c 10 (c 11 (c 12 (c 13 (c 14 (e 15 [6, 7, 8, 9, 10] [] (c 16 (c 17 (e 18 [] [] (d))))))))))))))))))))]),
  some (Tryz.f218, [(1, c 0 (c 1 (c 2 (c 3 (c 4 (c 5 (c 6 (c 7 (c 8 (c 9 (e 10 [0] [] (c 11 (c 12 (e 13 [] [] (d)))))))))))))))]),
  some (Tryz.f219, [(4, c 0 (c 1 (c 3 (c 4 (c 6 (c 7 (e 2 [3, 4, 6, 7] [8] (e 5 [6, 7] [8] (.late 8 (c 9 (e 10 [] [] (e 11 [] [] (d)))))))))))))]),
  some (Tryz.f220, []),
  some (Tryz.f221, []),
  some (Tryz.f222, []),
  some (Tryz.f223, [])]
theorem known13 : KnownR Tryz.prog 208 row13 := ⟨⟨Tryz.func209, rfl, Tryz.call209⟩, ⟨⟨Tryz.func210, rfl, Tryz.call210⟩, ⟨⟨Tryz.func211, rfl, Tryz.call211⟩, ⟨⟨Tryz.func212, rfl, Tryz.call212⟩, ⟨⟨Tryz.func213, rfl, Tryz.call213⟩, ⟨⟨Tryz.func214, rfl, Tryz.call214⟩, ⟨⟨Tryz.func215, rfl, Tryz.call215⟩, ⟨⟨Tryz.func216, rfl, Tryz.call216⟩, ⟨⟨Tryz.func217, rfl, Tryz.call217⟩, ⟨⟨Tryz.func218, rfl, Tryz.call218⟩, ⟨⟨Tryz.func219, rfl, Tryz.call219⟩, ⟨⟨Tryz.func220, rfl, Tryz.call220⟩, ⟨⟨Tryz.func221, rfl, Tryz.call221⟩, ⟨⟨Tryz.func222, rfl, Tryz.call222⟩, ⟨⟨Tryz.func223, rfl, Tryz.call223⟩, trivial⟩⟩⟩⟩⟩⟩⟩⟩⟩⟩⟩⟩⟩⟩⟩
theorem fine13 : plRow Tryz.prog row13 = true := by kernel_rfl
noncomputable def row14 : List FnE := [some (Tryz.f224, []),
  some (Tryz.f225, [(0, c 0 (c 1 (c 2 (c 3 (c 4 (c 5 (c 6 (c 7 (c 8 (c 9 (c 10 (c 11 (e 12 [0, 1, 2, 3, 4] [] (e 13 [0] [] (c 14 (c 15 (e 16 [] [] (d))))))))))))))))))]),
  some (Tryz.f226, []),
  some (Tryz.f227, [(0, c 0 (c 1 (c 2 (c 3 (c 4 (c 5 (c 6 (c 7 (c 8 (c 9 (c 10 (c 11 (.late 12 (e 13 [] [] (d))))))))))))))), (1, c 0 (c 1 (c 2 (c 3 (c 4 (c 5 (c 6 (c 7 (c 8 (c 9 (c 10 (c 11 (c 12 (c 13 (e 14 [] [] (d)))))))))))))))), (5, c 0 (c 1 (c 2 (c 3 (c 4 (c 5 (c 6 (c 7 (e 8 [] [] (d))))))))))]),
  some (Tryz.f228, []),
  some (Tryz.f229, []),
  some (Tryz.f230, []),
  some (Tryz.f231, []),
  some (Tryz.f232, [(1, c 0 (c 1 (c 2 (c 3 (c 4 (c 5 (c 6 (c 7 (c 8 (c 9 (c 10 (c 11 (c 12 (c 13 (c 14 (c 15 (d))))))))))))))))), (2, c 0 (c 1 (c 2 (c 3 (c 4 (c 5 (c 6 (c 7 (c 8 (c 9 (c 10 (e 11 [] [] (d))))))))))))), (5, c 0 (c 1 (c 2 (c 3 (c 4 (c 5 (e 6 [] [] (d)))))))), (6, c 0 (c 1 (c 2 (c 3 (c 4 (c 5 (c 6 (c 7 (c 8 (c 9 (c 10 (c 11 (c 12 (c 13 (e 14 [] [] (d)))))))))))))))), (7, c 0 (c 1 (c 2 (c 3 (c 4 (c 5 (e 6 [0, 1, 2, 3, 4] [] (e 7 [0] [] (c 8 (c 9 (e 10 [] [] (d))))))))))))]),
  some (Tryz.f233, []),
  some (Tryz.f234, []),
  some (Tryz.f235, [(1, c 0 (c 1 (c 2 (c 3 (c 4 (c 5 (c 6 (c 7 (c 8 (c 9 (c 10 (c 11 (c 12 (c 13 (c 14 (c 15 (c 16 (c 17 (e 18 [] [] (d)))))))))))))))))))), (2, c 0 (c 1 (c 2 (c 3 (c 4 (c 5 (c 6 (c 7 (c 8 (c 9 (c 10 (c 11 (c 12 (c 13 (c 14 (c 15 (c 16 (c 17 (c 18 (c 19 (c 20 (c 21 (c 22 (c 23 (c 24 (c 25 (c 26 (c 27 (c 28 (c 29 (c 30 (c 31 (c 32 (c 33 (c 34 (c 35 (c 36 (c 37 (e 38 [] [] (d))))))))))))))))))))))))))))))))))))))))]),
  some (Tryz.f236, [(21, c 0 (c 1 (c 2 (c 3 (c 4 (c 6 (c 7 (c 8 (c 9 (e 5 [0, 6, 7, 8, 9] [] (e 10 [0] [] (c 11 (e 12 [] [] (d))))))))))))))]),
  some (Tryz.f237, []),
  some (Tryz.f238, [(2, c 0 (c 1 (c 2 (c 3 (c 4 (c 5 (c 6 (c 7 (c 8 (c 9 (c 10 (c 11 (c 12 (c 13 (c 14 (e 15 [] [] (d)))))))))))))))))]),
  some (Tryz.f239, [(1, c 0 (c 1 (c 2 (c 3 (c 4 (c 5 (c 6 (c 7 (c 8 (c 9 (c 10 (c 11 (c 12 (e 13 [1] [] (c 14 (c 15 (e 16 [] [] (d))))))))))))))))))])]
theorem known14 : KnownR Tryz.prog 224 row14 := ⟨⟨Tryz.func224, rfl, Tryz.call224⟩, ⟨⟨Tryz.func225, rfl, Tryz.call225⟩, ⟨⟨Tryz.func226, rfl, Tryz.call226⟩, ⟨⟨Tryz.func227, rfl, Tryz.call227⟩, ⟨⟨Tryz.func228, rfl, Tryz.call228⟩, ⟨⟨Tryz.func229, rfl, Tryz.call229⟩, ⟨⟨Tryz.func230, rfl, Tryz.call230⟩, ⟨⟨Tryz.func231, rfl, Tryz.call231⟩, ⟨⟨Tryz.func232, rfl, Tryz.call232⟩, ⟨⟨Tryz.func233, rfl, Tryz.call233⟩, ⟨⟨Tryz.func234, rfl, Tryz.call234⟩, ⟨⟨Tryz.func235, rfl, Tryz.call235⟩, ⟨⟨Tryz.func236, rfl, Tryz.call236⟩, ⟨⟨Tryz.func237, rfl, Tryz.call237⟩, ⟨⟨Tryz.func238, rfl, Tryz.call238⟩, ⟨⟨Tryz.func239, rfl, Tryz.call239⟩, trivial⟩⟩⟩⟩⟩⟩⟩⟩⟩⟩⟩⟩⟩⟩⟩⟩
theorem fine14 : plRow Tryz.prog row14 = true := by kernel_rfl
noncomputable def row15 : List FnE := [some (Tryz.f240, []),
  some (Tryz.f241, []),
  some (Tryz.f242, []),
  some (Tryz.f243, []),
  some (Tryz.f244, []),
  some (Tryz.f245, []),
  some (Tryz.f246, []),
  some (Tryz.f247, []),
  some (Tryz.f248, [(2, c 0 (c 1 (c 2 (c 3 (c 4 (c 5 (c 6 (c 7 (c 8 (c 9 (e 10 [] [] (d)))))))))))), (3, c 0 (c 1 (c 2 (c 3 (c 4 (c 5 (c 6 (c 7 (c 8 (c 9 (c 10 (c 11 (c 12 (c 13 (e 14 [] [] (d))))))))))))))))]),
  some (Tryz.f249, []),
  some (Tryz.f250, [(1, c 0 (c 1 (c 2 (c 3 (c 4 (c 5 (c 6 (e 7 [0, 1, 2, 3, 4, 5] [] (e 8 [0] [] (c 9 (c 10 (c 11 (e 12 [] [] (d))))))))))))))]),
  some (Tryz.f251, [(3, c 0 (c 1 (c 2 (c 3 (c 4 (c 5 (c 6 (c 7 (e 8 [] [] (d)))))))))), (9, c 0 (c 1 (c 2 (c 3 (c 4 (c 5 (c 6 (c 7 (e 8 [] [] (d)))))))))), (11, c 0 (c 1 (c 2 (c 3 (c 4 (c 5 (c 6 (c 7 (c 8 (c 9 (c 10 (c 11 (c 12 (c 13 (c 14 (c 15 (c 16 (c 17 (c 18 (c 19 (c 20 (c 21 (c 22 (c 23 (c 24 (c 25 (c 26 (c 27 (c 28 (e 29 [] [] (c 30 (e 31 [] [] (d))))))))))))))))))))))))))))))))), (14, c 0 (c 1 (c 2 (c 3 (c 4 (c 5 (c 6 (c 7 (e 8 [] [] (d))))))))))]),
  some (Tryz.f252, []),
  some (Tryz.f253, []),
  some (Tryz.f254, []),
  some (Tryz.f255, [])]
theorem known15 : KnownR Tryz.prog 240 row15 := ⟨⟨Tryz.func240, rfl, Tryz.call240⟩, ⟨⟨Tryz.func241, rfl, Tryz.call241⟩, ⟨⟨Tryz.func242, rfl, Tryz.call242⟩, ⟨⟨Tryz.func243, rfl, Tryz.call243⟩, ⟨⟨Tryz.func244, rfl, Tryz.call244⟩, ⟨⟨Tryz.func245, rfl, Tryz.call245⟩, ⟨⟨Tryz.func246, rfl, Tryz.call246⟩, ⟨⟨Tryz.func247, rfl, Tryz.call247⟩, ⟨⟨Tryz.func248, rfl, Tryz.call248⟩, ⟨⟨Tryz.func249, rfl, Tryz.call249⟩, ⟨⟨Tryz.func250, rfl, Tryz.call250⟩, ⟨⟨Tryz.func251, rfl, Tryz.call251⟩, ⟨⟨Tryz.func252, rfl, Tryz.call252⟩, ⟨⟨Tryz.func253, rfl, Tryz.call253⟩, ⟨⟨Tryz.func254, rfl, Tryz.call254⟩, ⟨⟨Tryz.func255, rfl, Tryz.call255⟩, trivial⟩⟩⟩⟩⟩⟩⟩⟩⟩⟩⟩⟩⟩⟩⟩⟩
theorem fine15 : plRow Tryz.prog row15 = true := by kernel_rfl
noncomputable def row16 : List FnE := [some (Tryz.f256, [(16, c 0 (c 1 (c 2 (c 3 (c 4 (c 5 (c 6 (c 7 (c 8 (c 9 (c 10 (c 11 (c 12 (c 13 (e 14 [] [] (d)))))))))))))))), (17, c 0 (c 1 (c 2 (c 3 (c 4 (c 5 (c 6 (c 7 (c 8 (c 9 (c 10 (c 11 (c 12 (c 13 (c 14 (c 15 (c 16 (e 17 [1] [] (c 18 (c 19 (e 20 [] [] (d)))))))))))))))))))))), (19, c 0 (c 1 (c 2 (c 3 (c 4 (c 5 (c 6 (c 7 (c 8 (c 9 (c 10 (c 11 (c 12 (c 13 (e 14 [] [] (d))))))))))))))))]),
  some (Tryz.f257, []),
  some (Tryz.f258, [(1, c 0 (c 1 (c 2 (c 3 (c 4 (c 5 (c 6 (c 7 (c 8 (c 9 (e 10 [] [] (c 11 (c 12 (c 13 (.late 14 (e 15 [13] [] (e 16 [] [] (d)))))))))))))))))), (3, c 0 (c 1 (c 2 (c 3 (c 4 (c 5 (c 6 (c 7 (c 8 (c 9 (c 10 (c 11 (c 12 (e 13 [] [] (d))))))))))))))), (6, c 0 (c 1 (c 2 (c 3 (c 4 (c 5 (c 6 (c 7 (c 8 (c 9 (e 10 [] [] (d)))))))))))), (7, c 0 (c 1 (c 2 (c 3 (c 4 (c 6 (c 7 (c 8 (c 9 (c 10 (e 5 [6, 7, 8, 9, 10] [] (c 12 (e 11 [12] [] (e 13 [] [] (c 14 (e 15 [] [] (d))))))))))))))))), (9, c 0 (c 1 (c 2 (c 3 (c 4 (c 5 (c 6 (c 7 (c 8 (c 9 (e 10 [] [] (d))))))))))))]),
  some (Tryz.f259, [(1, c 0 (c 1 (c 3 (c 5 (c 6 (c 7 (c 8 (c 9 (c 11 (c 12 (c 13 (c 14 (c 15 (c 16 (e 2 [0, 3, 5, 6, 7, 8, 9, 11, 12, 13, 14, 15, 16] [] (e 4 [0, 5, 6, 7, 8, 9, 11, 12, 13, 14, 15, 16] [] (e 10 [0, 11, 12, 13, 14, 15, 16] [] (e 17 [0] [] (c 18 (e 19 [] [] (d)))))))))))))))))))))]),
  some (Tryz.f260, [(4, c 0 (c 1 (c 2 (c 3 (c 4 (c 5 (c 7 (c 8 (c 9 (c 10 (e 6 [0, 7, 8, 9, 10] [] (c 11 (e 12 [] [] (d)))))))))))))), (7, c 0 (c 1 (c 2 (c 3 (c 4 (c 5 (e 6 [0, 1, 2, 3, 4] [] (c 7 (e 8 [] [] (d)))))))))), (10, c 0 (c 1 (c 2 (c 3 (c 4 (c 5 (e 6 [0, 1, 2, 3, 4] [] (c 7 (e 8 [] [] (d)))))))))), (12, c 0 (c 1 (c 2 (c 3 (c 4 (c 5 (c 7 (c 8 (c 9 (c 10 (e 6 [0, 7, 8, 9, 10] [] (c 11 (e 12 [] [] (d)))))))))))))), (1, c 0 (c 1 (c 2 (c 3 (c 4 (c 5 (e 6 [0, 1, 2, 3, 4] [] (c 7 (e 8 [] [] (d))))))))))]),
  some (Tryz.f261, [(7, c 0 (c 1 (c 2 (c 3 (c 4 (c 5 (c 6 (c 7 (c 8 (c 9 (c 10 (c 12 (c 14 (c 15 (c 16 (c 17 (e 11 [0, 1, 2, 3, 4, 12, 14, 15, 16, 17] [] (e 13 [0, 1, 2, 3, 4, 14, 15, 16, 17] [] (c 18 (e 19 [] [] (d))))))))))))))))))))), (0, c 0 (c 1 (c 2 (c 3 (c 4 (c 5 (c 7 (c 9 (c 10 (c 11 (c 12 (e 6 [0, 1, 2, 3, 4, 7, 9, 10, 11, 12] [] (e 8 [0, 1, 2, 3, 4, 9, 10, 11, 12] [] (c 13 (e 14 [] [] (d))))))))))))))))]),
  some (Tryz.f262, []),
  some (Tryz.f263, [(3, c 0 (c 1 (c 2 (c 4 (c 6 (c 7 (c 8 (c 9 (c 10 (e 3 [0, 1, 4, 6, 7, 8, 9, 10] [] (e 5 [0, 1, 6, 7, 8, 9, 10] [] (e 11 [0, 1] [] (c 12 (e 13 [] [] (d)))))))))))))))]),
  some (Tryz.f264, []),
  some (Tryz.f265, []),
  some (Tryz.f266, []),
  some (Tryz.f267, [(1, c 0 (c 1 (c 2 (c 3 (c 4 (c 5 (c 6 (c 7 (c 8 (c 9 (c 10 (c 11 (c 12 (c 13 (c 14 (c 15 (c 16 (c 17 (c 18 (c 19 (c 20 (c 21 (c 22 (c 23 (c 24 (c 25 (c 26 (c 27 (c 28 (c 29 (c 30 (c 31 (c 32 (e 33 [] [] (c 34 (e 35 [] [] (d))))))))))))))))))))))))))))))))))))), (2, c 0 (c 1 (c 2 (c 3 (c 4 (c 5 (c 6 (c 7 (c 8 (c 9 (c 10 (c 11 (c 12 (c 13 (c 14 (c 15 (c 16 (c 17 (c 18 (c 19 (c 20 (c 21 (c 22 (c 23 (c 24 (c 25 (e 26 [] [] (e 27 [] [] (d))))))))))))))))))))))))))))), (3, c 0 (c 1 (c 2 (c 3 (c 4 (c 5 (c 6 (c 7 (c 8 (c 9 (c 10 (c 11 (c 12 (c 13 (c 14 (c 15 (c 16 (c 17 (c 18 (c 19 (c 20 (c 21 (c 22 (c 23 (c 24 (c 25 (c 26 (e 27 [] [] (d))))))))))))))))))))))))))))), (4, c 0 (c 1 (c 2 (c 3 (c 4 (c 5 (c 6 (c 7 (c 8 (c 9 (e 10 [] [] (c 11 (c 12 (e 13 [] [] (e 14 [] [] (d)))))))))))))))), (5, c 0 (c 1 (c 2 (c 3 (c 4 (c 5 (c 6 (c 7 (c 8 (c 9 (c 10 (c 11 (c 12 (c 13 (c 14 (c 15 (c 16 (c 17 (c 18 (c 19 (c 20 (c 21 (c 22 (c 23 (c 24 (c 25 (c 26 (e 27 [] [] (d))))))))))))))))))))))))))))), (6, c 0 (c 1 (c 2 (c 3 (c 4 (c 5 (c 6 (c 7 (c 8 (c 9 (e 10 [] [] (c 11 (c 12 (e 13 [] [] (e 14 [] [] (d))))))))))))))))]),
  some (Tryz.f268, [(8, c 0 (c 1 (c 2 (c 3 (c 4 (c 5 (c 6 (c 7 (d))))))))), (12, c 0 (c 1 (c 2 (c 3 (c 4 (c 5 (c 6 (c 7 (e 8 [] [] (d))))))))))]),
  some (Tryz.f269, [(1, c 0 (c 1 (c 2 (c 3 (c 4 (c 5 (c 6 (c 7 (c 8 (c 9 (c 10 (c 11 (c 12 (c 13 (c 14 (c 15 (c 16 (c 17 (c 18 (c 19 (c 20 (c 21 (c 22 (d)))))))))))))))))))))))), (4, c 0 (c 1 (c 2 (c 3 (c 4 (c 5 (c 6 (c 7 (e 8 [] [] (d)))))))))), (7, c 0 (c 1 (c 2 (c 3 (c 4 (c 5 (c 6 (c 7 (c 8 (c 9 (e 10 [5, 6, 7, 8] [] (c 11 (e 12 [] [] (d)))))))))))))), (9, c 0 (c 1 (c 2 (c 3 (c 4 (c 5 (c 6 (c 7 (c 8 (c 9 (c 10 (c 11 (c 12 (c 13 (c 14 (c 15 (c 16 (c 17 (c 18 (e 19 [6, 7, 8, 9, 10, 11, 12, 13, 14, 15, 16, 17] [] (c 20 (e 21 [10, 11, 12, 13, 14, 15, 16, 17] [] (c 22 (e 23 [14, 15, 16, 17] [] (c 24 (e 25 [] [] (d)))))))))))))))))))))))))))]),
  some (Tryz.f270, []),
  some (Tryz.f271, [(0, c 0 (c 1 (c 2 (c 3 (c 4 (c 5 (c 6 (c 7 (c 8 (c 9 (c 10 (c 11 (c 12 (e 13 [] [] (d))))))))))))))), (3, c 0 (c 1 (c 2 (c 3 (c 4 (c 5 (e 6 [] [] (d)))))))), (4, c 0 (c 1 (c 2 (c 3 (c 4 (c 5 (e 6 [0, 1, 2, 3, 4] [] (e 7 [0] [] (c 8 (c 9 (e 10 [] [] (d))))))))))))])]
theorem known16 : KnownR Tryz.prog 256 row16 := ⟨⟨Tryz.func256, rfl, Tryz.call256⟩, ⟨⟨Tryz.func257, rfl, Tryz.call257⟩, ⟨⟨Tryz.func258, rfl, Tryz.call258⟩, ⟨⟨Tryz.func259, rfl, Tryz.call259⟩, ⟨⟨Tryz.func260, rfl, Tryz.call260⟩, ⟨⟨Tryz.func261, rfl, Tryz.call261⟩, ⟨⟨Tryz.func262, rfl, Tryz.call262⟩, ⟨⟨Tryz.func263, rfl, Tryz.call263⟩, ⟨⟨Tryz.func264, rfl, Tryz.call264⟩, ⟨⟨Tryz.func265, rfl, Tryz.call265⟩, ⟨⟨Tryz.func266, rfl, Tryz.call266⟩, ⟨⟨Tryz.func267, rfl, Tryz.call267⟩, ⟨⟨Tryz.func268, rfl, Tryz.call268⟩, ⟨⟨Tryz.func269, rfl, Tryz.call269⟩, ⟨⟨Tryz.func270, rfl, Tryz.call270⟩, ⟨⟨Tryz.func271, rfl, Tryz.call271⟩, trivial⟩⟩⟩⟩⟩⟩⟩⟩⟩⟩⟩⟩⟩⟩⟩⟩
theorem fine16 : plRow Tryz.prog row16 = true := by kernel_rfl
noncomputable def row17 : List FnE := [some (Tryz.f272, [(1, c 0 (c 1 (c 2 (c 3 (c 4 (c 5 (c 6 (c 7 (c 8 (c 9 (c 10 (c 11 (c 12 (c 13 (c 14 (c 15 (c 16 (c 17 (c 19 (e 18 [0, 1, 19] [] (e 20 [0, 1] [] (c 21 (e 22 [] [] (d))))))))))))))))))))))))]),
  some (Tryz.f273, [(7, c 0 (c 1 (c 2 (c 3 (c 4 (c 5 (c 6 (c 7 (c 8 (c 9 (c 10 (c 11 (c 12 (c 13 (e 14 [] [] (d))))))))))))))))]),
  some (Tryz.f274, []),
  some (Tryz.f275, []),
  some (Tryz.f276, []),
  some (Tryz.f277, []),
  some (Tryz.f278, [(2, c 0 (c 1 (c 2 (c 3 (c 4 (c 5 (c 6 (c 7 (c 8 (c 9 (c 10 (c 11 (c 12 (c 13 (c 14 (c 15 (c 16 (e 17 [15, 16] [] (e 18 [] [] (d))))))))))))))))))))]),
  some (Tryz.f279, [(14, c 0 (c 1 (c 2 (c 3 (c 4 (c 5 (e 6 [] [] (e 7 [] [] (d))))))))), (18, c 0 (c 1 (c 2 (c 3 (c 4 (c 5 (c 6 (c 7 (c 8 (e 9 [] [] (e 10 [] [] (d))))))))))))]),
  some (Tryz.f280, []),
  some (Tryz.f281, [(1, c 0 (c 1 (c 2 (c 3 (c 4 (c 5 (c 6 (c 7 (c 8 (c 9 (c 10 (c 11 (c 12 (e 13 [] [] (d))))))))))))))), (2, c 0 (c 1 (c 2 (c 3 (c 4 (c 5 (c 6 (c 7 (c 8 (c 9 (c 10 (c 11 (c 12 (c 13 (c 14 (c 15 (c 16 (c 17 (c 18 (c 19 (c 20 (c 21 (c 22 (c 23 (e 24 [] [] (d))))))))))))))))))))))))))]),
  some (Tryz.f282, []),
  some (Tryz.f283, []),
  some (Tryz.f284, []),
  some (Tryz.f285, []),
  some (Tryz.f286, []),
  some (Tryz.f287, [])]
theorem known17 : KnownR Tryz.prog 272 row17 := ⟨⟨Tryz.func272, rfl, Tryz.call272⟩, ⟨⟨Tryz.func273, rfl, Tryz.call273⟩, ⟨⟨Tryz.func274, rfl, Tryz.call274⟩, ⟨⟨Tryz.func275, rfl, Tryz.call275⟩, ⟨⟨Tryz.func276, rfl, Tryz.call276⟩, ⟨⟨Tryz.func277, rfl, Tryz.call277⟩, ⟨⟨Tryz.func278, rfl, Tryz.call278⟩, ⟨⟨Tryz.func279, rfl, Tryz.call279⟩, ⟨⟨Tryz.func280, rfl, Tryz.call280⟩, ⟨⟨Tryz.func281, rfl, Tryz.call281⟩, ⟨⟨Tryz.func282, rfl, Tryz.call282⟩, ⟨⟨Tryz.func283, rfl, Tryz.call283⟩, ⟨⟨Tryz.func284, rfl, Tryz.call284⟩, ⟨⟨Tryz.func285, rfl, Tryz.call285⟩, ⟨⟨Tryz.func286, rfl, Tryz.call286⟩, ⟨⟨Tryz.func287, rfl, Tryz.call287⟩, trivial⟩⟩⟩⟩⟩⟩⟩⟩⟩⟩⟩⟩⟩⟩⟩⟩
theorem fine17 : plRow Tryz.prog row17 = true := by kernel_rfl
noncomputable def row18 : List FnE := [some (Tryz.f288, []),
  some (Tryz.f289, []),
  some (Tryz.f290, []),
  some (Tryz.f291, []),
  some (Tryz.f292, []),
  some (Tryz.f293, []),
  some (Tryz.f294, []),
  some (Tryz.f295, []),
  some (Tryz.f296, []),
  some (Tryz.f297, []),
  some (Tryz.f298, []),
  some (Tryz.f299, []),
  some (Tryz.f300, []),
  some (Tryz.f301, []),
  some (Tryz.f302, []),
  some (Tryz.f303, [])]
theorem known18 : KnownR Tryz.prog 288 row18 := ⟨⟨Tryz.func288, rfl, Tryz.call288⟩, ⟨⟨Tryz.func289, rfl, Tryz.call289⟩, ⟨⟨Tryz.func290, rfl, Tryz.call290⟩, ⟨⟨Tryz.func291, rfl, Tryz.call291⟩, ⟨⟨Tryz.func292, rfl, Tryz.call292⟩, ⟨⟨Tryz.func293, rfl, Tryz.call293⟩, ⟨⟨Tryz.func294, rfl, Tryz.call294⟩, ⟨⟨Tryz.func295, rfl, Tryz.call295⟩, ⟨⟨Tryz.func296, rfl, Tryz.call296⟩, ⟨⟨Tryz.func297, rfl, Tryz.call297⟩, ⟨⟨Tryz.func298, rfl, Tryz.call298⟩, ⟨⟨Tryz.func299, rfl, Tryz.call299⟩, ⟨⟨Tryz.func300, rfl, Tryz.call300⟩, ⟨⟨Tryz.func301, rfl, Tryz.call301⟩, ⟨⟨Tryz.func302, rfl, Tryz.call302⟩, ⟨⟨Tryz.func303, rfl, Tryz.call303⟩, trivial⟩⟩⟩⟩⟩⟩⟩⟩⟩⟩⟩⟩⟩⟩⟩⟩
theorem fine18 : plRow Tryz.prog row18 = true := by kernel_rfl
noncomputable def row19 : List FnE := [some (Tryz.f304, []),
  some (Tryz.f305, []),
  some (Tryz.f306, []),
  some (Tryz.f307, []),
  none,
  some (Tryz.f309, []),
  some (Tryz.f310, []),
  some (Tryz.f311, []),
  some (Tryz.f312, []),
  some (Tryz.f313, []),
  some (Tryz.f314, []),
  some (Tryz.f315, []),
  some (Tryz.f316, []),
  some (Tryz.f317, []),
  some (Tryz.f318, []),
  some (Tryz.f319, [])]
theorem known19 : KnownR Tryz.prog 304 row19 := ⟨⟨Tryz.func304, rfl, Tryz.call304⟩, ⟨⟨Tryz.func305, rfl, Tryz.call305⟩, ⟨⟨Tryz.func306, rfl, Tryz.call306⟩, ⟨⟨Tryz.func307, rfl, Tryz.call307⟩, ⟨⟨Tryz.func309, rfl, Tryz.call309⟩, ⟨⟨Tryz.func310, rfl, Tryz.call310⟩, ⟨⟨Tryz.func311, rfl, Tryz.call311⟩, ⟨⟨Tryz.func312, rfl, Tryz.call312⟩, ⟨⟨Tryz.func313, rfl, Tryz.call313⟩, ⟨⟨Tryz.func314, rfl, Tryz.call314⟩, ⟨⟨Tryz.func315, rfl, Tryz.call315⟩, ⟨⟨Tryz.func316, rfl, Tryz.call316⟩, ⟨⟨Tryz.func317, rfl, Tryz.call317⟩, ⟨⟨Tryz.func318, rfl, Tryz.call318⟩, ⟨⟨Tryz.func319, rfl, Tryz.call319⟩, trivial⟩⟩⟩⟩⟩⟩⟩⟩⟩⟩⟩⟩⟩⟩⟩
theorem fine19 : plRow Tryz.prog row19 = true := by kernel_rfl
noncomputable def row20 : List FnE := [some (Tryz.f320, []),
  some (Tryz.f321, []),
  some (Tryz.f322, []),
  some (Tryz.f323, []),
  some (Tryz.f324, []),
  some (Tryz.f325, []),
  some (Tryz.f326, []),
  some (Tryz.f327, []),
  some (Tryz.f328, []),
  some (Tryz.f329, []),
  none,
  none,
  none,
  some (Tryz.f333, []),
  none,
  some (Tryz.f335, [])]
theorem known20 : KnownR Tryz.prog 320 row20 := ⟨⟨Tryz.func320, rfl, Tryz.call320⟩, ⟨⟨Tryz.func321, rfl, Tryz.call321⟩, ⟨⟨Tryz.func322, rfl, Tryz.call322⟩, ⟨⟨Tryz.func323, rfl, Tryz.call323⟩, ⟨⟨Tryz.func324, rfl, Tryz.call324⟩, ⟨⟨Tryz.func325, rfl, Tryz.call325⟩, ⟨⟨Tryz.func326, rfl, Tryz.call326⟩, ⟨⟨Tryz.func327, rfl, Tryz.call327⟩, ⟨⟨Tryz.func328, rfl, Tryz.call328⟩, ⟨⟨Tryz.func329, rfl, Tryz.call329⟩, ⟨⟨Tryz.func333, rfl, Tryz.call333⟩, ⟨⟨Tryz.func335, rfl, Tryz.call335⟩, trivial⟩⟩⟩⟩⟩⟩⟩⟩⟩⟩⟩⟩
theorem fine20 : plRow Tryz.prog row20 = true := by kernel_rfl
noncomputable def row21 : List FnE := [none,
  some (Tryz.f337, []),
  none,
  none,
  none,
  some (Tryz.f341, []),
  some (Tryz.f342, []),
  some (Tryz.f343, []),
  some (Tryz.f344, [(3, c 0 (c 1 (c 2 (c 3 (c 4 (c 5 (c 6 (c 7 (c 8 (c 9 (c 10 (c 11 (e 12 [6, 7, 8, 9, 10, 11] [] (e 13 [] [] (e 14 [] [] (d))))))))))))))))]),
  some (Tryz.f345, []),
  some (Tryz.f346, []),
  some (Tryz.f347, []),
  some (Tryz.f348, []),
  some (Tryz.f349, []),
  some (Tryz.f350, []),
  some (Tryz.f351, [])]
theorem known21 : KnownR Tryz.prog 336 row21 := ⟨⟨Tryz.func337, rfl, Tryz.call337⟩, ⟨⟨Tryz.func341, rfl, Tryz.call341⟩, ⟨⟨Tryz.func342, rfl, Tryz.call342⟩, ⟨⟨Tryz.func343, rfl, Tryz.call343⟩, ⟨⟨Tryz.func344, rfl, Tryz.call344⟩, ⟨⟨Tryz.func345, rfl, Tryz.call345⟩, ⟨⟨Tryz.func346, rfl, Tryz.call346⟩, ⟨⟨Tryz.func347, rfl, Tryz.call347⟩, ⟨⟨Tryz.func348, rfl, Tryz.call348⟩, ⟨⟨Tryz.func349, rfl, Tryz.call349⟩, ⟨⟨Tryz.func350, rfl, Tryz.call350⟩, ⟨⟨Tryz.func351, rfl, Tryz.call351⟩, trivial⟩⟩⟩⟩⟩⟩⟩⟩⟩⟩⟩⟩
theorem fine21 : plRow Tryz.prog row21 = true := by kernel_rfl
noncomputable def row22 : List FnE := [some (Tryz.f352, []),
  some (Tryz.f353, []),
  some (Tryz.f354, []),
  some (Tryz.f355, []),
  some (Tryz.f356, []),
  some (Tryz.f357, []),
  some (Tryz.f358, []),
  some (Tryz.f359, []),
  some (Tryz.f360, []),
  some (Tryz.f361, []),
  some (Tryz.f362, []),
  some (Tryz.f363, []),
  none,
  some (Tryz.f365, []),
  none,
  some (Tryz.f367, [])]
theorem known22 : KnownR Tryz.prog 352 row22 := ⟨⟨Tryz.func352, rfl, Tryz.call352⟩, ⟨⟨Tryz.func353, rfl, Tryz.call353⟩, ⟨⟨Tryz.func354, rfl, Tryz.call354⟩, ⟨⟨Tryz.func355, rfl, Tryz.call355⟩, ⟨⟨Tryz.func356, rfl, Tryz.call356⟩, ⟨⟨Tryz.func357, rfl, Tryz.call357⟩, ⟨⟨Tryz.func358, rfl, Tryz.call358⟩, ⟨⟨Tryz.func359, rfl, Tryz.call359⟩, ⟨⟨Tryz.func360, rfl, Tryz.call360⟩, ⟨⟨Tryz.func361, rfl, Tryz.call361⟩, ⟨⟨Tryz.func362, rfl, Tryz.call362⟩, ⟨⟨Tryz.func363, rfl, Tryz.call363⟩, ⟨⟨Tryz.func365, rfl, Tryz.call365⟩, ⟨⟨Tryz.func367, rfl, Tryz.call367⟩, trivial⟩⟩⟩⟩⟩⟩⟩⟩⟩⟩⟩⟩⟩⟩
theorem fine22 : plRow Tryz.prog row22 = true := by kernel_rfl
noncomputable def row23 : List FnE := [some (Tryz.f368, []),
  some (Tryz.f369, []),
  some (Tryz.f370, []),
  none,
  none,
  none,
  none,
  none,
  none,
  none,
  none,
  none,
  none,
  none,
  none,
  none]
theorem known23 : KnownR Tryz.prog 368 row23 := ⟨⟨Tryz.func368, rfl, Tryz.call368⟩, ⟨⟨Tryz.func369, rfl, Tryz.call369⟩, ⟨⟨Tryz.func370, rfl, Tryz.call370⟩, trivial⟩⟩⟩
theorem fine23 : plRow Tryz.prog row23 = true := by kernel_rfl
noncomputable def row24 : List FnE := [none,
  none,
  none,
  none,
  none,
  some (Tryz.f389, []),
  some (Tryz.f390, [(15, c 0 (c 1 (c 2 (c 3 (c 4 (c 5 (c 6 (e 7 [0] [] (c 8 (c 9 (c 10 (e 11 [] [] (d))))))))))))), (16, c 0 (c 1 (c 2 (c 3 (c 4 (c 5 (c 6 (c 7 (e 8 [4, 5, 6, 7] [] (e 9 [] [] (e 10 [] [] (d))))))))))))]),
  some (Tryz.f391, []),
  some (Tryz.f392, []),
  some (Tryz.f393, [(5, c 0 (c 1 (c 2 (c 3 (c 4 (c 5 (c 6 (c 7 (c 8 (c 9 (d))))))))))), (8, c 0 (c 1 (c 2 (c 3 (c 5 (c 6 (c 7 (c 8 (c 9 (e 4 [5, 6, 7, 8, 9] [] (e 10 [] [] (e 11 [] [] (d))))))))))))), (9, c 0 (c 1 (c 2 (c 3 (c 4 (c 5 (c 6 (c 7 (c 8 (c 9 (c 10 (c 11 (c 12 (c 13 (c 14 (c 15 (c 16 (c 17 (c 18 (c 19 (e 20 [0, 1, 2, 3, 4, 5, 6] [] (c 21 (e 22 [0, 1, 2, 3, 4] [] (e 23 [0, 1, 2, 3, 4] [] (e 24 [0] [] (c 25 (c 26 (e 27 [] [] (d)))))))))))))))))))))))))))))]),
  some (Tryz.f394, [(1, c 0 (c 1 (c 2 (c 3 (c 4 (c 5 (c 6 (c 7 (c 8 (c 9 (c 10 (c 11 (e 12 [] [] (d)))))))))))))), (3, c 0 (c 1 (c 2 (c 3 (c 4 (c 5 (c 6 (c 7 (c 8 (c 9 (c 10 (e 11 [] [] (d))))))))))))), (4, c 0 (c 1 (c 2 (c 3 (c 4 (c 5 (c 6 (c 7 (c 8 (c 9 (d))))))))))), (5, c 0 (c 1 (c 2 (c 3 (c 4 (c 5 (c 6 (c 7 (c 8 (c 9 (c 10 (c 11 (c 12 (c 13 (e 14 [] [] (d)))))))))))))))), (6, c 0 (c 1 (c 2 (c 3 (c 4 (c 5 (c 6 (c 7 (c 8 (e 9 [] [] (d))))))))))), (13, c 0 (c 1 (c 2 (c 3 (c 4 (c 5 (c 6 (c 7 (c 8 (c 9 (c 10 (c 11 (c 12 (c 13 (e 14 [] [] (d))))))))))))))))]),
  some (Tryz.f395, []),
  some (Tryz.f396, []),
  some (Tryz.f397, [(1, c 0 (c 1 (c 2 (c 3 (c 5 (c 6 (c 7 (c 8 (c 9 (c 10 (c 11 (c 12 (e 4 [5, 6, 7, 8, 9, 10, 11, 12] [] (e 13 [5, 6, 7, 8] [] (e 14 [5, 6] [] (e 15 [] [] (c 16 (c 17 (c 18 (e 19 [18] [] (e 20 [] [] (d))))))))))))))))))))))]),
  some (Tryz.f398, []),
  some (Tryz.f399, [])]
theorem known24 : KnownR Tryz.prog 384 row24 := ⟨⟨Tryz.func389, rfl, Tryz.call389⟩, ⟨⟨Tryz.func390, rfl, Tryz.call390⟩, ⟨⟨Tryz.func391, rfl, Tryz.call391⟩, ⟨⟨Tryz.func392, rfl, Tryz.call392⟩, ⟨⟨Tryz.func393, rfl, Tryz.call393⟩, ⟨⟨Tryz.func394, rfl, Tryz.call394⟩, ⟨⟨Tryz.func395, rfl, Tryz.call395⟩, ⟨⟨Tryz.func396, rfl, Tryz.call396⟩, ⟨⟨Tryz.func397, rfl, Tryz.call397⟩, ⟨⟨Tryz.func398, rfl, Tryz.call398⟩, ⟨⟨Tryz.func399, rfl, Tryz.call399⟩, trivial⟩⟩⟩⟩⟩⟩⟩⟩⟩⟩⟩
theorem fine24 : plRow Tryz.prog row24 = true := by kernel_rfl
noncomputable def row25 : List FnE := [some (Tryz.f400, []),
  some (Tryz.f401, [(5, c 0 (c 1 (c 2 (c 3 (c 4 (c 5 (c 6 (e 7 [0, 1, 2, 3, 4, 5] [] (c 8 (e 9 [0, 1, 2, 3, 4] [] (e 10 [0] [] (c 11 (c 12 (e 13 [] [] (d)))))))))))))))]),
  some (Tryz.f402, [(0, c 0 (c 1 (c 2 (c 3 (c 4 (c 5 (c 6 (c 7 (c 8 (c 9 (c 10 (c 11 (c 12 (c 13 (c 14 (.late 15 (e 16 [] [] (d)))))))))))))))))), (7, c 0 (c 1 (c 2 (c 3 (c 4 (c 5 (e 6 [0, 1, 2, 3, 4] [] (e 7 [0] [] (c 8 (c 9 (e 10 [] [] (d))))))))))))]),
  some (Tryz.f403, [(9, c 0 (c 1 (c 2 (c 3 (c 4 (c 5 (c 6 (c 8 (e 7 [0, 1, 2, 3, 4, 5, 8] [] (e 9 [0, 1, 2, 3, 4, 5] [] (c 10 (c 11 (e 12 [] [] (d))))))))))))))]),
  some (Tryz.f404, [(8, c 0 (c 1 (c 2 (c 3 (c 4 (c 5 (c 6 (c 7 (c 8 (c 9 (c 10 (c 11 (c 12 (c 13 (e 14 [] [] (c 15 (d)))))))))))))))))]),
  some (Tryz.f405, [(1, c 0 (c 1 (c 2 (c 3 (c 4 (c 5 (c 6 (c 7 (c 8 (c 9 (c 10 (c 11 (e 12 [] [] (d)))))))))))))), (2, c 0 (c 1 (c 2 (c 3 (c 4 (c 5 (c 6 (c 7 (c 8 (c 9 (c 10 (c 11 (c 12 (c 13 (e 14 [] [] (d))))))))))))))))]),
  some (Tryz.f406, []),
  some (Tryz.f407, [(4, c 0 (c 1 (c 2 (c 3 (c 4 (c 5 (c 6 (c 7 (c 8 (c 9 (c 10 (e 11 [0] [] (e 12 [] [] (d)))))))))))))), (6, c 0 (c 1 (c 2 (c 3 (c 4 (c 5 (c 6 (c 7 (c 8 (e 9 [0, 1, 2, 3, 4, 5, 6, 7] [] (c 10 (e 11 [] [] (d))))))))))))), (8, c 0 (c 1 (c 2 (c 3 (c 4 (c 5 (c 6 (c 7 (c 8 (c 9 (c 10 (c 11 (c 12 (c 13 (c 14 (c 15 (c 16 (c 17 (c 18 (c 19 (c 20 (e 21 [] [] (d))))))))))))))))))))))), (10, c 0 (c 1 (c 2 (c 3 (c 5 (c 6 (c 7 (c 8 (e 4 [5, 6, 7, 8] [] (e 9 [] [] (c 10 (c 11 (c 12 (.late 13 (e 14 [12] [] (e 15 [] [] (d))))))))))))))))), (1, c 0 (c 1 (c 2 (c 3 (c 5 (c 6 (c 7 (c 8 (e 4 [5, 6, 7, 8] [] (e 9 [] [] (c 10 (c 11 (c 12 (.late 13 (e 14 [12] [] (e 15 [] [] (d))))))))))))))))), (2, c 0 (c 1 (c 2 (c 3 (c 5 (c 6 (c 7 (c 8 (c 9 (c 10 (c 11 (e 4 [5, 6, 7, 8, 9, 10, 11] [] (e 12 [5, 6, 7, 8, 9, 10] [] (c 13 (e 14 [] [] (d))))))))))))))))]),
  some (Tryz.f408, [(12, c 0 (c 1 (c 2 (c 3 (c 4 (c 5 (c 7 (c 8 (c 9 (c 10 (c 11 (e 6 [0, 1, 2, 3, 4, 7, 8, 9, 10, 11] [] (e 12 [] [] (e 13 [] [] (d))))))))))))))), (4, c 0 (c 1 (c 2 (c 3 (c 4 (c 5 (c 7 (c 8 (c 9 (c 10 (e 6 [0, 1, 2, 3, 4, 7, 8, 9, 10] [] (e 11 [] [] (c 12 (c 13 (c 14 (e 15 [14] [] (e 16 [] [] (d))))))))))))))))))]),
  some (Tryz.f409, []),
  some (Tryz.f410, []),
  some (Tryz.f411, []),
  some (Tryz.f412, [(2, c 0 (c 1 (c 2 (c 3 (c 4 (c 5 (c 6 (c 7 (c 8 (e 9 [] [] (d)))))))))))]),
  some (Tryz.f413, []),
  some (Tryz.f414, []),
  some (Tryz.f415, [])]
theorem known25 : KnownR Tryz.prog 400 row25 := ⟨⟨Tryz.func400, rfl, Tryz.call400⟩, ⟨⟨Tryz.func401, rfl, Tryz.call401⟩, ⟨⟨Tryz.func402, rfl, Tryz.call402⟩, ⟨⟨Tryz.func403, rfl, Tryz.call403⟩, ⟨⟨Tryz.func404, rfl, Tryz.call404⟩, ⟨⟨Tryz.func405, rfl, Tryz.call405⟩, ⟨⟨Tryz.func406, rfl, Tryz.call406⟩, ⟨⟨Tryz.func407, rfl, Tryz.call407⟩, ⟨⟨Tryz.func408, rfl, Tryz.call408⟩, ⟨⟨Tryz.func409, rfl, Tryz.call409⟩, ⟨⟨Tryz.func410, rfl, Tryz.call410⟩, ⟨⟨Tryz.func411, rfl, Tryz.call411⟩, ⟨⟨Tryz.func412, rfl, Tryz.call412⟩, ⟨⟨Tryz.func413, rfl, Tryz.call413⟩, ⟨⟨Tryz.func414, rfl, Tryz.call414⟩, ⟨⟨Tryz.func415, rfl, Tryz.call415⟩, trivial⟩⟩⟩⟩⟩⟩⟩⟩⟩⟩⟩⟩⟩⟩⟩⟩
theorem fine25 : plRow Tryz.prog row25 = true := by kernel_rfl
noncomputable def row26 : List FnE := [some (Tryz.f416, [(3, c 0 (c 1 (c 2 (c 3 (c 4 (c 5 (c 6 (c 7 (c 8 (c 9 (c 10 (c 11 (c 12 (e 13 [] [] (c 14 (c 15 (c 16 (c 17 (c 18 (c 19 (c 20 (c 21 (c 22 (c 23 (c 24 (c 25 (c 26 (c 27 (c 28 (c 29 (e 30 [] [] (d)))))))))))))))))))))))))))))))), (7, c 0 (c 1 (c 2 (c 3 (c 4 (c 5 (c 6 (c 7 (e 8 [] [] (d))))))))))]),
  some (Tryz.f417, []),
  some (Tryz.f418, []),
  some (Tryz.f419, []),
  some (Tryz.f420, []),
  some (Tryz.f421, []),
  some (Tryz.f422, [(1, c 0 (c 1 (c 2 (c 3 (c 4 (c 5 (c 6 (c 7 (c 8 (c 9 (c 10 (c 11 (c 12 (e 13 [0] [] (c 14 (c 15 (e 16 [] [] (d))))))))))))))))))]),
  some (Tryz.f423, []),
  none,
  some (Tryz.f425, []),
  some (Tryz.f426, [(4, c 0 (c 1 (c 2 (c 3 (c 4 (c 5 (c 6 (c 7 (e 8 [3, 4, 5, 6] [] (c 9 (c 10 (d)))))))))))), (11, c 0 (c 1 (c 2 (c 3 (c 4 (c 5 (c 6 (c 7 (e 8 [] [] (d)))))))))), (16, c 0 (c 1 (c 2 (c 3 (c 4 (c 5 (c 6 (e 7 [0] [] (c 8 (c 9 (c 10 (e 11 [] [] (d))))))))))))), (17, c 0 (c 1 (c 2 (c 3 (c 4 (c 5 (c 6 (c 7 (e 8 [4, 5, 6, 7] [] (e 9 [] [] (e 10 [] [] (d))))))))))))]),
  some (Tryz.f427, []),
  some (Tryz.f428, [(1, c 0 (c 1 (c 2 (c 3 (c 4 (c 5 (c 6 (c 7 (c 8 (c 9 (c 10 (c 11 (e 12 [0] [] (c 13 (c 14 (e 15 [] [] (d)))))))))))))))))]),
  some (Tryz.f429, [(4, c 0 (c 1 (c 2 (c 3 (c 4 (c 5 (c 6 (c 7 (c 8 (c 9 (d))))))))))), (6, c 0 (c 1 (c 2 (c 3 (c 4 (c 5 (c 6 (c 7 (c 8 (c 9 (c 10 (c 11 (c 12 (c 13 (c 14 (c 15 (c 16 (e 17 [] [] (d))))))))))))))))))), (11, c 0 (c 1 (c 2 (c 3 (c 4 (c 5 (c 6 (c 7 (c 8 (c 9 (c 10 (c 11 (c 12 (c 13 (c 14 (c 15 (c 16 (c 17 (c 18 (c 19 (e 20 [] [] (d)))))))))))))))))))))), (12, c 0 (c 1 (c 2 (c 3 (c 4 (c 5 (c 6 (c 7 (c 8 (c 9 (c 10 (c 11 (e 12 [] [] (d)))))))))))))), (13, c 0 (c 1 (c 2 (c 3 (c 4 (c 5 (c 6 (c 7 (c 8 (c 9 (c 10 (c 11 (c 12 (c 13 (c 14 (c 15 (c 16 (c 17 (e 18 [] [] (d)))))))))))))))))))), (14, c 0 (c 1 (c 2 (c 3 (c 4 (c 5 (c 6 (c 7 (c 8 (c 9 (c 10 (c 11 (c 12 (c 13 (c 14 (c 15 (c 16 (c 17 (c 18 (c 19 (c 20 (c 21 (e 22 [] [] (d))))))))))))))))))))))))]),
  some (Tryz.f430, [(1, c 0 (c 1 (c 2 (c 3 (c 4 (c 5 (c 6 (c 7 (c 8 (c 9 (c 10 (e 11 [] [] (d))))))))))))), (2, c 0 (c 1 (c 2 (c 3 (c 4 (c 5 (c 6 (c 7 (c 8 (c 9 (c 10 (c 11 (c 12 (c 13 (c 14 (c 15 (c 16 (c 17 (c 18 (c 19 (c 20 (c 21 (c 22 (c 23 (c 24 (c 25 (c 26 (c 27 (c 28 (e 29 [] [] (d))))))))))))))))))))))))))))))), (3, c 0 (c 1 (c 2 (c 3 (c 4 (c 5 (c 6 (c 7 (c 8 (c 9 (c 10 (c 11 (e 12 [] [] (d)))))))))))))), (5, c 0 (c 1 (c 2 (c 3 (c 4 (c 5 (c 6 (c 7 (c 8 (d)))))))))), (8, c 0 (c 1 (c 2 (c 3 (c 4 (c 5 (c 6 (c 7 (c 8 (c 9 (c 10 (e 11 [] [] (d))))))))))))), (32, c 0 (c 1 (c 2 (c 3 (c 4 (c 5 (c 6 (c 7 (c 8 (c 9 (c 10 (c 11 (c 12 (c 13 (c 14 (c 15 (c 16 (c 17 (e 18 [0, 1, 2, 3, 4] [] (c 19 (c 20 (c 21 (c 22 (e 23 [] [] (d))))))))))))))))))))))))), (38, c 0 (c 1 (c 2 (c 3 (c 4 (c 5 (c 6 (c 7 (c 8 (c 9 (c 10 (c 11 (c 12 (c 13 (e 14 [] [] (e 15 [] [] (d)))))))))))))))))]),
  some (Tryz.f431, [(1, c 0 (c 1 (c 2 (c 3 (c 5 (c 6 (c 7 (c 8 (c 9 (c 10 (c 11 (c 12 (c 13 (c 14 (e 4 [5, 6, 7, 8, 9, 10, 11, 12, 13, 14] [] (e 15 [5, 6] [] (e 16 [] [] (c 17 (c 18 (c 19 (e 20 [19] [] (e 21 [] [] (d))))))))))))))))))))))), (10, c 0 (c 1 (c 2 (c 3 (c 4 (c 5 (c 6 (c 7 (e 8 [] [] (d))))))))))])]
theorem known26 : KnownR Tryz.prog 416 row26 := ⟨⟨Tryz.func416, rfl, Tryz.call416⟩, ⟨⟨Tryz.func417, rfl, Tryz.call417⟩, ⟨⟨Tryz.func418, rfl, Tryz.call418⟩, ⟨⟨Tryz.func419, rfl, Tryz.call419⟩, ⟨⟨Tryz.func420, rfl, Tryz.call420⟩, ⟨⟨Tryz.func421, rfl, Tryz.call421⟩, ⟨⟨Tryz.func422, rfl, Tryz.call422⟩, ⟨⟨Tryz.func423, rfl, Tryz.call423⟩, ⟨⟨Tryz.func425, rfl, Tryz.call425⟩, ⟨⟨Tryz.func426, rfl, Tryz.call426⟩, ⟨⟨Tryz.func427, rfl, Tryz.call427⟩, ⟨⟨Tryz.func428, rfl, Tryz.call428⟩, ⟨⟨Tryz.func429, rfl, Tryz.call429⟩, ⟨⟨Tryz.func430, rfl, Tryz.call430⟩, ⟨⟨Tryz.func431, rfl, Tryz.call431⟩, trivial⟩⟩⟩⟩⟩⟩⟩⟩⟩⟩⟩⟩⟩⟩⟩
theorem fine26 : plRow Tryz.prog row26 = true := by kernel_rfl
noncomputable def row27 : List FnE := [some (Tryz.f432, []),
  some (Tryz.f433, [(7, c 0 (c 1 (c 2 (c 3 (c 4 (c 5 (c 6 (c 7 (c 8 (c 9 (c 10 (c 11 (e 12 [] [] (c 13 (c 14 (c 15 (e 16 [15] [] (e 17 [] [] (d)))))))))))))))))))]),
  some (Tryz.f434, [(6, c 0 (c 1 (c 2 (c 3 (c 4 (c 5 (c 6 (c 7 (c 8 (c 9 (c 10 (c 11 (c 12 (c 13 (c 14 (c 15 (c 16 (c 17 (c 18 (c 19 (c 20 (e 21 [0, 1, 2, 3, 4] [] (c 22 (c 23 (c 24 (c 25 (e 26 [24] [] (e 27 [] [] (d))))))))))))))))))))))))))))), (8, c 0 (c 1 (c 2 (c 3 (c 4 (c 5 (c 6 (c 7 (c 8 (c 9 (c 10 (c 11 (c 12 (c 13 (c 14 (c 15 (c 16 (c 17 (c 18 (c 19 (c 20 (c 21 (c 22 (e 23 [] [] (e 24 [] [] (d)))))))))))))))))))))))))), (10, c 0 (c 1 (c 2 (c 3 (c 4 (c 5 (e 6 [0, 1, 2, 3, 4] [] (c 7 (e 8 [] [] (d)))))))))), (4, c 0 (c 1 (c 2 (c 3 (c 4 (c 5 (c 6 (c 7 (c 8 (c 9 (c 10 (c 11 (c 12 (e 13 [0, 1, 2, 3, 4] [] (c 14 (e 15 [] [] (d)))))))))))))))))]),
  some (Tryz.f435, [(8, c 0 (c 1 (c 2 (c 3 (c 4 (c 5 (c 6 (c 7 (c 8 (c 9 (c 10 (c 11 (c 12 (c 13 (c 14 (c 15 (c 16 (c 17 (e 18 [] [] (c 19 (c 20 (c 21 (e 22 [21] [] (e 23 [] [] (d)))))))))))))))))))))))))]),
  some (Tryz.f436, [(0, c 0 (c 1 (c 2 (c 3 (c 4 (c 5 (c 6 (c 7 (c 8 (c 9 (c 10 (c 11 (.late 12 (e 13 [] [] (d))))))))))))))), (1, c 0 (c 1 (c 2 (c 3 (c 4 (c 5 (c 6 (c 7 (c 8 (c 9 (c 10 (c 11 (c 12 (c 13 (e 14 [] [] (d)))))))))))))))), (3, c 0 (c 1 (c 2 (c 3 (c 4 (c 5 (c 6 (c 7 (c 8 (c 9 (c 10 (c 11 (c 12 (c 13 (e 14 [] [] (d))))))))))))))))]),
  some (Tryz.f437, [(1, c 0 (c 1 (c 2 (c 3 (c 5 (c 6 (c 7 (c 8 (c 9 (c 10 (c 11 (e 4 [5, 6, 7, 8, 9, 10, 11] [] (e 12 [] [] (c 13 (c 14 (c 15 (e 16 [15] [] (e 17 [] [] (d))))))))))))))))))), (8, c 0 (c 1 (c 2 (c 3 (c 4 (c 5 (c 6 (c 7 (c 8 (c 9 (c 10 (c 11 (c 12 (c 13 (e 14 [] [] (c 15 (d)))))))))))))))))]),
  some (Tryz.f438, [(2, c 0 (c 1 (c 2 (c 3 (c 4 (c 5 (c 6 (c 7 (c 8 (c 9 (e 10 [] [] (d)))))))))))), (4, c 0 (c 1 (c 2 (c 3 (c 4 (c 5 (c 6 (c 7 (c 8 (c 9 (c 10 (c 11 (c 12 (e 13 [] [] (d))))))))))))))), (6, c 0 (c 1 (c 2 (c 3 (c 5 (c 6 (c 7 (c 8 (e 4 [5, 6, 7, 8] [] (e 9 [] [] (c 10 (c 11 (c 12 (.late 13 (e 14 [12] [] (e 15 [] [] (d))))))))))))))))), (7, c 0 (c 1 (c 2 (c 3 (c 4 (c 5 (c 6 (c 7 (e 8 [] [] (d)))))))))), (9, c 0 (c 1 (c 2 (c 3 (c 5 (c 6 (c 7 (c 8 (e 4 [5, 6, 7, 8] [] (e 9 [] [] (c 10 (c 11 (c 12 (.late 13 (e 14 [12] [] (e 15 [] [] (d))))))))))))))))), (10, c 0 (c 1 (c 2 (c 3 (c 5 (c 6 (c 7 (c 8 (c 9 (c 10 (c 11 (c 12 (c 13 (c 14 (c 15 (c 16 (c 17 (c 18 (e 4 [5, 6, 7, 8, 9, 10, 11, 12, 13, 14, 15, 16, 17, 18] [] (e 19 [] [] (d)))))))))))))))))))))]),
  some (Tryz.f439, []),
  none,
  none,
  none,
  none,
  none,
  none,
  some (Tryz.f446, []),
  none]
theorem known27 : KnownR Tryz.prog 432 row27 := ⟨⟨Tryz.func432, rfl, Tryz.call432⟩, ⟨⟨Tryz.func433, rfl, Tryz.call433⟩, ⟨⟨Tryz.func434, rfl, Tryz.call434⟩, ⟨⟨Tryz.func435, rfl, Tryz.call435⟩, ⟨⟨Tryz.func436, rfl, Tryz.call436⟩, ⟨⟨Tryz.func437, rfl, Tryz.call437⟩, ⟨⟨Tryz.func438, rfl, Tryz.call438⟩, ⟨⟨Tryz.func439, rfl, Tryz.call439⟩, ⟨⟨Tryz.func446, rfl, Tryz.call446⟩, trivial⟩⟩⟩⟩⟩⟩⟩⟩⟩
theorem fine27 : plRow Tryz.prog row27 = true := by kernel_rfl
noncomputable def fnsP : List (List FnE) := [row0, row1, row2, row3, row4, row5, row6, row7, row8, row9, row10, row11, row12, row13, row14, row15, row16, row17, row18, row19, row20, row21, row22, row23, row24, row25, row26, row27]
theorem knownP : KnownP Tryz.prog 0 fnsP := ⟨known0, ⟨known1, ⟨known2, ⟨known3, ⟨known4, ⟨known5, ⟨known6, ⟨known7, ⟨known8, ⟨known9, ⟨known10, ⟨known11, ⟨known12, ⟨known13, ⟨known14, ⟨known15, ⟨known16, ⟨known17, ⟨known18, ⟨known19, ⟨known20, ⟨known21, ⟨known22, ⟨known23, ⟨known24, ⟨known25, ⟨known26, ⟨known27, trivial⟩⟩⟩⟩⟩⟩⟩⟩⟩⟩⟩⟩⟩⟩⟩⟩⟩⟩⟩⟩⟩⟩⟩⟩⟩⟩⟩⟩
theorem fineP : plRows Tryz.prog fnsP = true := by
  simp only [fnsP, plRows, fine0, fine1, fine2, fine3, fine4, fine5, fine6, fine7, fine8, fine9, fine10, fine11, fine12, fine13, fine14, fine15, fine16, fine17, fine18, fine19, fine20, fine21, fine22, fine23, fine24, fine25, fine26, fine27, Bool.and_self]
noncomputable def tb0 : Table := tabP Tryz.prog [57, 147] fnsP 207 208 5
theorem tb0_ok : TabOk Tryz.prog tb0 := tabP_ok mixed knownP fineP (fun f hf => by
  simp only [List.mem_cons, List.not_mem_nil, or_false] at hf
  rcases hf with rfl | rfl
  · exact quiet57
  · exact quiet147) noEscape noZero
/-! words of the contracts -/
def l (n : Nat) : E := .lit (.ofNat n)
def i (n : Nat) : V := .int .i64 (.lit (.ofNat n))
def s (b n : Nat) : V := .sl b (.lit (.ofNat 0)) (.lit (.ofNat n)) (.lit (.ofNat n))
end Go.Proofs.YtenebabkanehpaaGreatDoor
