/- emit: the writer's first functions. -/
import Derived.Test.YtecjdohpfijmpaaXI
import Derived.Test.YtecjdohpfijmpaaH6
set_option linter.unusedVariables false
set_option linter.unusedSimpArgs false
namespace Go.Proofs.Ytecjdohpfijmpaa.X
open Go Go.RowKit Go.Proofs

theorem zN59 : zeroN Try.prog 59 = some [.nsl, .nsl, .bool false] := by kernel_rfl
theorem pt31 : Try.prog.underlying 31 = some (.pointer (Try.prog.pointee 31)) := by kernel_rfl

theorem Hp.del_set (H : Hp) (id : Nat) (hs : List Hc) : (H.del id).set id hs = H.set id hs := by
  simp only [Hp.del, Hp.set]
  congr 1
  funext i
  split <;> rfl
theorem Hp.set_same {H : Hp} {id : Nat} {hs : List Hc} (h : H.obj id = some hs) : H.set id hs = H := by
  obtain ⟨n, o⟩ := H
  simp only [Hp.set]
  congr 1
  funext i
  split
  · rename_i e; subst e; exact h.symm
  · rfl
/-- A writer: its bytes, its open frames. -/
def wr (b : List AV) (fs : List AV) : List Hc := [.row 5 1 b, .row 72 2 fs, .v (.bool true)]

theorem new_run (H : Hp) : Run Try.prog 16 [] H (.op H.next 0) ⟨H.next + 1, fun i => if i = H.next then some (wr [] []) else H.obj i⟩ := by
  refine Run.of_tri Try.func16 rfl rfl (Nat.zero_le _) ?_
  refine Tri.seq ?_
  refine Tri.region ?_
  refine TriL.c1 rfl (op_as (ltb rfl) rfl) ?_
  refine TriL.nil ?_
  refine Tri.seq ?_
  refine Tri.region ?_
  refine TriL.c1 rfl (op_bldn (ltb rfl) spl59 zN59 rfl rfl) ?_
  refine TriL.c2 rfl (op_box (ltb rfl) rfl rfl rfl) ?_
  refine TriL.c1 rfl (op_as (ltb rfl) rfl) ?_
  refine TriL.kept (Kept.nilcell 2 0 100 5 1 rfl rfl rfl rfl (ltb rfl) (Kept.nilcell 2 1 101 72 2 rfl rfl rfl rfl (ltb rfl) (Kept.pub 2 rfl rfl (Kept.op 0 rfl rfl (Kept.cls 2 rfl rfl rfl rfl (Kept.now ?_))))))
  refine Tri.ret ?_
  exact ⟨.inr rfl, ResOK.r1 rfl (.tmp rfl .nil), rfl⟩
theorem is_run (H : Hp) (id : Nat) (b fs : List AV) (ho : H.obj id = some (wr b fs)) : Run Try.prog 40 [.op id 0] H (.bool true) H := by
  refine Run.of_tri Try.func40 rfl rfl (ltb rfl) ?_
  refine Tri.ofKept (Kept.opn 100 id 100 rfl ho rfl rfl (Kept.lp 0 100 rfl rfl (Kept.now ?_)))
  refine Tri.seq ?_
  refine Tri.region ?_
  refine TriL.c1 rfl (op_as (ltb rfl) rfl) ?_
  refine TriL.nil ?_
  refine Tri.seq ?_
  refine Tri.region ?_
  refine TriL.c1 rfl (op_mv (ltb rfl) rfl) ?_
  refine TriL.c1 rfl (op_nen (ltb rfl) pt31 rfl rfl) ?_
  refine TriL.c1 rfl (op_mv (ltb rfl) rfl) ?_
  refine TriL.g1 rfl (ltb rfl) rfl rfl (op_mv (ltb rfl) rfl) ?_
  refine TriL.g1 rfl (ltb rfl) rfl rfl (op_nckl (ltb rfl) rfl) ?_
  refine TriL.g1 rfl (ltb rfl) rfl rfl (op_fal (ltb rfl) fo59_2 rfl) ?_
  refine TriL.g1 rfl (ltb rfl) rfl rfl (op_ldo (ltb rfl) lk4 rfl rfl rfl) ?_
  refine TriL.c1 rfl (op_pickt (ltb rfl) rfl rfl rfl) ?_
  refine TriL.c1 rfl (op_as (ltb rfl) rfl) ?_
  refine TriL.kept (Kept.cls 100 rfl rfl rfl rfl (Kept.now ?_))
  refine Tri.ret ?_
  refine ⟨.inr rfl, ResOK.r1 rfl (.tmp rfl .nil), ?_⟩
  have e : (H.del id).set id (wr b fs) = H := by rw [Hp.del_set, Hp.set_same ho]
  exact congrArg (fun h => some (CV.hp h)) e
end Go.Proofs.Ytecjdohpfijmpaa.X
