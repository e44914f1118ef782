/- the document: fields without some, in a row of their own -/
import Derived.Test.YtpifnegikoldmaaGreatDoorZDF
import Derived.Test.YtpifnegikoldmaaGreatDoorZDE
set_option linter.unusedVariables false
set_option linter.unusedSimpArgs false
set_option linter.unusedSectionVars false
set_option maxRecDepth 100000
namespace Go.Proofs.YtpifnegikoldmaaGreatDoor.X
open Go Go.RowKit Go.Proofs
theorem xu {d n esz : Nat} {c : aK} {v : CV} {rest : List (aK × CV)} {H : Hp} {α : Type} {f : α → AV} {a : List α} {x : α} : ((c, v) :: (aK.s d, CV.sv (.v (.os (n + a.length + 1) (a.length + 1) esz))) :: (aK.h, CV.hp (H.bump (a.length + 1) (ae (a.map f ++ [f x])))) :: rest) = [(c, v), (aK.s d, CV.sv (.v (.os (n + (a ++ [x]).length) (a ++ [x]).length esz))), (aK.h, CV.hp (H.bump (a ++ [x]).length (ae ((a ++ [x]).map f))))] ++ rest := by simp [Nat.add_assoc]
theorem qq (l : List ag) : ∀ e ∈ l.map ag.av, e.cells.length = 7 := la (bW ag.cells (fun _ => rfl) _)
theorem F7 {l : List ag} {names : List aw} {i : Nat} (hi : i < l.length) (h : jw names l[i] = true) : (l.take i).filter (jw names) ++ [l[i]] = (l.take (i + 1)).filter (jw names) := by
 rw [List.take_add_one, List.getElem?_eq_getElem hi, List.filter_append]; simp [h]
theorem F8 {l : List ag} {names : List aw} {i : Nat} (hi : i < l.length) (h : jw names l[i] = false) : (l.take i).filter (jw names) = (l.take (i + 1)).filter (jw names) := by
 rw [List.take_add_one, List.getElem?_eq_getElem hi, List.filter_append]; simp [h]
theorem ug (m : aU) (names : List aw) (hl : m.fields.length ≤ 1000) (hn : names.length ≤ 9223372036854775807) (H : Hp) : dW Tryz.prog 44 [m.av, .sl (names.map .str)] H (.os (H.next + (aq m.fields names).length) (aq m.fields names).length 7) (H.bump (aq m.fields names).length (ae ((aq m.fields names).map ag.av))) := by
 refine dW.fin fun hfin => (dW.aN Tryz.func44 rfl rfl (aF rfl) (aC.seq (aC.region (aB.run II 2 rfl (aB.nil (aC.seq (aC.region (aB.c3 rfl (gw («as» := []) (aF rfl) eY kK rfl rfl rfl (ft rfl) rfl rfl) (aB.run II 1 rfl (aB.nil (aC.seq (aC.seq (aC.aJ (Kept.k6 rfl (Hp.lb hfin) (Kept.now (aC.region (aB.run II 1 rfl (aB.nil (aC.blk ?_)))))))))))))))))))
 refine aC.aJ (Kept.aH [.s 6, .s 5, .h, .s 1, .s 2, .b 2] rfl (by decide) (Kept.now (aC.aW (fun ((i, a) : Nat × List ag) => [(.s 6, .sv (.v (.int .i64 (i : Int)))), (.s 5, .sv (.v (.os (H.next + a.length) a.length 7))), (.h, .hp (H.bump a.length (ae (a.map ag.av))))]) _ (fun ((i, a) : Nat × List ag) => a = (m.fields.take i).filter (jw names)) (fun ((i, a) : Nat × List ag) => m.fields.length - i) (0, []) rfl (by simp) ?_)))
 rintro ⟨i, a⟩ hI
 refine aC.seq (aC.seq (aC.region (aB.run II 5 rfl (aB.nil (aC.cond rfl (fun hc1 => ?_) (fun hc1 => ?_))))))
 ·have hi := ch hc1
  refine aC.skip (aC.seq (aC.blk (aC.seq (aC.region (aB.run II 1 rfl (aB.nil (aC.seq (aC.seq (aC.region (aB.run II 1 rfl (aB.nil (aC.blk (aC.aJ (Kept.aH [.s 8, .s 7, .h, .s 1, .s 2, .b 2, .s 5, .s 6] rfl (by decide) (Kept.now (aC.aW (fun ((k, b) : Nat × Bool) => [(.s 8, .sv (.v (.int .i64 (k : Int)))), (.s 7, .sv (.v (.bool b)))]) _ (fun ((k, b) : Nat × Bool) => b = (names.take k).any (fun n => (m.fields[i]'hi).name == n)) (fun ((k, b) : Nat × Bool) => names.length - k) (0, false) rfl (by simp) ?_))))))))))))))))
  rintro ⟨k, b⟩ hK
  refine aC.seq (aC.seq (aC.region (aB.run II 4 rfl (aB.nil (aC.cond rfl (fun hc2 => ?_) (fun hc2 => ?_))))))
  ·have hk := ch hc2
   refine aC.skip (aC.seq (aC.blk (aC.drawn mixed rfl (aD.run II 2 rfl (aD.tell (d := 24) rfl (fun hg3 => ?_) (fun hg3 => ?_))))))
   ·exact aD.run II 13 rfl (aD.nil (by kernel_rfl) (Kept.now (aC.region (aB.run II 3 rfl (aB.kept (Kept.aX 8 rfl (inc (by omega)) (Kept.aH [.s 8, .s 7, .h, .s 1, .s 2, .b 2, .s 5, .s 6] rfl (by decide) (Kept.now ⟨(k + 1, _), by dsimp only; omega, by dsimp only; rw [rC hk, ← hK, hg3]; rfl, rfl⟩))))))))
   ·exact aD.run II 3 rfl (aD.g1 rfl (aF rfl) rfl rfl (aI (aF rfl) bQ rfl rfl (Int.natCast_nonneg _) (bz hi) rfl) (aD.run II 4 rfl (aD.g1 rfl (aF rfl) rfl rfl (aI (aF rfl) ca rfl rfl (Int.natCast_nonneg _) (bz hk) rfl) (aD.run II 4 rfl (aD.nil (by kernel_rfl) (Kept.now (aC.region (aB.run II 3 rfl (aB.kept (Kept.aX 8 rfl (inc (by omega)) (Kept.aH [.s 8, .s 7, .h, .s 1, .s 2, .b 2, .s 5, .s 6] rfl (by decide) (Kept.now ⟨(k + 1, _), by dsimp only; omega, by dsimp only; rw [rC hk, ← hK, hg3, Bool.false_or], rfl⟩))))))))))))
  ·have hk := ck hc2
   refine aC.exit (aC.seq (aC.region (aB.run II 2 rfl (aB.nil (aC.cond rfl (fun hc4 => ?_) (fun hc4 => ?_))))))
   ·refine aC.region (aB.run II 4 rfl (aB.c1 rfl (aI (aF rfl) bQ rfl rfl (Int.natCast_nonneg _) (bz hi) rfl) (aB.run II 2 rfl (aB.c3 rfl (iF (aF rfl) eY kK rfl rfl Hp.cl (qq _) (by simp) rfl rfl rfl (by have h1 := List.length_filter_le (jw names) (m.fields.take i); rw [List.length_take] at h1; have h2 : a.length = _ := congrArg List.length hI; simp only [List.length_cons, List.length_nil]; omega) (by have h1 := List.length_filter_le (jw names) (m.fields.take i); rw [List.length_take] at h1; have h2 : a.length = _ := congrArg List.length hI; simp only [List.length_cons, List.length_nil]; omega)) ?_))))
    exact aB.run II 1 rfl (aB.nil (aC.region (aB.run II 3 rfl (aB.kept (Kept.k6 rfl Hp.ir (Kept.aX 6 rfl (inc (by omega)) (Kept.aH [.s 6, .s 5, .h, .s 1, .s 2, .b 2] rfl (by decide) (Kept.now ⟨(i + 1, a ++ [(m.fields[i]'hi)]), by dsimp only; omega, by dsimp only; rw [hI]; exact F7 hi (by dsimp only at hK; rw [List.take_of_length_le (by omega)] at hK; unfold jw; rw [← hK]; exact hc4), xu⟩))))))))
   ·exact aC.skip (aC.region (aB.run II 3 rfl (aB.kept (Kept.k6 rfl rfl (Kept.aX 6 rfl (inc (by omega)) (Kept.aH [.s 6, .s 5, .h, .s 1, .s 2, .b 2] rfl (by decide) (Kept.now ⟨(i + 1, a), by dsimp only; omega, by dsimp only; rw [hI]; exact F8 hi (by dsimp only at hK; rw [List.take_of_length_le (by omega)] at hK; unfold jw; rw [← hK]; exact hc4), rfl⟩)))))))
 ·have hi := ck hc1
  refine aC.exit (aC.seq (aC.region (aB.run II 2 rfl (aB.nil (aC.ret ?_)))))
  have ha : a = aq m.fields names := (by rw [hI, List.take_of_length_le (by omega)]; rfl)
  subst ha
  exact ⟨.inr rfl, (aE.r1 rfl (.tmp rfl .nil)).cast rfl, rfl⟩
/- the document: a step applied -/
theorem sI : aa Tryz.prog 22 = true := by kernel_rfl
theorem GH : aa Tryz.prog 39 = true := by kernel_rfl
theorem GG : aa Tryz.prog 41 = true := by kernel_rfl
theorem GF : aa Tryz.prog 43 = true := by kernel_rfl
theorem GD : aa Tryz.prog 44 = true := by kernel_rfl
theorem GC : aa Tryz.prog 45 = true := by kernel_rfl
theorem GB : aa Tryz.prog 46 = true := by kernel_rfl
theorem GA : aa Tryz.prog 47 = true := by kernel_rfl
theorem Fz : aa Tryz.prog 48 = true := by kernel_rfl
theorem BA : aa Tryz.prog 49 = true := by kernel_rfl
theorem Bv : Bw Tryz.prog 25 = some [(0, 1), (1, 1)] := by kernel_rfl
theorem IA : qH Tryz.prog 25 = some [.nsl, .nsl] := by kernel_rfl
def ly : Except Int aM → AV
 | .ok t => .tup [t.av, .int .i64 0]
 | .error e => .tup [.agg [.sl [], .sl []], .int .i64 e]
theorem Hv {n i : Nat} (h : decide ((i : Int) < (n : Int)) = true) : i < n := by have := of_decide_eq_true h; omega
theorem DL {n i : Nat} (h : decide ((i : Int) < (n : Int)) = false) : n ≤ i := by have := of_decide_eq_false h; omega
def aP.dM (s : aM) (x : aP) (m : aU) : aU := { m with fields := (aq m.fields x.goes).map x.changed ++ x.comes s (m.aQ x.field) }
def aP.outs (s : aM) (x : aP) (at_ : Nat) (m : aU) : aM := (⟨s.enums, x.msgs s at_ (x.dM s m) (m.aQ x.field).ref⟩ : aM).sorted
theorem xM {s : aM} {x : aP} (h : s.fu ≠ 0 ∨ x.right = false) : s.apply x = .error 1 := by unfold aM.apply; rw [if_pos h]
theorem D7 {s : aM} {x : aP} (h1 : s.fu = 0) (h2 : x.right = true) (h : s.bD x.msg < 0) : s.apply x = .error 5 := by unfold aM.apply; rw [if_neg (by simp [h1, h2]), if_pos h]
theorem D6 {s : aM} {x : aP} (h1 : s.fu = 0) (h2 : x.right = true) {i : Nat} {m : aU} (h3 : s.bD x.msg = (i : Int)) (h4 : s.msgs[i]? = some m) :
  s.apply x = if x.bg.all m.eD = false then .error 5 else if x.asked s m = false then .error 7 else if x.there s { m with fields := aq m.fields x.goes } (x.comes s (m.aQ x.field)) = true then .error 6 else if (x.outs s i m).fu ≠ 0 then .error (x.outs s i m).fu else .ok (x.outs s i m) := by
 unfold aM.apply
 rw [if_neg (by simp [h1, h2]), if_neg (by rw [h3]; omega)]
 have hg : s.msgs.getD i ja = m := by rw [List.getD_eq_getElem?_getD, h4]; rfl
 simp only [h3, Int.toNat_natCast, hg]
 rfl
theorem AM {s : aM} {n : aw} (h : ¬ s.bD n < 0) : ∃ (i : Nat) (m : aU), s.bD n = (i : Int) ∧ s.msgs[i]? = some m := by
 obtain ⟨i, hi, e, hn⟩ := kU _ _ h
 exact ⟨i, s.msgs[i], e, List.getElem?_eq_getElem hi⟩
theorem ll {m : aU} {n : aw} : m.eD n = decide (0 ≤ m.cQ n) := by
 rcases bB (fun f : ag => f.name == n) m.fields 0 with ⟨q1, q2⟩ | ⟨i, hi, q1, q2, q3⟩
 ·have h4 : m.eD n = false := List.any_eq_false.2 (fun f hf => by have := List.find?_eq_none.1 q2 f hf; simpa using this)
  have e : m.cQ n = -1 := q1
  rw [h4, e]; rfl
 ·have e : m.cQ n = ((0 + i : Nat) : Int) := q1
  have h4 : m.eD n = true := List.any_eq_true.2 ⟨_, List.getElem_mem hi, q3⟩
  rw [h4, e]; simp
theorem AK {m : aU} {x : aP} {i : Nat} (hi : i < x.bg.length) (h : m.cQ x.bg[i] < 0) : x.bg.all m.eD = false :=
 List.all_eq_false.2 ⟨_, List.getElem_mem hi, by rw [ll]; simp; omega⟩
theorem mS {m : aU} {x : aP} {i : Nat} (hi : x.bg.length ≤ i) (h : ∀ k (hk : k < x.bg.length), k < i → 0 ≤ m.cQ x.bg[k]) : x.bg.all m.eD = true :=
 List.all_eq_true.2 fun n hn => by
  obtain ⟨k, hk, rfl⟩ := List.getElem_of_mem hn
  rw [ll]; simpa using h k hk (by omega)
def nH (x : aP) (l : List ag) (j : Nat) : List ag := (l.take j).map x.changed ++ l.drop j
theorem we {x : aP} {l : List ag} {j : Nat} : (nH x l j).length = l.length := by unfold nH; simp; omega
theorem DA {x : aP} {l : List ag} {j : Nat} (hj : j < l.length) : ((nH x l j).map ag.av)[j]? = some (.agg l[j].cells) := by
 unfold nH
 have h1 : ((l.take j).map x.changed).length = j := by simp; omega
 rw [List.getElem?_map, List.getElem?_append_right (by omega), h1, Nat.sub_self, List.getElem?_drop, Nat.add_zero, List.getElem?_eq_getElem hj]; rfl
theorem Cz {x : aP} {l : List ag} {j : Nat} (hj : j < l.length) : ((nH x l j).map ag.av).set j (.agg (x.changed l[j]).cells) = (nH x l (j + 1)).map ag.av := by
 have h1 : ((l.take j).map x.changed).length = j := by simp; omega
 unfold nH
 have e : (.agg (x.changed l[j]).cells : AV) = (x.changed l[j]).av := rfl
 rw [e, ← List.map_set, List.set_append_right _ _ (by omega), h1, Nat.sub_self, List.drop_eq_getElem_cons hj, List.set_cons_zero, List.take_add_one, List.getElem?_eq_getElem hj]
 simp only [Option.toList, List.map_append, List.append_assoc, List.map_cons, List.map_nil, List.cons_append, List.nil_append]
theorem DB {x : aP} {l : List ag} {j : Nat} (hj : l.length ≤ j) : nH x l j = l.map x.changed := by
 unfold nH; rw [List.take_of_length_le hj, List.drop_eq_nil_of_le hj, List.append_nil]
theorem IY {x : aP} {l : List ag} {j k : Nat} {v : CV} {rest : List (aK × CV)} {H : Hp} (hj : j < l.length) : ((aK.s 14, v) :: (aK.h, CV.hp (H.bump k (ae (((nH x l j).map ag.av).set j (.agg (x.changed l[j]).cells))))) :: rest) = [(aK.s 14, v), (aK.h, CV.hp (H.bump k (ae ((nH x l (j + 1)).map ag.av))))] ++ rest := by rw [Cz hj]; rfl
theorem vJ {id k : Nat} {R l : List ag} {m : aU} {s : aM} {x : aP} (hk : k = R.length) : [s.av, AV.agg [.str m.name, .os id k 7, .sl (m.ab.map dL)], x.av, .sl (l.map ag.av)].map (ka id (R.map ag.av)) = [s.av, ({ m with fields := R } : aU).av, x.av, .sl (l.map ag.av)] := by
 subst hk
 have e : (R.map ag.av).take R.length = R.map ag.av := List.take_of_length_le (by simp)
 simp [ka, ez, aM.av, aM.cells, aU.av, aU.cells, aP.av, aP.cells, e]
theorem HZ {id n : Nat} {R : List ag} {m : aU} (hn : n = R.length) : [Sv.v (.str m.name), .v (.os id n 7), .v (.sl (m.ab.map dL))].map (iG id (R.map ag.av)) = [Sv.v (.str m.name), .v (.sl (R.map ag.av)), .v (.sl (m.ab.map dL))] := by
 subst hn
 have e : (R.map ag.av).take R.length = R.map ag.av := List.take_of_length_le (by simp)
 simp [iG, ez, e]
def Bb (x : aP) (at_ : Nat) (r : aU) (ref : aw) : aU × Nat → Option aU := fun (m, i) => if i = at_ then some r else if x.kind = 7 ∧ m.name = ref then none else some m
def cD (s : aM) (x : aP) (at_ : Nat) (r : aU) (ref : aw) (i : Nat) : List aU := (s.msgs.zipIdx.take i).filterMap (Bb x at_ r ref)
theorem dB {s : aM} {x : aP} {at_ : Nat} {r : aU} {ref : aw} {i : Nat} : (cD s x at_ r ref i).length ≤ s.msgs.length := by
 unfold cD
 refine Nat.le_trans (List.length_filterMap_le _ _) ?_
 rw [List.length_take, List.length_zipIdx]; omega
theorem mx {s : aM} {x : aP} {at_ : Nat} {r : aU} {ref : aw} {i : Nat} (hi : i < s.msgs.length) : cD s x at_ r ref (i + 1) = cD s x at_ r ref i ++ (Bb x at_ r ref (s.msgs[i], i)).toList := by
 unfold cD
 rw [List.take_add_one, List.filterMap_append]
 have : s.msgs.zipIdx[i]? = some (s.msgs[i], i) := by simp [List.getElem?_zipIdx, hi]
 rw [this]
 cases h : Bb x at_ r ref (s.msgs[i], i) <;> simp [h]
theorem og {s : aM} {x : aP} {at_ : Nat} {m : aU} {i : Nat} (hi : s.msgs.length ≤ i) (h4 : s.msgs[at_]? = some m) : x.msgs s at_ (x.dM s m) (m.aQ x.field).ref = cD s x at_ (x.dM s m) (m.aQ x.field).ref i ++ (if x.kind = 6 then [{ ja with name := x.dest, fields := [m.aQ x.field] }] else []) := by
 unfold aP.msgs cD
 have hg : s.msgs.getD at_ ja = m := by rw [List.getD_eq_getElem?_getD, h4]; rfl
 rw [hg, List.take_of_length_le (by simpa using hi)]
 rfl
theorem IX {s : aM} {x : aP} {at_ : Nat} {r : aU} {ref : aw} {i el esz : Nat} {v : CV} {w : Sv} {rest : List (aK × CV)} {t : Nat} {a : AV} (hi : i < s.msgs.length) {r' : aU} (ha : a = r'.av) (h : Bb x at_ r ref (s.msgs[i], i) = some r') :
  ((aK.s 16, v) :: (aK.b 15, CV.bx [w, .ow t ((cD s x at_ r ref i).map aU.av ++ [a])]) :: (aK.t t, CV.tk false el esz ((cD s x at_ r ref i).map aU.av ++ [a])) :: rest) = [(aK.s 16, v), (aK.b 15, CV.bx [w, .ow t ((cD s x at_ r ref (i + 1)).map aU.av)]), (aK.t t, CV.tk false el esz ((cD s x at_ r ref (i + 1)).map aU.av))] ++ rest := by
 rw [mx hi, h, ha]; simp
theorem JE {s : aM} {x : aP} {at_ : Nat} {r : aU} {ref : aw} {i el esz : Nat} {v : CV} {w : Sv} {rest : List (aK × CV)} {t : Nat} (hi : i < s.msgs.length) (h : Bb x at_ r ref (s.msgs[i], i) = none) :
  ((aK.s 16, v) :: (aK.b 15, CV.bx [w, .ow t ((cD s x at_ r ref i).map aU.av)]) :: (aK.t t, CV.tk false el esz ((cD s x at_ r ref i).map aU.av)) :: rest) = [(aK.s 16, v), (aK.b 15, CV.bx [w, .ow t ((cD s x at_ r ref (i + 1)).map aU.av)]), (aK.t t, CV.tk false el esz ((cD s x at_ r ref (i + 1)).map aU.av))] ++ rest := by
 rw [mx hi, h]; simp
theorem kX {s : aM} {f : ag} {x : aP} : (x.comes s f).length ≤ 2 := by
 unfold aP.comes
 repeat' split
 all_goals simp
theorem yJ {s : aM} {x : aP} {m : aU} (h : m.fields.length ≤ 10) : (x.dM s m).fields.length ≤ 12 := by
 have h1 := List.length_filter_le (fun f : ag => !(x.goes.any fun n => f.name == n)) m.fields
 have h2 := @kX s (m.aQ x.field) x
 show ((aq m.fields x.goes).map x.changed ++ x.comes s (m.aQ x.field)).length ≤ 12
 unfold aq
 rw [List.length_append, List.length_map]; omega
theorem oU {s : aM} (hs : s.sm) {x : aP} {at_ : Nat} {m : aU} {ref : aw} (hm : m ∈ s.msgs) {l : List aU} (hl : l.length ≤ 1) (hf : ∀ y ∈ l, y.fields.length ≤ 1 ∧ y.ab = []) {i : Nat} : (⟨s.enums, cD s x at_ (x.dM s m) ref i ++ l⟩ : aM).AU := by
 have hmem : ∀ y ∈ cD s x at_ (x.dM s m) ref i, y = x.dM s m ∨ y ∈ s.msgs := by
  intro y hy
  obtain ⟨⟨z, k⟩, hz, he⟩ := List.mem_filterMap.1 hy
  simp only [Bb] at he
  split at he
  ·cases he; exact .inl rfl
  ·split at he
   ·cases he
   ·cases he
    have := List.mem_of_mem_take hz
    exact .inr (List.fst_mem_of_mem_zipIdx this)
 have hlen : (cD s x at_ (x.dM s m) ref i).length ≤ 6 := by
  unfold cD
  refine Nat.le_trans (List.length_filterMap_le _ _) ?_
  rw [List.length_take, List.length_zipIdx]; have := hs.m; omega
 refine ⟨by have := hs.e; show s.enums.length ≤ 100; omega, by show (cD s x at_ (x.dM s m) ref i ++ l).length ≤ 100; rw [List.length_append]; omega, fun y hy => by have := hs.v y hy; omega, fun y hy => ?_, fun y hy => ?_⟩
 ·rcases List.mem_append.1 hy with h | h
  ·rcases hmem y h with rfl | h2
   ·have := yJ (s := s) (x := x) (hs.f m hm); omega
   ·have := hs.f y h2; omega
  ·have := (hf y h).1; omega
 ·rcases List.mem_append.1 hy with h | h
  ·rcases hmem y h with rfl | h2
   ·have := hs.b m hm; show m.ab.length ≤ 100; omega
   ·have := hs.b y h2; omega
  ·rw [(hf y h).2]; decide
theorem n0 {α : Type} (l : List α) (k : Nat) (x : α) : (eC l k x).length = l.length + 1 := by unfold eC; simp; omega
theorem nr (s : aM) : s.sorted.enums.length = s.enums.length ∧ s.sorted.msgs.length = s.msgs.length := by
 have h1 : ∀ (l acc : List dP), (l.foldl vV acc).length = acc.length + l.length := by
  intro l
  induction l with
  | nil => intro acc; simp
  | cons a l ih => intro acc; rw [List.foldl_cons, ih]; unfold vV; rw [n0]; simp; omega
 have h2 : ∀ (l acc : List aU), (l.foldl jx acc).length = acc.length + l.length := by
  intro l
  induction l with
  | nil => intro acc; simp
  | cons a l ih => intro acc; rw [List.foldl_cons, ih]; unfold jx; rw [n0]; simp; omega
 exact ⟨by show (s.enums.foldl vV []).length = _; rw [h1]; simp, by show (s.msgs.foldl jx []).length = _; rw [h2]; simp⟩
theorem wg {s : aM} (h : s.AU) : s.sorted.fT := ⟨by have := h.e; rw [(nr s).1]; omega, by have := h.m; rw [(nr s).2]; omega⟩
theorem Ac {x : aP} : x.goes.length ≤ 2 := by
 unfold aP.goes
 repeat' split
 all_goals simp
theorem qf {s : aM} (hs : s.sm) {x : aP} {at_ : Nat} {m : aU} {ref : aw} (hm : m ∈ s.msgs) {i : Nat} : (⟨s.enums, cD s x at_ (x.dM s m) ref i⟩ : aM).AU := by
 have := oU hs (x := x) (at_ := at_) (ref := ref) (i := i) hm (l := []) (by simp) (by simp)
 rwa [List.append_nil] at this
theorem xk (E : List dP) (l k : List aU) (h : (⟨E, l ++ k⟩ : aM).AU) : Pure Tryz.prog 49 [.agg [.sl (E.map dP.av), .sl (l.map aU.av ++ k.map aU.av)]] (⟨E, l ++ k⟩ : aM).sorted.av := by
 rw [← List.map_append]; exact sy _ h
theorem Du {s : aM} {x : aP} {at_ : Nat} {m : aU} {i : Nat} (hi : s.msgs.length ≤ i) (h4 : s.msgs[at_]? = some m) (hk : x.kind = 6) : x.outs s at_ m = (⟨s.enums, cD s x at_ (x.dM s m) (m.aQ x.field).ref i ++ [{ ja with name := x.dest, fields := [m.aQ x.field] }]⟩ : aM).sorted := by
 unfold aP.outs; rw [og hi h4, if_pos hk]
theorem Dt {s : aM} {x : aP} {at_ : Nat} {m : aU} {i : Nat} (hi : s.msgs.length ≤ i) (h4 : s.msgs[at_]? = some m) (hk : x.kind ≠ 6) : x.outs s at_ m = (⟨s.enums, cD s x at_ (x.dM s m) (m.aQ x.field).ref i⟩ : aM).sorted := by
 unfold aP.outs; rw [og hi h4, if_neg hk, List.append_nil]
theorem yH {x : aP} (h : x.names.length ≤ 1000) : x.bg.length ≤ 1000 := by
 unfold aP.bg
 repeat' split
 all_goals first | exact h | simp
theorem Ga {s : aM} {m : aU} {x : aP} (h : x.asked s m = true) (hk : x.kind = 7) : s.boxed m (m.aQ x.field) = true := by
 unfold aP.asked at h
 rw [hk] at h
 exact h
def ah (D : Nat → Prop) (l : List AV) : Prop := ∀ x ∈ l, bE D x
theorem ah.nil {D : Nat → Prop} : ah D [] := fun x hx => by cases hx
theorem ah.cons {D : Nat → Prop} {a : AV} {l : List AV} (h : bE D a) (t : ah D l) : ah D (a :: l) := fun x hx => by
 rcases List.mem_cons.1 hx with rfl | hx
 ·exact h
 ·exact t x hx
theorem ah.map {D : Nat → Prop} {α : Type} {f : α → AV} {l : List α} (h : ∀ x ∈ l, bE D (f x)) : ah D (l.map f) := fun x hx => by
 obtain ⟨y, hy, rfl⟩ := List.mem_map.1 hx
 exact h y hy
theorem ag.ops {D : Nat → Prop} (f : ag) : bE D f.av := .agg _ (ah.cons (.str _) (ah.cons (.int _ _) (ah.cons (.int _ _) (ah.cons (.str _) (ah.cons (.bool _) (ah.cons (.bool _) (ah.cons (.str _) ah.nil)))))))
theorem aU.ops {D : Nat → Prop} (m : aU) : bE D m.av := .agg _ (ah.cons (.str _) (ah.cons (.sl _ (ah.map fun f _ => f.ops)) (ah.cons (.sl _ (ah.map fun n _ => .int _ n)) ah.nil)))
theorem iy.ops {D : Nat → Prop} (v : iy) : bE D v.av := .agg _ (ah.cons (.str _) (ah.cons (.int _ _) ah.nil))
theorem dP.ops {D : Nat → Prop} (e : dP) : bE D e.av := .agg _ (ah.cons (.str _) (ah.cons (.sl _ (ah.map fun f _ => f.ops)) ah.nil))
theorem aM.ops {D : Nat → Prop} (s : aM) : bE D s.av := .agg _ (ah.cons (.sl _ (ah.map fun f _ => f.ops)) (ah.cons (.sl _ (ah.map fun f _ => f.ops)) ah.nil))
theorem yq {D : Nat → Prop} (e : Except Int aM) : bE D (ly e) := by
 cases e with
 | ok t => exact .tup _ (ah.cons t.ops (ah.cons (.int _ _) ah.nil))
 | error e => exact .tup _ (ah.cons (.agg _ (ah.cons (.sl _ ah.nil) (ah.cons (.sl _ ah.nil) ah.nil))) (ah.cons (.int _ _) ah.nil))
theorem wS (s : aM) (x : aP) (hs : s.fT) (hx : x.fT) (hn : x.names.length ≤ 1000) : Pure Tryz.prog 23 [s.av, x.av] (ly (s.apply x)) := by
 refine fun H => dW.fin fun hfin => (dW.nY Tryz.func23 rfl rfl (aF rfl) (yq _) (aC.seq (aC.region (aB.run II 4 rfl (aB.nil (aC.c8 [.h, .s 2, .b 2, .s 3, .b 3, .s 4, .b 4] (fun (_ : Unit) => []) (fun (_ : Unit) => s.fu = 0 ∧ x.right = true) rfl ?_ ?_))))))
 ·refine aC.seq (aC.region (aB.run II 1 rfl (aB.c1 rfl (aG (aF rfl) sI rfl (wQ s hs)) (aB.run II 2 rfl (aB.tell (d := 21) rfl (fun hg1 => ?_) (fun hg1 => ?_))))))
  ·exact aB.run II 4 rfl (aB.nil (aC.bG rfl rfl (aC.seq (aC.region (aB.run II 3 rfl (aB.nil (aC.ret ⟨.inr rfl, (aE.r2 rfl (.cell eM rfl rfl rfl rfl (.tmp rfl .nil))).cast (congrArg ly (xM (.inl (by simpa using hg1))).symm), H, rfl, Nat.le_refl _, fun _ _ => rfl⟩)))))))
  ·refine aB.run II 1 rfl (aB.g1 rfl (aF rfl) rfl rfl (aG (aF rfl) GH rfl (CQ x hx)) (aB.run II 2 rfl (aB.nil (aC.cond rfl (fun hc2 => ?_) (fun hc2 => ?_)))))
   ·exact aC.seq (aC.region (aB.run II 3 rfl (aB.nil (aC.ret ⟨.inr rfl, (aE.r2 rfl (.cell eM rfl rfl rfl rfl (.tmp rfl .nil))).cast (congrArg ly (xM (.inr (by simpa using hc2))).symm), H, rfl, Nat.le_refl _, fun _ _ => rfl⟩))))
   ·exact aC.aJ (Kept.aH [.h, .s 2, .b 2, .s 3, .b 3, .s 4, .b 4] rfl (by decide) (Kept.now (aC.skip (⟨(), ⟨by simpa using hg1, by simpa using hc2⟩, rfl⟩))))
 ·rintro _ hF3
  have hok := aM.gF hF3.1
  have hsm := hok.sm
  refine aC.seq (aC.region (aB.run II 3 rfl (aB.c1 rfl (aG (aF rfl) kA rfl (gv s x.msg (by have := hs.m; omega))) ?_)))
  refine aB.run II 1 rfl (aB.nil (aC.c8 [.h, .s 2, .b 2, .s 3, .b 3, .s 4, .b 4, .s 6] (fun (_ : Unit) => []) (fun (_ : Unit) => ¬ s.bD x.msg < 0) rfl ?_ ?_))
  ·refine aC.seq (aC.region (aB.run II 2 rfl (aB.nil (aC.cond rfl (fun hc3 => ?_) (fun hc3 => ?_)))))
   ·exact aC.seq (aC.region (aB.run II 3 rfl (aB.nil (aC.ret ⟨.inr rfl, (aE.r2 rfl (.cell eM rfl rfl rfl rfl (.tmp rfl .nil))).cast (congrArg ly (D7 hF3.1 hF3.2 (of_decide_eq_true hc3)).symm), H, rfl, Nat.le_refl _, fun _ _ => rfl⟩))))
   ·exact aC.aJ (Kept.aH [.h, .s 2, .b 2, .s 3, .b 3, .s 4, .b 4, .s 6] rfl (by decide) (Kept.now (aC.skip ⟨(), of_decide_eq_false hc3, rfl⟩)))
  ·rintro _ hF6
   obtain ⟨i0, m, h0, hm0⟩ := AM (s := s) (n := x.msg) (by omega)
   have hmm : m ∈ s.msgs := List.mem_of_getElem? hm0
   have hmf := hsm.f m hmm
   have hmb := hsm.b m hmm
   have hap := D6 hF3.1 hF3.2 h0 hm0
   refine aC.seq (aC.region (aB.run II 3 rfl (aB.c1 rfl (aI (aF rfl) bL rfl rfl (by omega) (by rw [h0, Int.toNat_natCast, List.getElem?_map, hm0]; rfl) rfl) ?_)))
   refine aB.run II 3 rfl (aB.nil (aC.seq (aC.region (aB.run II 1 rfl (aB.c1 rfl (aG (aF rfl) GG rfl (CS _)) (aB.run II 1 rfl (aB.nil (aC.seq (aC.seq (aC.region (aB.run II 1 rfl (aB.nil (aC.blk (aC.aJ (Kept.aH [.s 9, .h, .s 2, .b 2, .s 3, .b 3, .s 4, .b 4, .s 6, .s 7, .b 7, .s 8] rfl (by decide) (Kept.now (aC.aW (fun (i : Nat) => [(.s 9, .sv (.v (.int .i64 (i : Int))))]) _ (fun (i : Nat) => ∀ k (hk : k < x.bg.length), k < i → 0 ≤ m.cQ x.bg[k]) (fun (i : Nat) => x.bg.length - i) 0 rfl (by intro k _ h; omega) ?_)))))))))))))))))
   rintro i hI
   have hnl : x.bg.length ≤ 1000 := yH hn
   refine aC.seq (aC.seq (aC.region (aB.run II 4 rfl (aB.nil (aC.cond rfl (fun hc4 => ?_) (fun hc4 => ?_))))))
   ·have hi := ch hc4
    refine aC.skip (aC.seq (aC.blk (aC.seq (aC.drawn mixed rfl (aD.run II 3 rfl (aD.c1 rfl (aI (aF rfl) ca rfl rfl (Int.natCast_nonneg _) (bz hi) rfl) (aD.run II 1 rfl (aD.c1 rfl (aG (aF rfl) pN rfl (iS m _ (by omega))) (aD.run II 1 rfl (aD.nil (by kernel_rfl) (Kept.now (aC.cond rfl (fun hc5 => ?_) (fun hc5 => ?_)))))))))))))
    ·exact aC.seq (aC.region (aB.run II 3 rfl (aB.nil (aC.ret ⟨.inr rfl, (aE.r2 rfl (.cell eM rfl rfl rfl rfl (.tmp rfl .nil))).cast (by rw [hap, if_pos (AK hi (of_decide_eq_true hc5))]; rfl), H, rfl, Nat.le_refl _, fun _ _ => rfl⟩))))
    ·exact aC.skip (aC.region (aB.run II 3 rfl (aB.kept (Kept.aX 9 rfl (inc (by omega)) (Kept.aH [.s 9, .h, .s 2, .b 2, .s 3, .b 3, .s 4, .b 4, .s 6, .s 7, .b 7, .s 8] rfl (by decide) (Kept.now ⟨i + 1, by omega, fun k hk h => by rcases Nat.lt_or_ge k i with q | q; exact hI k hk q; have e : k = i := (by omega); subst e; exact Int.not_lt.1 (of_decide_eq_false hc5), rfl⟩))))))
   ·have hi := ck hc4
    refine aC.exit (aC.seq (aC.seq (aC.region (aB.run II 3 rfl (aB.c1 rfl (aG (aF rfl) GF rfl (C2 s m x hsm (by omega) (mS hi hI) hn)) (aB.run II 1 rfl (aB.nil (aC.cond rfl (fun hc6 => ?_) (fun hc6 => ?_)))))))))
    ·exact aC.seq (aC.region (aB.run II 3 rfl (aB.nil (aC.ret ⟨.inr rfl, (aE.r2 rfl (.cell eM rfl rfl rfl rfl (.tmp rfl .nil))).cast (by rw [hap, if_neg (by rw [mS hi hI]; decide), if_pos (by simpa using hc6)]; rfl), H, rfl, Nat.le_refl _, fun _ _ => rfl⟩))))
    ·refine aC.skip (aC.seq (aC.region (aB.run II 3 rfl (aB.nil (aC.c8 [.h, .s 2, .b 2, .s 3, .b 3, .s 4, .b 4, .s 6, .s 7, .b 7] (fun (_ : Unit) => [(.s 10, .sv (.lp 10 0)), (.b 10, .bx [.v (.str (m.aQ x.field).name), .v (.int .i64 (m.aQ x.field).num), .v (.int .i64 (m.aQ x.field).ty), .v (.str (m.aQ x.field).ref), .v (.bool (m.aQ x.field).rep), .v (.bool (m.aQ x.field).loose), .v (.str (m.aQ x.field).one)])]) (fun (_ : Unit) => True) rfl ?_ ?_)))))
     ·refine aC.seq (aC.region (aB.run II 3 rfl (aB.c1 rfl (aG (aF rfl) pN rfl (iS m _ (by omega))) (aB.run II 1 rfl (aB.nil (aC.seq (aC.region (aB.run II 2 rfl (aB.nil (aC.cond rfl (fun hc7 => ?_) (fun hc7 => ?_)))))))))))
      ·exact aC.region (aB.run II 3 rfl (aB.c1 rfl (aI (aF rfl) bQ rfl rfl (of_decide_eq_true hc7) (iA (of_decide_eq_true hc7)) rfl) (aB.run II 2 rfl (aB.kept (Kept.aH [.s 10, .b 10, .h, .s 2, .b 2, .s 3, .b 3, .s 4, .b 4, .s 6, .s 7, .b 7] rfl (by decide) (Kept.now ⟨(), trivial, rfl⟩))))))
      ·exact aC.aJ (Kept.aH [.s 10, .b 10, .h, .s 2, .b 2, .s 3, .b 3, .s 4, .b 4, .s 6, .s 7, .b 7] rfl (by decide) (Kept.now (aC.skip ⟨(), trivial, by rw [pQ (of_decide_eq_false hc7)]; rfl⟩)))
     ·rintro _ hF19
      have hna := mS hi hI
      have hask : x.asked s m = true := (by simpa using hc6)
      refine aC.seq (aC.region (aB.run II 3 rfl (aB.nil (aC.seq (aC.drawn mixed rfl (aD.run II 2 rfl (aD.c1 rfl (aG (aF rfl) GC rfl (Ea _)) (aD.c2 rfl (db (aF rfl) GD rfl rfl (ug m x.goes (by omega) (by have : x.goes.length ≤ 2 := Ac; omega) H)) ?_))))))))
      refine aD.run II 2 rfl (aD.nil (by kernel_rfl) (Kept.now (aC.seq (aC.region (aB.run II 3 rfl (aB.c1 rfl (aG (aF rfl) GB rfl (CZ s _ x m hsm (fun h => Ga (by simpa using hc6) h))) (aB.run II 1 rfl (aB.nil (aC.seq (aC.seq (aC.region (aB.run II 4 rfl (aB.c1 rfl (tQ (H.next + (aq m.fields x.goes).length) ((aq m.fields x.goes).map ag.av) (aF rfl) GA rfl rfl Hp.cl (qq _) (vJ rfl) (CM s ({ m with fields := (aq m.fields x.goes) } : aU) x (x.comes s (m.aQ x.field)) hsm (by have hwl : (aq m.fields x.goes).length ≤ 10 := Nat.le_trans (List.length_filter_le _ _) hmf; show (aq m.fields x.goes).length ≤ 100; omega) (by show m.ab.length ≤ 100; omega) (by have := @kX s (m.aQ x.field) x; omega)) rfl) ?_)))))))))))))
      refine aB.nil (aC.cond rfl (fun hc8 => ?_) (fun hc8 => ?_))
      ·exact aC.seq (aC.region (aB.run II 3 rfl (aB.nil (aC.ret ⟨.inr rfl, (aE.r2 rfl (.cell eM rfl rfl rfl rfl (.tmp rfl .nil))).cast (by rw [hap, if_neg (by rw [hna]; decide), if_neg (by rw [hask]; decide), if_pos hc8]; rfl), _, rfl, (by show H.next ≤ H.next + _ + 1; omega), fun i hi => Hp.kD hi⟩))))
      ·refine aC.skip (aC.seq (aC.seq (aC.region (aB.run II 1 rfl (aB.nil (aC.blk (aC.aJ (Kept.aH [.s 14, .h, .s 2, .b 2, .s 3, .b 3, .s 4, .b 4, .s 6, .s 10, .b 10, .s 12, .b 12, .s 13] rfl (by decide) (Kept.now (aC.aW (fun (j : Nat) => [(.s 14, .sv (.v (.int .i64 (j : Int)))), (.h, .hp (H.bump (aq m.fields x.goes).length (ae ((nH x (aq m.fields x.goes) j).map ag.av))))]) _ (fun (j : Nat) => True) (fun (j : Nat) => (aq m.fields x.goes).length - j) 0 rfl trivial ?_))))))))))
       rintro j hJ
       have hwl : (aq m.fields x.goes).length ≤ 10 := Nat.le_trans (List.length_filter_le _ _) hmf
       refine aC.seq (aC.seq (aC.region (aB.run II 5 rfl (aB.nil (aC.cond rfl (fun hc9 => ?_) (fun hc9 => ?_))))))
       ·have hj := Hv hc9
        refine aC.skip (aC.seq (aC.blk (aC.drawn mixed rfl (aD.run II 6 rfl (aD.c1 rfl (cM (aF rfl) bQ rfl rfl (Int.natCast_nonneg _) (by omega)) (aD.c1 rfl (ed (aF rfl) jq rfl rfl Hp.cl (qq _) rfl (DA hj)) (aD.run II 1 rfl (aD.c1 rfl (aG (aF rfl) Fz rfl (xm _ x (by omega))) (aD.c1 rfl (cM (aF rfl) bQ rfl rfl (Int.natCast_nonneg _) (by omega)) (aD.c1 rfl (kq jq rfl rfl Hp.cl rfl (qq _) rfl (by rw [List.length_map, we]; exact hj) rfl) ?_))))))))))
        exact aD.nil (by kernel_rfl) (Kept.now (aC.region (aB.run II 3 rfl (aB.kept (Kept.k6 rfl Hp.uH (Kept.aX 14 rfl (inc (by omega)) (Kept.aH [.s 14, .h, .s 2, .b 2, .s 3, .b 3, .s 4, .b 4, .s 6, .s 10, .b 10, .s 12, .b 12, .s 13] rfl (by decide) (Kept.now ⟨j + 1, by omega, trivial, IY hj⟩))))))))
       ·have hj := DL hc9
        refine aC.exit (aC.seq (aC.region (aB.run II 3 rfl (aB.c3 rfl (iF (aF rfl) eY kK rfl rfl Hp.cl (qq _) (by rw [List.length_map, we]) rfl (bW ag.cells (fun _ => rfl) _) rfl (by have hwl : (aq m.fields x.goes).length ≤ 10 := Nat.le_trans (List.length_filter_le _ _) hmf; have := @kX s (m.aQ x.field) x; rw [List.length_map]; omega) (by have hwl : (aq m.fields x.goes).length ≤ 10 := Nat.le_trans (List.length_filter_le _ _) hmf; have := @kX s (m.aQ x.field) x; rw [List.length_map]; omega)) ?_))))
        refine aB.run II 2 rfl (aB.kept (Kept.k6 rfl (show _ = H.bump ((aq m.fields x.goes).length + 1) (ae ((x.dM s m).fields.map ag.av)) from (by rw [Hp.ir, DB hj, ← List.map_append]; rfl)) (Kept.Ai 12 (H.next + ((aq m.fields x.goes).length + 1)) rfl rfl Hp.cl (qq _) (HZ (by show _ = ((aq m.fields x.goes).map x.changed ++ x.comes s (m.aQ x.field)).length; simp)) (Kept.now ?_))))
        refine aC.seq (aC.region (aB.run II 2 rfl (aB.c1 rfl (nU (aF rfl) Bv IA rfl rfl) (aB.run II 2 rfl (aB.kept (Kept.AJ 15 1 150 73 3 rfl rfl rfl rfl (by decide) (Kept.now (aC.seq (aC.seq (aC.region (aB.run II 1 rfl (aB.nil (aC.blk (aC.aJ (Kept.aH [.s 16, .b 15, .t 150, .h, .s 2, .b 2, .s 3, .b 3, .s 4, .b 4, .s 6, .s 10, .b 10, .s 12, .b 12, .s 15] rfl (by decide) (Kept.now (aC.aW (fun (i : Nat) => [(.s 16, .sv (.v (.int .i64 (i : Int)))), (.b 15, .bx [.v (.sl (s.enums.map dP.av)), .ow 150 ((cD s x i0 (x.dM s m) (m.aQ x.field).ref i).map aU.av)]), (.t 150, .tk false 73 3 ((cD s x i0 (x.dM s m) (m.aQ x.field).ref i).map aU.av))]) _ (fun (i : Nat) => True) (fun (i : Nat) => s.msgs.length - i) 0 rfl trivial ?_)))))))))))))))))
        rintro i hI3
        have h6 := hsm.m
        refine aC.seq (aC.seq (aC.region (aB.run II 5 rfl (aB.nil (aC.cond rfl (fun hc10 => ?_) (fun hc10 => ?_))))))
        ·have hi := ch hc10
         refine aC.skip (aC.seq (aC.blk (aC.seq (aC.region (aB.run II 3 rfl (aB.nil (aC.cond rfl (fun hc11 => ?_) (fun hc11 => ?_))))))))
         ·refine aC.region (aB.run II 4 rfl (aB.c3 rfl (aV (aF rfl) fp rfl rfl rfl rfl rfl (by have := @dB s x i0 (x.dM s m) (m.aQ x.field).ref i; have := hsm.m; simp only [List.length_map, List.length_cons, List.length_nil]; omega) (by have := @dB s x i0 (x.dM s m) (m.aQ x.field).ref i; have := hsm.m; simp only [List.length_map, List.length_cons, List.length_nil]; omega)) ?_))
          exact aB.run II 2 rfl (aB.nil (aC.region (aB.run II 3 rfl (aB.kept (Kept.aX 16 rfl (inc (by omega)) (Kept.aH [.s 16, .b 15, .t 129, .h, .s 2, .b 2, .s 3, .b 3, .s 4, .b 4, .s 6, .s 10, .b 10, .s 12, .b 12, .s 15] rfl (by decide) (Kept.cS 129 150 (by decide) rfl (Kept.now ⟨i + 1, by omega, trivial, IX hi (r' := x.dM s m) rfl (by simp only [Bb]; rw [if_pos (by have := of_decide_eq_true hc11; omega)])⟩))))))))
         ·refine aC.seq (aC.drawn mixed rfl (aD.run II 4 rfl (aD.tell (d := 134) rfl (fun hg12 => ?_) (fun hg12 => ?_))))
          ·refine aD.run II 10 rfl (aD.nil (by kernel_rfl) (Kept.now (aC.bG rfl rfl (aC.drawn mixed rfl (aD.run II 5 rfl (aD.c1 rfl (aI (aF rfl) bL rfl rfl (Int.natCast_nonneg _) (bz hi) rfl) (aD.run II 2 rfl (aD.c3 rfl (aV (aF rfl) fp rfl rfl rfl rfl rfl (by have := @dB s x i0 (x.dM s m) (m.aQ x.field).ref i; have := hsm.m; simp only [List.length_map, List.length_cons, List.length_nil]; omega) (by have := @dB s x i0 (x.dM s m) (m.aQ x.field).ref i; have := hsm.m; simp only [List.length_map, List.length_cons, List.length_nil]; omega)) ?_))))))))
           exact aD.run II 2 rfl (aD.nil (by kernel_rfl) (Kept.now (aC.region (aB.run II 3 rfl (aB.kept (Kept.aX 16 rfl (inc (by omega)) (Kept.aH [.s 16, .b 15, .t 153, .h, .s 2, .b 2, .s 3, .b 3, .s 4, .b 4, .s 6, .s 10, .b 10, .s 12, .b 12, .s 15] rfl (by decide) (Kept.cS 153 150 (by decide) rfl (Kept.now ⟨i + 1, by omega, trivial, IX hi (r' := s.msgs[i]) rfl (by simp only [Bb]; rw [if_neg (by have := of_decide_eq_false hc11; omega), if_neg (by have : x.kind ≠ 7 := (by simpa using hg12); exact fun h => this h.1)])⟩)))))))))
          ·refine aD.run II 3 rfl (aD.g1 rfl (aF rfl) rfl rfl (aI (aF rfl) bL rfl rfl (Int.natCast_nonneg _) (bz hi) rfl) (aD.run II 6 rfl (aD.nil (by kernel_rfl) (Kept.now (aC.cond rfl (fun hc13 => ?_) (fun hc13 => ?_))))))
           ·refine aC.drawn mixed rfl (aD.run II 5 rfl (aD.c1 rfl (aI (aF rfl) bL rfl rfl (Int.natCast_nonneg _) (bz hi) rfl) (aD.run II 2 rfl (aD.c3 rfl (aV (aF rfl) fp rfl rfl rfl rfl rfl (by have := @dB s x i0 (x.dM s m) (m.aQ x.field).ref i; have := hsm.m; simp only [List.length_map, List.length_cons, List.length_nil]; omega) (by have := @dB s x i0 (x.dM s m) (m.aQ x.field).ref i; have := hsm.m; simp only [List.length_map, List.length_cons, List.length_nil]; omega)) ?_))))
            exact aD.run II 2 rfl (aD.nil (by kernel_rfl) (Kept.now (aC.region (aB.run II 3 rfl (aB.kept (Kept.aX 16 rfl (inc (by omega)) (Kept.aH [.s 16, .b 15, .t 153, .h, .s 2, .b 2, .s 3, .b 3, .s 4, .b 4, .s 6, .s 10, .b 10, .s 12, .b 12, .s 15] rfl (by decide) (Kept.cS 153 150 (by decide) rfl (Kept.now ⟨i + 1, by omega, trivial, IX hi (r' := s.msgs[i]) rfl (by simp only [Bb]; rw [if_neg (by have := of_decide_eq_false hc11; omega), if_neg (by have : s.msgs[i].name ≠ (m.aQ x.field).ref := (by simpa using hc13); exact fun h => this h.2)])⟩)))))))))
           ·exact aC.skip (aC.region (aB.run II 3 rfl (aB.kept (Kept.aX 16 rfl (inc (by omega)) (Kept.aH [.s 16, .b 15, .t 150, .h, .s 2, .b 2, .s 3, .b 3, .s 4, .b 4, .s 6, .s 10, .b 10, .s 12, .b 12, .s 15] rfl (by decide) (Kept.now (⟨i + 1, by omega, trivial, JE hi (by simp only [Bb]; rw [if_neg (by have := of_decide_eq_false hc11; omega), if_pos ⟨by simpa using hg12, by simpa using hc13⟩])⟩)))))))
        ·have hi := ck hc10
         refine aC.exit (aC.seq (aC.seq (aC.region (aB.run II 3 rfl (aB.nil (aC.cond rfl (fun hc14 => ?_) (fun hc14 => ?_)))))))
         ·refine aC.region (aB.run II 8 rfl (aB.c3 rfl (aV (aF rfl) fp rfl rfl rfl rfl rfl (by have := @dB s x i0 (x.dM s m) (m.aQ x.field).ref i; have := hsm.m; simp only [List.length_map, List.length_cons, List.length_nil]; omega) (by have := @dB s x i0 (x.dM s m) (m.aQ x.field).ref i; have := hsm.m; simp only [List.length_map, List.length_cons, List.length_nil]; omega)) ?_))
          refine aB.run II 2 rfl (aB.nil (aC.seq (aC.region (aB.run II 1 rfl (aB.c1 rfl (aG (aF rfl) BA rfl (xk s.enums _ [{ ja with name := x.dest, fields := [m.aQ x.field] }] (oU hsm hmm (by simp) (by simp [ja])))) (aB.run II 1 rfl (aB.nil (aC.seq (aC.seq (aC.region (aB.run II 1 rfl (aB.c1 rfl (aG (aF rfl) sI rfl (wQ _ (wg (oU hsm hmm (by simp) (by simp [ja]))))) (aB.run II 1 rfl (aB.nil (aC.seq (aC.region (aB.run II 2 rfl (aB.nil ?_))))))))))))))))))
          refine aC.cond rfl (fun hc15 => ?_) (fun hc15 => ?_)
          ·exact aC.seq (aC.region (aB.run II 4 rfl (aB.nil (aC.ret ⟨.inr rfl, (aE.r2 rfl (.cell eM rfl rfl rfl rfl (.tmp rfl .nil))).cast (by rw [hap, if_neg (by rw [hna]; decide), if_neg (by rw [hask]; decide), if_neg (by simpa using hc8), Du hi hm0 (by simpa using hc14), if_pos (by simpa using hc15)]; rfl), _, rfl, (by show H.next ≤ H.next + _ + 1; omega), fun i hi => Hp.lu hi⟩))))
          ·exact aC.skip (aC.seq (aC.region (aB.run II 3 rfl (aB.nil (aC.ret ⟨.inr rfl, (aE.r2 rfl (.cell eM rfl rfl rfl rfl (.tmp rfl .nil))).cast (by rw [hap, if_neg (by rw [hna]; decide), if_neg (by rw [hask]; decide), if_neg (by simpa using hc8), Du hi hm0 (by simpa using hc14), if_neg (by simpa using hc15)]; rfl), _, rfl, (by show H.next ≤ H.next + _ + 1; omega), fun i hi => Hp.lu hi⟩)))))
         ·refine aC.skip (aC.seq (aC.region (aB.run II 1 rfl (aB.c1 rfl (aG (aF rfl) BA rfl (sy ⟨s.enums, (cD s x i0 (x.dM s m) (m.aQ x.field).ref i)⟩ (qf hsm hmm))) (aB.run II 1 rfl (aB.nil (aC.seq (aC.seq (aC.region (aB.run II 1 rfl (aB.c1 rfl (aG (aF rfl) sI rfl (wQ _ (wg (qf hsm hmm)))) (aB.run II 1 rfl (aB.nil (aC.seq (aC.region (aB.run II 2 rfl (aB.nil (aC.cond rfl (fun hc16 => ?_) (fun hc16 => ?_)))))))))))))))))))
          ·exact aC.seq (aC.region (aB.run II 4 rfl (aB.nil (aC.ret ⟨.inr rfl, (aE.r2 rfl (.cell eM rfl rfl rfl rfl (.tmp rfl .nil))).cast (by rw [hap, if_neg (by rw [hna]; decide), if_neg (by rw [hask]; decide), if_neg (by simpa using hc8), Dt hi hm0 (by simpa using hc14), if_pos (by simpa using hc16)]; rfl), _, rfl, (by show H.next ≤ H.next + _ + 1; omega), fun i hi => Hp.lu hi⟩))))
          ·exact aC.skip (aC.seq (aC.region (aB.run II 3 rfl (aB.nil (aC.ret ⟨.inr rfl, (aE.r2 rfl (.cell eM rfl rfl rfl rfl (.tmp rfl .nil))).cast (by rw [hap, if_neg (by rw [hna]; decide), if_neg (by rw [hask]; decide), if_neg (by simpa using hc8), Dt hi hm0 (by simpa using hc14), if_neg (by simpa using hc16)]; rfl), _, rfl, (by show H.next ≤ H.next + _ + 1; omega), fun i hi => Hp.lu hi⟩)))))
/- the document: all schemas of a migration -/
theorem BB : aa Tryz.prog 23 = true := by kernel_rfl
theorem jy : ie Tryz.prog 26 = some 12 := by kernel_rfl
theorem vW : ie Tryz.prog 53 = some 2 := by kernel_rfl
theorem ua : se Tryz.prog 53 = some (25, 2, 48) := by kernel_rfl
theorem Bd : bu Tryz.prog 25 = some [AV.sl [], AV.sl []] := by kernel_rfl
def kH : List aP → aM → Nat → Nat
 | [], _, i => i
 | x :: l, s, i => match s.apply x with
  | .ok t => kH l t (i + 1)
  | .error _ => i
def sS (s : aM) (l : List aP) : Nat := if s.fu ≠ 0 then 0 else if 16 < l.length then 0 else kH l s 0
def Hl (n : Nat) : Except Int (List aM) → AV
 | .ok L => .tup [.sl (L.map aM.av), .int .i64 n, .int .i64 0]
 | .error e => .tup [.sl [], .int .i64 n, .int .i64 e]
structure lE (s : aM) (l : List aP) (i : Nat) (a : List aM) : Prop where
 len : a.length = i + 1
 all : ∃ t, a[i]? = some t ∧ t.fT ∧ aM.dO (l.drop i) t a = aM.dO l s [s] ∧ kH (l.drop i) t i = kH l s 0
theorem lE.start {s : aM} {l : List aP} (h : s.fT) : lE s l 0 [s] := ⟨rfl, s, rfl, h, rfl, rfl⟩
theorem lE.lt {s : aM} {l : List aP} {i : Nat} {a : List aM} (I : lE s l i a) : i < a.length := by rw [I.len]; omega
theorem lE.at {s : aM} {l : List aP} {i : Nat} {a : List aM} (I : lE s l i a) : (a[i]'I.lt).fT ∧ aM.dO (l.drop i) (a[i]'I.lt) a = aM.dO l s [s] ∧ kH (l.drop i) (a[i]'I.lt) i = kH l s 0 := by
 obtain ⟨t, h1, h2, h3, h4⟩ := I.all
 rw [List.getElem?_eq_getElem I.lt] at h1
 cases h1
 exact ⟨h2, h3, h4⟩
theorem yr {s t : aM} {x : aP} (h : s.apply x = .ok t) : t.fT := by
 obtain ⟨m, at_, A⟩ := gg h
 have := A.okT.sm
 exact ⟨by have := this.e; omega, by have := this.m; omega⟩
theorem lE.step {s : aM} {l : List aP} {i : Nat} {a : List aM} (I : lE s l i a) (hi : i < l.length) {t : aM} (h : (a[i]'I.lt).apply l[i] = .ok t) : lE s l (i + 1) (a ++ [t]) := by
 obtain ⟨h2, h3, h4⟩ := I.at
 refine ⟨by simp [I.len], t, by rw [List.getElem?_append_right (by rw [I.len]; omega), I.len]; simp, yr h, ?_, ?_⟩
 ·rw [← h3, List.drop_eq_getElem_cons hi]; simp only [aM.dO, h]
 ·rw [← h4, List.drop_eq_getElem_cons hi]; simp only [kH, h]
theorem lE.bad {s : aM} {l : List aP} {i : Nat} {a : List aM} (I : lE s l i a) (hi : i < l.length) {e : Int} (h : (a[i]'I.lt).apply l[i] = .error e) : aM.dO l s [s] = .error e ∧ kH l s 0 = i := by
 obtain ⟨h2, h3, h4⟩ := I.at
 rw [List.drop_eq_getElem_cons hi] at h3 h4
 simp only [aM.dO, kH, h] at h3 h4
 exact ⟨h3.symm, h4.symm⟩
theorem lE.done {s : aM} {l : List aP} {i : Nat} {a : List aM} (I : lE s l i a) (hi : l.length ≤ i) (hle : i ≤ l.length) : aM.dO l s [s] = .ok a ∧ kH l s 0 = l.length := by
 obtain ⟨h2, h3, h4⟩ := I.at
 rw [List.drop_eq_nil_of_le hi] at h3 h4
 exact ⟨h3.symm, by rw [← h4]; show i = _; omega⟩
theorem ui {s t : aM} {x : aP} (hs : s.fT) (hx : x.fT) (hn : x.names.length ≤ 1000) (h : s.apply x = .ok t) : Pure Tryz.prog 23 [s.av, x.av] (.tup [t.av, .int .i64 0]) := by
 have := wS s x hs hx hn
 rw [h] at this; exact this
theorem uj {s : aM} {x : aP} {e : Int} (hs : s.fT) (hx : x.fT) (hn : x.names.length ≤ 1000) (h : s.apply x = .error e) : Pure Tryz.prog 23 [s.av, x.av] (.tup [.agg [.sl [], .sl []], .int .i64 e]) := by
 have := wS s x hs hx hn
 rw [h] at this; exact this
theorem pa {s : aM} {x : aP} {e : Int} (h : s.apply x = .error e) : e ≠ 0 := by
 unfold aM.apply at h
 split at h
 ·cases h; decide
 ·split at h
  ·cases h; decide
  ·dsimp only at h
   split at h
   ·cases h; decide
   ·split at h
    ·cases h; decide
    ·split at h
     ·cases h; decide
     ·split at h
      ·rename_i hc
       cases h; exact hc
      ·cases h
theorem EL {s : aM} {l : List aP} (h : s.fu ≠ 0) : s.all l = .error s.fu ∧ sS s l = 0 := by unfold aM.all sS; rw [if_pos h, if_pos h]; exact ⟨rfl, rfl⟩
theorem EK {s : aM} {l : List aP} (h : s.fu = 0) (h2 : 16 < l.length) : s.all l = .error 4 ∧ sS s l = 0 := by unfold aM.all sS; simp [h, h2]
theorem xO {s : aM} {l : List aP} (h : s.fu = 0) (h2 : ¬ 16 < l.length) : s.all l = aM.dO l s [s] ∧ sS s l = kH l s 0 := by unfold aM.all sS; simp [h, h2]
theorem Ik {v : CV} {rest : List (aK × CV)} {el esz t : Nat} {a : List aM} {b : AV} {c : aM} (h : b = c.av) : ((aK.s 9, v) :: (aK.s 8, CV.sv (.ow t (a.map aM.av ++ [b]))) :: (aK.t t, CV.tk false el esz (a.map aM.av ++ [b])) :: rest) = [(aK.s 9, v), (aK.s 8, CV.sv (.ow t ((a ++ [c]).map aM.av))), (aK.t t, CV.tk false el esz ((a ++ [c]).map aM.av))] ++ rest := by rw [h, List.map_append]; rfl
theorem Dn (s : aM) (l : List aP) (hs : s.fT) (hb : ∀ x ∈ l, x.fT ∧ x.names.length ≤ 1000) (hl : l.length ≤ 9223372036854775807) : Pure Tryz.prog 17 [s.av, .sl (l.map aP.av)] (Hl (sS s l) (s.all l)) := by
 refine Pure.aN Tryz.func17 rfl rfl (aF rfl) fun H => (aC.seq (aC.region (aB.run II 4 rfl (aB.nil (aC.seq (aC.seq (aC.region (aB.run II 1 rfl (aB.c1 rfl (aG (aF rfl) sI rfl (wQ s hs)) (aB.run II 1 rfl (aB.nil (aC.seq (aC.region (aB.run II 2 rfl (aB.nil (aC.cond rfl (fun hc1 => ?_) (fun hc1 => ?_)))))))))))))))))
 ·exact aC.seq (aC.region (aB.run II 4 rfl (aB.nil (aC.ret ⟨.inr rfl, (aE.r3 rfl (.tmp rfl (.tmp rfl (.tmp rfl .nil)))).cast (by rw [(EL (by simpa using hc1)).1, (EL (by simpa using hc1)).2]; rfl), rfl⟩))))
 ·refine aC.skip (aC.seq (aC.seq (aC.region (aB.run II 3 rfl (aB.nil (aC.cond rfl (fun hc2 => ?_) (fun hc2 => ?_)))))))
  ·exact aC.seq (aC.region (aB.run II 3 rfl (aB.nil (aC.ret ⟨.inr rfl, (aE.r3 rfl (.tmp rfl (.tmp rfl (.tmp rfl .nil)))).cast (by rw [(EK (by simpa using hc1) (by have := of_decide_eq_true hc2; rw [List.length_map] at this; omega)).1, (EK (by simpa using hc1) (by have := of_decide_eq_true hc2; rw [List.length_map] at this; omega)).2]; rfl), rfl⟩))))
  ·refine aC.skip (aC.seq (aC.region (aB.run II 1 rfl (aB.c2 rfl (az («as» := [_]) (aF rfl) ua Bd rfl rfl rfl (ft rfl) rfl) (aB.run II 1 rfl (aB.nil (aC.seq (aC.seq (aC.region (aB.run II 1 rfl (aB.nil (aC.blk (aC.aJ (Kept.aH [.s 9, .s 8, .t 21, .h, .s 1] rfl (by decide) (Kept.now (aC.aW (fun ((i, a) : Nat × List aM) => [(.s 9, .sv (.v (.int .i64 (i : Int)))), (.s 8, .sv (.ow 21 (a.map aM.av))), (.t 21, .tk false 25 2 (a.map aM.av))]) _ (fun ((i, a) : Nat × List aM) => lE s l i a ∧ i ≤ l.length) (fun ((i, a) : Nat × List aM) => l.length - i) (0, [s]) rfl ⟨lE.start hs, Nat.zero_le _⟩ ?_))))))))))))))))
   rintro ⟨i, a⟩ hI
   dsimp only at hI
   have h16 : l.length ≤ 16 := (by have := of_decide_eq_false hc2; rw [List.length_map] at this; omega)
   refine aC.seq (aC.seq (aC.region (aB.run II 4 rfl (aB.nil (aC.cond rfl (fun hc3 => ?_) (fun hc3 => ?_))))))
   ·have hi := ch hc3
    refine aC.skip (aC.seq (aC.blk (aC.seq (aC.drawn mixed rfl (aD.run II 2 rfl (aD.c1 rfl (aI (aF rfl) vW rfl rfl (Int.natCast_nonneg _) (ic (fun _ => rfl) hI.1.lt) rfl) (aD.run II 3 rfl (aD.c1 rfl (aI (aF rfl) jy rfl rfl (Int.natCast_nonneg _) (bz hi) rfl) (aD.run II 1 rfl ?_)))))))))
    cases hp1 : (a[i]'hI.1.lt).apply (l[i]'hi) with
    | ok x1 => 
     refine aD.c1 rfl (aG (aF rfl) BB rfl (ui hI.1.at.1 (hb _ (List.getElem_mem hi)).1 (hb _ (List.getElem_mem hi)).2 hp1)) (aD.run II 6 rfl (aD.nil (by kernel_rfl) (Kept.now (aC.seq (aC.seq (aC.region (aB.run II 2 rfl (aB.nil (aC.cond rfl (fun hc4 => ?_) (fun hc4 => ?_))))))))))
     ·exact aC.seq (aC.region (aB.run II 5 rfl (aB.nil (aC.ret ⟨.inr rfl, (aE.r3 rfl (.tmp rfl (.tmp rfl (.tmp rfl .nil)))).cast (absurd hc4 (by decide)), rfl⟩))))
     ·refine aC.skip (aC.region (aB.run II 3 rfl (aB.c3 rfl (aV (aF rfl) ua rfl rfl rfl rfl rfl (by have := hI.1.len; simp only [List.length_map, List.length_cons, List.length_nil]; omega) (by have := hI.1.len; simp only [List.length_map, List.length_cons, List.length_nil]; omega)) ?_)))
      exact aB.run II 1 rfl (aB.nil (aC.region (aB.run II 3 rfl (aB.kept (Kept.aX 9 rfl (inc (by omega)) (Kept.aH [.s 9, .s 8, .t 47, .h, .s 1] rfl (by decide) (Kept.cS 47 21 (by decide) rfl (Kept.now (⟨(i + 1, a ++ [x1]), by dsimp only; omega, ⟨hI.1.step hi hp1, by omega⟩, Ik rfl⟩)))))))))
    | error e1 => 
     refine aD.c1 rfl (aG (aF rfl) BB rfl (uj hI.1.at.1 (hb _ (List.getElem_mem hi)).1 (hb _ (List.getElem_mem hi)).2 hp1)) (aD.run II 6 rfl (aD.nil (by kernel_rfl) (Kept.now (aC.seq (aC.seq (aC.region (aB.run II 2 rfl (aB.nil (aC.cond rfl (fun hc5 => ?_) (fun hc5 => ?_))))))))))
     ·exact aC.seq (aC.region (aB.run II 5 rfl (aB.nil (aC.ret ⟨.inr rfl, (aE.r3 rfl (.tmp rfl (.tmp rfl (.tmp rfl .nil)))).cast (by rw [(xO (by simpa using hc1) (by omega)).1, (xO (by simpa using hc1) (by omega)).2, (hI.1.bad hi hp1).1, (hI.1.bad hi hp1).2]; rfl), rfl⟩))))
     ·refine aC.skip (aC.region (aB.run II 3 rfl (aB.c3 rfl (aV (aF rfl) ua rfl rfl rfl rfl rfl (by have := hI.1.len; simp only [List.length_map, List.length_cons, List.length_nil]; omega) (by have := hI.1.len; simp only [List.length_map, List.length_cons, List.length_nil]; omega)) ?_)))
      exact aB.run II 1 rfl (aB.nil (aC.region (aB.run II 3 rfl (aB.kept (Kept.aX 9 rfl (inc (by omega)) (Kept.aH [.s 9, .s 8, .t 47, .h, .s 1] rfl (by decide) (Kept.cS 47 21 (by decide) rfl (Kept.now (absurd (by simpa using hc5) (pa hp1))))))))))
   ·have hi := ck hc3
    exact aC.exit (aC.seq (aC.region (aB.run II 6 rfl (aB.nil (aC.ret ⟨.inr rfl, (aE.r3 rfl (.tmp rfl (.tmp rfl (.tmp rfl .nil)))).cast (by rw [(xO (by simpa using hc1) (by omega)).1, (xO (by simpa using hc1) (by omega)).2, (hI.1.done hi hI.2).1, (hI.1.done hi hI.2).2, List.length_map]; rfl), rfl⟩)))))
/- the document: ports, and numbers, of a part -/
theorem xF : aa Tryz.prog 103 = true := by kernel_rfl
theorem cy : ie Tryz.prog 48 = some 9 := by kernel_rfl
theorem A0 : lk Tryz.prog 89 = some (true, 9) := by kernel_rfl
theorem dH : se Tryz.prog 48 = some (89, 9, 88) := by kernel_rfl
theorem fz : bu Tryz.prog 89 = some [AV.str [], AV.int IntKind.i64 (0), AV.int IntKind.i64 (0), AV.str [], AV.bool false, AV.bool false, AV.str [], AV.int IntKind.i64 (0), AV.int IntKind.i64 (0)] := by kernel_rfl
theorem jJ (l : List Port) : ∀ e ∈ l.map Port.av, e.cells.length = 9 := la (bW Port.cells (fun _ => rfl) _)
def yG (name : aw) (x : Port) : Bool := !(x.f.name == name)
theorem za {l : List Port} {n : aw} {i : Nat} (hi : i < l.length) (h : yG n l[i] = true) : ((l.take i).filter (yG n)).map Port.av ++ [l[i].av] = ((l.take (i + 1)).filter (yG n)).map Port.av := by
 rw [List.take_add_one, List.getElem?_eq_getElem hi, List.filter_append]; simp [h]
theorem zb {l : List Port} {n : aw} {i : Nat} (hi : i < l.length) (h : yG n l[i] = false) : ((l.take i).filter (yG n)).map Port.av = ((l.take (i + 1)).filter (yG n)).map Port.av := by
 rw [List.take_add_one, List.getElem?_eq_getElem hi, List.filter_append]; simp [h]
theorem Ge (l : List Port) (a b : Nat) : cK 9 (((l.map Port.av).drop a).take b) = true := by
 rw [← List.map_drop, ← List.map_take]; exact bW Port.cells (fun _ => rfl) _
theorem ry {α : Type} (f : α → AV) {p : α → Bool} {l : List α} {x : α} {j : Int} (hj : j.toNat = l.length - cF p l) :
  ([] ++ (((l.map f).drop (0 : Int).toNat).take (j.toNat - (0 : Int).toNat))) ++ [f x] ++ (((l.map f).drop j.toNat).take (((l.map f).length : Int).toNat - j.toNat)) = (cG p x l).map f := by
 rw [(kW _).1, (kW _).2]
 unfold cG eC
 rw [← hj, List.map_append, List.map_cons, List.map_take, List.map_drop, List.nil_append, List.append_assoc]; rfl
theorem IG {p : Port → Bool} {l : List Port} {j : Int} (hl : l.length ≤ 1000000) (h : nC p l j) (hf : 0 < j) : (l.map Port.av)[(IntKind.i64.wrap (j - 1)).toNat]? = some (.agg (Gg gU l j).cells) := by
 have hn := h.nn
 rw [eS (by omega) (by omega), List.getElem?_map, kZ gU h hf]; rfl
theorem dQ (l : List Port) (x : Port) : (bN l x).length = l.length + 1 := by unfold bN cG; rw [n0]
theorem bH (l : List Port) (n : aw) : (aT l n).length ≤ l.length := List.length_filter_le _ _
theorem lT (l : List Port) (name : aw) (hl : l.length ≤ 1000) : Pure Tryz.prog 25 [.sl (l.map Port.av), .str name] (.int .i64 (bZ l name)) := by
 refine Pure.aN Tryz.func25 rfl rfl (aF rfl) fun H => (aC.seq (aC.region (aB.run II 1 rfl (aB.nil (aC.seq (aC.seq (aC.region (aB.run II 1 rfl (aB.nil (aC.blk (aC.aJ (Kept.aH [.s 5, .h, .s 0, .s 1] rfl (by decide) (Kept.now (aC.aW (fun (i : Nat) => [(.s 5, .sv (.v (.int .i64 (i : Int))))]) _ (fun (i : Nat) => bU (fun x : Port => x.f.name == name) (l.drop i) i = bZ l name) (fun (i : Nat) => l.length - i) 0 rfl (by simp [bZ]) ?_))))))))))))))
 rintro i hI
 refine aC.seq (aC.seq (aC.region (aB.run II 4 rfl (aB.nil (aC.cond rfl (fun hc1 => ?_) (fun hc1 => ?_))))))
 ·have hi := ch hc1
  have hS := cj (p := (fun x : Port => x.f.name == name)) hi
  refine aC.skip (aC.seq (aC.blk (aC.seq (aC.region (aB.run II 2 rfl (aB.c1 rfl (aI (aF rfl) cy rfl rfl (Int.natCast_nonneg _) (bz hi) rfl) (aB.run II 5 rfl (aB.nil (aC.cond rfl (fun hc2 => ?_) (fun hc2 => ?_))))))))))
  ·exact aC.seq (aC.region (aB.run II 2 rfl (aB.nil (aC.ret ⟨.inr rfl, (aE.r1 rfl (.tmp rfl .nil)).cast (congrArg (AV.int .i64) (by grind [bZ])), rfl⟩))))
  ·exact aC.skip (aC.region (aB.run II 3 rfl (aB.kept (Kept.aX 5 rfl (inc (by omega)) (Kept.aH [.s 5, .h, .s 0, .s 1] rfl (by decide) (Kept.now ⟨i + 1, by omega, by grind, rfl⟩))))))
 ·have hi := ck hc1
  have hS := eN (p := (fun x : Port => x.f.name == name)) hi
  exact aC.exit (aC.seq (aC.region (aB.run II 1 rfl (aB.nil (aC.ret ⟨.inr rfl, (aE.r1 rfl (.tmp rfl .nil)).cast (congrArg (AV.int .i64) (by grind [bZ])), rfl⟩)))))
theorem gS (l : List Port) (n : aw) (hl : l.length ≤ 1000) : Pure Tryz.prog 56 [.sl (l.map Port.av), .str n] (.sl ((aT l n).map Port.av)) := by
 refine Pure.aN Tryz.func56 rfl rfl (aF rfl) fun H => (aC.seq (aC.region (aB.run II 1 rfl (aB.nil (aC.seq (aC.region (aB.c2 rfl (az («as» := []) (aF rfl) dH fz rfl rfl rfl (ft rfl) rfl) (aB.run II 1 rfl (aB.nil (aC.seq (aC.seq (aC.region (aB.run II 1 rfl (aB.nil (aC.blk (aC.aJ (Kept.aH [.s 6, .s 5, .t 7, .h, .s 0, .s 1] rfl (by decide) (Kept.now (aC.aW (fun ((i, a) : Nat × List AV) => [(.s 6, .sv (.v (.int .i64 (i : Int)))), (.s 5, .sv (.ow 7 a)), (.t 7, .tk false 89 9 a)]) _ (fun ((i, a) : Nat × List AV) => a = ((l.take i).filter (yG n)).map Port.av) (fun ((i, a) : Nat × List AV) => l.length - i) (0, []) rfl (by simp) ?_)))))))))))))))))))
 rintro ⟨i, a⟩ hI
 refine aC.seq (aC.seq (aC.region (aB.run II 4 rfl (aB.nil (aC.cond rfl (fun hc1 => ?_) (fun hc1 => ?_))))))
 ·have hi := ch hc1
  refine aC.skip (aC.seq (aC.blk (aC.seq (aC.region (aB.run II 2 rfl (aB.c1 rfl (aI (aF rfl) cy rfl rfl (Int.natCast_nonneg _) (bz hi) rfl) (aB.run II 5 rfl (aB.nil (aC.cond rfl (fun hc2 => ?_) (fun hc2 => ?_))))))))))
  ·refine aC.region (aB.run II 3 rfl (aB.c1 rfl (aI (aF rfl) cy rfl rfl (Int.natCast_nonneg _) (bz hi) rfl) (aB.run II 2 rfl (aB.c3 rfl (aV (aF rfl) dH rfl rfl rfl rfl rfl (by rw [hI]; simp only [List.length_map, List.length_cons, List.length_nil]; have h1 := List.length_filter_le (yG n) (l.take i); rw [List.length_take] at h1; omega) (by rw [hI]; simp only [List.length_map, List.length_cons, List.length_nil]; have h1 := List.length_filter_le (yG n) (l.take i); rw [List.length_take] at h1; omega)) ?_))))
   exact aB.run II 1 rfl (aB.nil (aC.region (aB.run II 3 rfl (aB.kept (Kept.aX 6 rfl (inc (by omega)) (Kept.aH [.s 6, .s 5, .t 28, .h, .s 0, .s 1] rfl (by decide) (Kept.cS 28 7 (by decide) rfl (Kept.now ⟨(i + 1, _), by dsimp only; omega, by dsimp only; rw [hI]; first | exact za hi (by simp_all [yG]) | exact zb hi (by simp_all [yG]), rfl⟩))))))))
  ·exact aC.skip (aC.region (aB.run II 3 rfl (aB.kept (Kept.aX 6 rfl (inc (by omega)) (Kept.aH [.s 6, .s 5, .t 7, .h, .s 0, .s 1] rfl (by decide) (Kept.now ⟨(i + 1, _), by dsimp only; omega, by dsimp only; rw [hI]; first | exact za hi (by simp_all [yG]) | exact zb hi (by simp_all [yG]), rfl⟩))))))
 ·have hi := ck hc1
  exact aC.exit (aC.seq (aC.region (aB.run II 2 rfl (aB.nil (aC.ret ⟨.inr rfl, (aE.r1 rfl (.tmp rfl .nil)).cast (congrArg AV.sl (by rw [hI, List.take_of_length_le (by omega)]; rfl)), rfl⟩)))))
theorem gC (l : List Port) (x : Port) (hl : l.length ≤ 1000) : Pure Tryz.prog 54 [.sl (l.map Port.av), x.av] (.sl ((bN l x).map Port.av)) := by
 refine Pure.aN Tryz.func54 rfl rfl (aF rfl) fun H => (aC.seq (aC.region (aB.run II 2 rfl (aB.nil (aC.seq (aC.region (aB.run II 3 rfl (aB.nil (aC.seq (aC.blk (aC.aJ (Kept.aH [.s 5, .h, .s 0, .s 3, .b 3] rfl (by decide) (Kept.now (aC.aW (fun (j : Int) => [(.s 5, .sv (.v (.int .i64 j)))]) _ (fun (j : Int) => nC (fun y : Port => decide (y.f.num > x.f.num)) l j) (fun (j : Int) => j.toNat) ((l.map Port.av).length : Int) rfl (by rw [List.length_map]; exact nC.start) ?_))))))))))))))
 rintro j hJ
 have hnn := hJ.nn
 refine aC.seq (aC.seq (aC.drawn mixed rfl (aD.run II 3 rfl (aD.tell (d := 10) rfl (fun hg1 => ?_) (fun hg1 => ?_)))))
 ·refine aD.run II 3 rfl (aD.g1 rfl (aF rfl) rfl rfl (aI (aF rfl) cy rfl rfl (by have := of_decide_eq_true hg1; rw [eS (by omega) (by omega)]; omega) (IG (by omega) hJ (of_decide_eq_true hg1)) rfl) ?_)
  refine aD.run II 8 rfl (aD.nil (by kernel_rfl) (Kept.now (aC.cond rfl (fun hc2 => ?_) (fun hc2 => ?_))))
  ·exact aC.skip (aC.blk (aC.region (aB.run II 3 rfl (aB.kept (Kept.aH [.s 5, .h, .s 0, .s 3, .b 3] rfl (by decide) (Kept.now ⟨_, by show (IntKind.i64.wrap (j - 1)).toNat < j.toNat; have := of_decide_eq_true hg1; rw [eS (by omega) (by omega)]; omega, by rw [eS (by have := of_decide_eq_true hg1; omega) (by omega)]; exact hJ.step (of_decide_eq_true hg1) (kZ gU hJ (of_decide_eq_true hg1)) hc2, rfl⟩))))))
  ·refine aC.exit (aC.seq (aC.drawn mixed rfl (aD.c2 rfl (az («as» := []) (aF rfl) dH fz rfl rfl rfl (ft rfl) rfl) (aD.run II 2 rfl (aD.c1 rfl (bC (aF rfl) cy rfl (fun e he => by obtain ⟨f, _, rfl⟩ := List.mem_map.1 he; rfl) rfl rfl (by omega) (by first | omega | (rw [List.length_map]; omega)) (by first | omega | (rw [List.length_map]; omega))) ?_)))))
   refine aD.c3 rfl (aV (aF rfl) dH rfl rfl rfl (by first | rfl | exact Ge _ _ _) rfl (by simp only [List.length_append, List.length_map, List.length_take, List.length_drop, List.length_cons, List.length_nil]; omega) (by simp only [List.length_append, List.length_map, List.length_take, List.length_drop, List.length_cons, List.length_nil]; omega)) ?_
   refine aD.run II 2 rfl (aD.c3 rfl (aV (aF rfl) dH rfl rfl rfl (by first | rfl | exact Ge _ _ _) rfl (by simp only [List.length_append, List.length_map, List.length_take, List.length_drop, List.length_cons, List.length_nil]; omega) (by simp only [List.length_append, List.length_map, List.length_take, List.length_drop, List.length_cons, List.length_nil]; omega)) ?_)
   refine aD.run II 2 rfl (aD.c1 rfl (bC (aF rfl) cy rfl (fun e he => by obtain ⟨f, _, rfl⟩ := List.mem_map.1 he; rfl) rfl rfl (by omega) (by first | omega | (rw [List.length_map]; omega)) (by first | omega | (rw [List.length_map]; omega))) ?_)
   refine aD.c3 rfl (aV (aF rfl) dH rfl rfl rfl (by first | rfl | exact Ge _ _ _) rfl (by simp only [List.length_append, List.length_map, List.length_take, List.length_drop, List.length_cons, List.length_nil]; omega) (by simp only [List.length_append, List.length_map, List.length_take, List.length_drop, List.length_cons, List.length_nil]; omega)) ?_
   exact aD.run II 1 rfl (aD.nil (by kernel_rfl) (Kept.now (aC.ret ⟨.inr rfl, (aE.r1 rfl (.tmp rfl .nil)).cast (congrArg AV.sl (ry Port.av (hJ.stop (of_decide_eq_true hg1) (kZ gU hJ (of_decide_eq_true hg1)) hc2))), rfl⟩)))
 ·refine aD.run II 12 rfl (aD.nil (by kernel_rfl) (Kept.now (aC.bR rfl rfl (aC.exit (aC.seq (aC.drawn mixed rfl (aD.c2 rfl (az («as» := []) (aF rfl) dH fz rfl rfl rfl (ft rfl) rfl) (aD.run II 2 rfl (aD.c1 rfl (bC (aF rfl) cy rfl (fun e he => by obtain ⟨f, _, rfl⟩ := List.mem_map.1 he; rfl) rfl rfl (by omega) (by first | omega | (rw [List.length_map]; omega)) (by first | omega | (rw [List.length_map]; omega))) ?_)))))))))
  refine aD.c3 rfl (aV (aF rfl) dH rfl rfl rfl (by first | rfl | exact Ge _ _ _) rfl (by simp only [List.length_append, List.length_map, List.length_take, List.length_drop, List.length_cons, List.length_nil]; omega) (by simp only [List.length_append, List.length_map, List.length_take, List.length_drop, List.length_cons, List.length_nil]; omega)) ?_
  refine aD.run II 2 rfl (aD.c3 rfl (aV (aF rfl) dH rfl rfl rfl (by first | rfl | exact Ge _ _ _) rfl (by simp only [List.length_append, List.length_map, List.length_take, List.length_drop, List.length_cons, List.length_nil]; omega) (by simp only [List.length_append, List.length_map, List.length_take, List.length_drop, List.length_cons, List.length_nil]; omega)) ?_)
  refine aD.run II 2 rfl (aD.c1 rfl (bC (aF rfl) cy rfl (fun e he => by obtain ⟨f, _, rfl⟩ := List.mem_map.1 he; rfl) rfl rfl (by omega) (by first | omega | (rw [List.length_map]; omega)) (by first | omega | (rw [List.length_map]; omega))) ?_)
  refine aD.c3 rfl (aV (aF rfl) dH rfl rfl rfl (by first | rfl | exact Ge _ _ _) rfl (by simp only [List.length_append, List.length_map, List.length_take, List.length_drop, List.length_cons, List.length_nil]; omega) (by simp only [List.length_append, List.length_map, List.length_take, List.length_drop, List.length_cons, List.length_nil]; omega)) ?_
  exact aD.run II 1 rfl (aD.nil (by kernel_rfl) (Kept.now (aC.ret ⟨.inr rfl, (aE.r1 rfl (.tmp rfl .nil)).cast (congrArg AV.sl (ry Port.av (hJ.low (of_decide_eq_false hg1)))), rfl⟩)))
theorem lU (n : aw) (num ty reg : Int) : Pure Tryz.prog 55 [.str n, .int .i64 num, .int .i64 ty, .int .i64 reg] (c4 n num ty reg).av := by
 exact Pure.aN Tryz.func55 rfl rfl (aF rfl) fun H => (aC.seq (aC.region (aB.run II 1 rfl (aB.nil (aC.seq (aC.region (aB.run II 7 rfl (aB.nil (aC.ret ⟨.inr rfl, (aE.r1 rfl (.cell A0 rfl rfl rfl rfl .nil)).cast rfl, rfl⟩)))))))))
theorem zP (t : Int) : Pure Tryz.prog 103 [.int .i64 t] (.tup [.int .i64 (ct t).1, .int .u64 ((ct t).2 : Int), .bool (cW t)]) := by
 refine Pure.aN Tryz.func103 rfl rfl (aF rfl) fun H => (aC.seq (aC.region (aB.run II 3 rfl (aB.nil (aC.seq (aC.seq (aC.region (aB.run II 1 rfl (aB.c1 rfl (aG (aF rfl) va rfl (oG _)) (aB.run II 1 rfl (aB.nil (aC.cond rfl (fun hc1 => ?_) (fun hc1 => ?_)))))))))))))
 ·exact aC.seq (aC.region (aB.run II 3 rfl (aB.nil (aC.ret ⟨.inr rfl, (aE.r3 rfl (.tmp rfl (.tmp rfl (.tmp rfl .nil)))).cast (by simp_all [ct]), rfl⟩))))
 ·refine aC.skip (aC.seq (aC.seq (aC.region (aB.run II 1 rfl (aB.c1 rfl (aG (aF rfl) n5 rfl (nP _)) (aB.run II 1 rfl (aB.tell (d := 10) rfl (fun hg2 => ?_) (fun hg2 => ?_))))))))
  ·refine aB.run II 1 rfl (aB.g1 rfl (aF rfl) rfl rfl (aG (aF rfl) n7 rfl (nO _)) (aB.run II 1 rfl (aB.nil (aC.cond rfl (fun hc3 => ?_) (fun hc3 => ?_)))))
   ·exact aC.seq (aC.region (aB.run II 3 rfl (aB.nil (aC.ret ⟨.inr rfl, (aE.r3 rfl (.tmp rfl (.tmp rfl (.tmp rfl .nil)))).cast (by simp_all [ct]), rfl⟩))))
   ·refine aC.skip (aC.seq (aC.seq (aC.region (aB.run II 1 rfl (aB.c1 rfl (aG (aF rfl) n5 rfl (nP _)) (aB.nil (aC.cond rfl (fun hc4 => ?_) (fun hc4 => ?_))))))))
    ·exact aC.seq (aC.region (aB.run II 3 rfl (aB.nil (aC.ret ⟨.inr rfl, (aE.r3 rfl (.tmp rfl (.tmp rfl (.tmp rfl .nil)))).cast (by simp_all [ct]), rfl⟩))))
    ·refine aC.skip (aC.seq (aC.seq (aC.region (aB.run II 1 rfl (aB.c1 rfl (aG (aF rfl) n7 rfl (nO _)) (aB.nil (aC.cond rfl (fun hc5 => ?_) (fun hc5 => ?_))))))))
     ·exact aC.seq (aC.region (aB.run II 3 rfl (aB.nil (aC.ret ⟨.inr rfl, (aE.r3 rfl (.tmp rfl (.tmp rfl (.tmp rfl .nil)))).cast (by simp_all [ct]), rfl⟩))))
     ·exact aC.skip (aC.seq (aC.region (aB.run II 3 rfl (aB.nil (aC.ret ⟨.inr rfl, (aE.r3 rfl (.tmp rfl (.tmp rfl (.tmp rfl .nil)))).cast (by simp_all [ct]), rfl⟩)))))
  ·refine aB.run II 3 rfl (aB.nil (aC.bR rfl rfl (aC.skip (aC.seq (aC.seq (aC.region (aB.run II 1 rfl (aB.c1 rfl (aG (aF rfl) n5 rfl (nP _)) (aB.nil (aC.cond rfl (fun hc6 => ?_) (fun hc6 => ?_)))))))))))
   ·exact aC.seq (aC.region (aB.run II 3 rfl (aB.nil (aC.ret ⟨.inr rfl, (aE.r3 rfl (.tmp rfl (.tmp rfl (.tmp rfl .nil)))).cast (by simp_all [ct]), rfl⟩))))
   ·refine aC.skip (aC.seq (aC.seq (aC.region (aB.run II 1 rfl (aB.c1 rfl (aG (aF rfl) n7 rfl (nO _)) (aB.nil (aC.cond rfl (fun hc7 => ?_) (fun hc7 => ?_))))))))
    ·exact aC.seq (aC.region (aB.run II 3 rfl (aB.nil (aC.ret ⟨.inr rfl, (aE.r3 rfl (.tmp rfl (.tmp rfl (.tmp rfl .nil)))).cast (by simp_all [ct]), rfl⟩))))
    ·exact aC.skip (aC.seq (aC.region (aB.run II 3 rfl (aB.nil (aC.ret ⟨.inr rfl, (aE.r3 rfl (.tmp rfl (.tmp rfl (.tmp rfl .nil)))).cast (by simp_all [ct]), rfl⟩)))))
theorem E6 (a b : Int) : Pure Tryz.prog 83 [.int .i64 a, .int .i64 b] (.tup [.int .i64 (oj a b).1, .int .u64 ((oj a b).2 : Int)]) := by
 refine Pure.aN Tryz.func83 rfl rfl (aF rfl) fun H => (aC.seq (aC.region (aB.run II 2 rfl (aB.nil (aC.seq (aC.region (aB.run II 1 rfl (aB.c1 rfl (aG (aF rfl) xF rfl (zP _)) (aB.run II 7 rfl (aB.nil (aC.seq (aC.region (aB.run II 1 rfl (aB.c1 rfl (aG (aF rfl) xF rfl (zP _)) (aB.run II 7 rfl (aB.nil (aC.seq (aC.region ?_))))))))))))))))))
 exact aB.run II 2 rfl (aB.c1 rfl (nS (aF rfl) rfl rfl) (aB.run II 2 rfl (aB.c1 rfl (wZ (aF rfl) rfl rfl) (aB.run II 2 rfl (aB.nil (aC.ret ⟨.inr rfl, (aE.r2 rfl (.tmp rfl (.tmp rfl .nil))).cast (by unfold oj; simp; try omega), rfl⟩))))))
/- the document: all numbers that a part had -/
theorem eL : lk Tryz.prog 52 = some (true, 7) := by kernel_rfl
def da (p : aR) (o : AV) : AV := .agg [.str p.name, .sl (p.ins.map Port.av), o, .sl (p.outs.map Port.av), .int .i64 p.regs, .sl (p.ever.map dL), .bool p.born]
def tz (p : aR) (i : Nat) : List Int := (p.outs.take i).foldl (fun l x => eH l x.f.num) p.ever
theorem im {p : aR} {i : Nat} (hi : i < p.outs.length) : tz p (i + 1) = eH (tz p i) p.outs[i].f.num := by
 unfold tz
 rw [List.take_add_one, List.getElem?_eq_getElem hi, List.foldl_append]; rfl
theorem tr {l : List Int} {n : Int} : (eH l n).length ≤ l.length + 1 := by
 unfold eH
 dsimp only
 split
 ·omega
 ·rw [n0]; omega
theorem n9 (p : aR) (i : Nat) : (tz p i).length ≤ p.ever.length + p.outs.length := by
 have h : ∀ (l : List Port) (a : List Int), (l.foldl (fun l x => eH l x.f.num) a).length ≤ a.length + l.length := by
  intro l
  induction l with
  | nil => intro a; simp
  | cons x l ih =>
   intro a
   rw [List.foldl_cons]
   have := ih (eH a x.f.num)
   have := @tr a x.f.num
   rw [List.length_cons]; omega
 have := h (p.outs.take i) p.ever
 rw [List.length_take] at this
 unfold tz; omega
theorem gz {l : List Int} {n : Int} {j : Int} (hj : j.toNat = l.length - cF (fun y => decide (y ≥ n)) l) (h : l[j.toNat]? ≠ some n) :
  ([] ++ (((l.map dL).drop (0 : Int).toNat).take (j.toNat - (0 : Int).toNat))) ++ [AV.int .i64 n] ++ (((l.map dL).drop j.toNat).take (((l.map dL).length : Int).toNat - j.toNat)) = (eH l n).map dL := by
 have e : eH l n = cG (fun y => decide (y ≥ n)) n l := by
  unfold eH cG
  dsimp only
  rw [if_neg (by rw [← hj]; exact h)]
 rw [e]
 exact ry dL hj
theorem pC {l : List Int} {n : Int} {j : Int} (hj : j.toNat = l.length - cF (fun y => decide (y ≥ n)) l) (h : l[j.toNat]? = some n) : eH l n = l := by
 unfold eH
 dsimp only
 rw [if_pos (by rw [← hj]; exact h)]
theorem Gf {v : CV} {rest : List (aK × CV)} {el esz t : Nat} {a b : List AV} (h : a = b) : ((aK.s 4, v) :: (aK.s 3, CV.sv (.ow t a)) :: (aK.t t, CV.tk false el esz a) :: rest) = [(aK.s 4, v), (aK.s 3, CV.sv (.ow t b)), (aK.t t, CV.tk false el esz b)] ++ rest := by rw [h]; rfl
theorem BK {l : List Int} {j : Int} (h0 : 0 ≤ j) (h : (j == ((l.map dL).length : Int)) = true) {n : Int} : l[j.toNat]? ≠ some n := by
 have := eq_of_beq h
 rw [List.length_map] at this
 rw [List.getElem?_eq_none (by omega)]; simp
theorem qu {l : List Int} {j : Int} (h0 : 0 ≤ j) (h1 : j ≤ (l.length : Int)) (h : (j == ((l.map dL).length : Int)) = false) : l[j.toNat]? = some (l.getD j.toNat 0) := by
 have : j ≠ ((l.map dL).length : Int) := fun e => by rw [e] at h; simp at h
 rw [List.length_map] at this
 rw [List.getD_eq_getElem?_getD, List.getElem?_eq_getElem (show j.toNat < l.length by omega)]; rfl
theorem uh (p : aR) (o : AV) (ho : p.outs.length ≤ 1000) (he : p.ever.length ≤ 100000) : Pure Tryz.prog 27 [da p o] (da (bV p) o) := by
 refine Pure.aN Tryz.func27 rfl rfl (aF rfl) fun H => (aC.seq (aC.region (aB.run II 2 rfl (aB.nil (aC.seq (aC.region (aB.c2 rfl (az («as» := []) (aF rfl) bK dm rfl rfl rfl (ft rfl) rfl) (aB.run II 2 rfl (aB.c3 rfl (aV (aF rfl) bK rfl rfl rfl (by first | rfl | exact nF _ _ _ | exact bf .i64 id _) rfl (by simp only [List.length_append, List.length_map, List.length_take, List.length_drop, List.length_cons, List.length_nil]; omega) (by simp only [List.length_append, List.length_map, List.length_take, List.length_drop, List.length_cons, List.length_nil]; omega)) ?_)))))))))
 refine aB.run II 1 rfl (aB.nil (aC.seq (aC.seq (aC.region (aB.run II 1 rfl (aB.nil (aC.blk (aC.aJ (Kept.aH [.s 4, .s 3, .t 10, .h, .s 1, .b 1, .s 2, .b 2] rfl (by decide) (Kept.now (aC.aW (fun (i : Nat) => [(.s 4, .sv (.v (.int .i64 (i : Int)))), (.s 3, .sv (.ow 10 ((tz p i).map dL))), (.t 10, .tk false 3 1 ((tz p i).map dL))]) _ (fun (i : Nat) => True) (fun (i : Nat) => p.outs.length - i) 0 rfl trivial ?_)))))))))))
 rintro i hI
 have hEl := n9 p i
 refine aC.seq (aC.seq (aC.region (aB.run II 5 rfl (aB.nil (aC.cond rfl (fun hc1 => ?_) (fun hc1 => ?_))))))
 ·have hi := ch hc1
  refine aC.skip (aC.seq (aC.blk (aC.seq (aC.region (aB.run II 3 rfl (aB.c1 rfl (aI (aF rfl) cy rfl rfl (Int.natCast_nonneg _) (bz hi) rfl) (aB.run II 4 rfl (aB.nil (aC.seq (aC.region (aB.run II 3 rfl (aB.nil (aC.seq (aC.blk (aC.aJ (Kept.aH [.s 6, .h, .s 1, .b 1, .s 2, .b 2, .s 3, .t 10, .s 4, .s 5] rfl (by decide) (Kept.now (aC.aW (fun (j : Int) => [(.s 6, .sv (.v (.int .i64 j)))]) _ (fun (j : Int) => nC (fun y : Int => decide (y ≥ (p.outs[i]'hi).f.num)) (tz p i) j) (fun (j : Int) => j.toNat) (((tz p i).map dL).length : Int) rfl (by rw [List.length_map]; exact nC.start) ?_))))))))))))))))))
  rintro j hJ
  have hnn := hJ.nn
  refine aC.seq (aC.seq (aC.region (aB.run II 3 rfl (aB.tell (d := 29) rfl (fun hg2 => ?_) (fun hg2 => ?_)))))
  ·refine aB.run II 3 rfl (aB.g1 rfl (aF rfl) rfl rfl (aI (aF rfl) cA rfl rfl (by have := of_decide_eq_true hg2; rw [eS (by omega) (by omega)]; omega) (Gn (by omega) hJ (of_decide_eq_true hg2)) rfl) ?_)
   refine aB.run II 4 rfl (aB.nil (aC.cond rfl (fun hc3 => ?_) (fun hc3 => ?_)))
   ·exact aC.skip (aC.blk (aC.region (aB.run II 3 rfl (aB.kept (Kept.aH [.s 6, .h, .s 1, .b 1, .s 2, .b 2, .s 3, .t 10, .s 4, .s 5] rfl (by decide) (Kept.now ⟨_, by show (IntKind.i64.wrap (j - 1)).toNat < j.toNat; have := of_decide_eq_true hg2; rw [eS (by omega) (by omega)]; omega, by rw [eS (by have := of_decide_eq_true hg2; omega) (by omega)]; exact hJ.step (of_decide_eq_true hg2) (kZ 0 hJ (of_decide_eq_true hg2)) hc3, rfl⟩))))))
   ·refine aC.exit (aC.seq (aC.region (aB.run II 5 rfl (aB.tell (d := 44) rfl (fun hg4 => ?_) (fun hg4 => ?_)))))
    ·refine aB.run II 7 rfl (aB.nil (aC.bG rfl rfl (aC.drawn mixed rfl (aD.c2 rfl (az («as» := []) (aF rfl) bK dm rfl rfl rfl (ft rfl) rfl) (aD.run II 2 rfl (aD.c1 rfl (bC (aF rfl) cA rfl (fun e he => by obtain ⟨f, _, rfl⟩ := List.mem_map.1 he; rfl) rfl rfl (by omega) (by first | omega | (rw [List.length_map]; omega)) (by first | omega | (rw [List.length_map]; omega))) ?_))))))
     refine aD.c3 rfl (aV (aF rfl) bK rfl rfl rfl (by first | rfl | exact nF _ _ _ | exact bf .i64 id _) rfl (by simp only [List.length_append, List.length_map, List.length_take, List.length_drop, List.length_cons, List.length_nil]; omega) (by simp only [List.length_append, List.length_map, List.length_take, List.length_drop, List.length_cons, List.length_nil]; omega)) ?_
     refine aD.run II 2 rfl (aD.c3 rfl (aV (aF rfl) bK rfl rfl rfl (by first | rfl | exact nF _ _ _ | exact bf .i64 id _) rfl (by simp only [List.length_append, List.length_map, List.length_take, List.length_drop, List.length_cons, List.length_nil]; omega) (by simp only [List.length_append, List.length_map, List.length_take, List.length_drop, List.length_cons, List.length_nil]; omega)) ?_)
     refine aD.run II 2 rfl (aD.c1 rfl (bC (aF rfl) cA rfl (fun e he => by obtain ⟨f, _, rfl⟩ := List.mem_map.1 he; rfl) rfl rfl (by omega) (by first | omega | (rw [List.length_map]; omega)) (by first | omega | (rw [List.length_map]; omega))) ?_)
     refine aD.c3 rfl (aV (aF rfl) bK rfl rfl rfl (by first | rfl | exact nF _ _ _ | exact bf .i64 id _) rfl (by simp only [List.length_append, List.length_map, List.length_take, List.length_drop, List.length_cons, List.length_nil]; omega) (by simp only [List.length_append, List.length_map, List.length_take, List.length_drop, List.length_cons, List.length_nil]; omega)) ?_
     exact aD.run II 1 rfl (aD.nil (by kernel_rfl) (Kept.now (aC.region (aB.run II 3 rfl (aB.kept (Kept.aX 4 rfl (inc (by omega)) (Kept.aH [.s 4, .s 3, .t 63, .h, .s 1, .b 1, .s 2, .b 2] rfl (by decide) (Kept.cS 63 10 (by decide) rfl (Kept.now ⟨i + 1, by omega, trivial, Gf (by rw [im hi]; exact gz (hJ.stop (of_decide_eq_true hg2) (kZ 0 hJ (of_decide_eq_true hg2)) hc3) (BK hnn.1 hg4))⟩)))))))))
    ·refine aB.run II 2 rfl (aB.g1 rfl (aF rfl) rfl rfl (aI (aF rfl) cA rfl rfl hnn.1 (by rw [List.getElem?_map, qu hnn.1 hnn.2 hg4]; rfl) rfl) ?_)
     refine aB.run II 4 rfl (aB.nil (aC.cond rfl (fun hc5 => ?_) (fun hc5 => ?_)))
     ·refine aC.drawn mixed rfl (aD.c2 rfl (az («as» := []) (aF rfl) bK dm rfl rfl rfl (ft rfl) rfl) (aD.run II 2 rfl (aD.c1 rfl (bC (aF rfl) cA rfl (fun e he => by obtain ⟨f, _, rfl⟩ := List.mem_map.1 he; rfl) rfl rfl (by omega) (by first | omega | (rw [List.length_map]; omega)) (by first | omega | (rw [List.length_map]; omega))) ?_)))
      refine aD.c3 rfl (aV (aF rfl) bK rfl rfl rfl (by first | rfl | exact nF _ _ _ | exact bf .i64 id _) rfl (by simp only [List.length_append, List.length_map, List.length_take, List.length_drop, List.length_cons, List.length_nil]; omega) (by simp only [List.length_append, List.length_map, List.length_take, List.length_drop, List.length_cons, List.length_nil]; omega)) ?_
      refine aD.run II 2 rfl (aD.c3 rfl (aV (aF rfl) bK rfl rfl rfl (by first | rfl | exact nF _ _ _ | exact bf .i64 id _) rfl (by simp only [List.length_append, List.length_map, List.length_take, List.length_drop, List.length_cons, List.length_nil]; omega) (by simp only [List.length_append, List.length_map, List.length_take, List.length_drop, List.length_cons, List.length_nil]; omega)) ?_)
      refine aD.run II 2 rfl (aD.c1 rfl (bC (aF rfl) cA rfl (fun e he => by obtain ⟨f, _, rfl⟩ := List.mem_map.1 he; rfl) rfl rfl (by omega) (by first | omega | (rw [List.length_map]; omega)) (by first | omega | (rw [List.length_map]; omega))) ?_)
      refine aD.c3 rfl (aV (aF rfl) bK rfl rfl rfl (by first | rfl | exact nF _ _ _ | exact bf .i64 id _) rfl (by simp only [List.length_append, List.length_map, List.length_take, List.length_drop, List.length_cons, List.length_nil]; omega) (by simp only [List.length_append, List.length_map, List.length_take, List.length_drop, List.length_cons, List.length_nil]; omega)) ?_
      exact aD.run II 1 rfl (aD.nil (by kernel_rfl) (Kept.now (aC.region (aB.run II 3 rfl (aB.kept (Kept.aX 4 rfl (inc (by omega)) (Kept.aH [.s 4, .s 3, .t 63, .h, .s 1, .b 1, .s 2, .b 2] rfl (by decide) (Kept.cS 63 10 (by decide) rfl (Kept.now ⟨i + 1, by omega, trivial, Gf (by rw [im hi]; exact gz (hJ.stop (of_decide_eq_true hg2) (kZ 0 hJ (of_decide_eq_true hg2)) hc3) (by rw [qu hnn.1 hnn.2 hg4]; intro e; have := Option.some.inj e; simp_all))⟩)))))))))
     ·exact aC.skip (aC.region (aB.run II 3 rfl (aB.kept (Kept.aX 4 rfl (inc (by omega)) (Kept.aH [.s 4, .s 3, .t 10, .h, .s 1, .b 1, .s 2, .b 2] rfl (by decide) (Kept.now ⟨i + 1, by omega, trivial, Gf (by rw [im hi, pC (hJ.stop (of_decide_eq_true hg2) (kZ 0 hJ (of_decide_eq_true hg2)) hc3) (by rw [qu hnn.1 hnn.2 hg4]; simp_all)])⟩))))))
  ·refine aB.run II 8 rfl (aB.nil (aC.bR rfl rfl (aC.exit (aC.seq (aC.region (aB.run II 5 rfl (aB.tell (d := 44) rfl (fun hg6 => ?_) (fun hg6 => ?_))))))))
   ·refine aB.run II 7 rfl (aB.nil (aC.bG rfl rfl (aC.drawn mixed rfl (aD.c2 rfl (az («as» := []) (aF rfl) bK dm rfl rfl rfl (ft rfl) rfl) (aD.run II 2 rfl (aD.c1 rfl (bC (aF rfl) cA rfl (fun e he => by obtain ⟨f, _, rfl⟩ := List.mem_map.1 he; rfl) rfl rfl (by omega) (by first | omega | (rw [List.length_map]; omega)) (by first | omega | (rw [List.length_map]; omega))) ?_))))))
    refine aD.c3 rfl (aV (aF rfl) bK rfl rfl rfl (by first | rfl | exact nF _ _ _ | exact bf .i64 id _) rfl (by simp only [List.length_append, List.length_map, List.length_take, List.length_drop, List.length_cons, List.length_nil]; omega) (by simp only [List.length_append, List.length_map, List.length_take, List.length_drop, List.length_cons, List.length_nil]; omega)) ?_
    refine aD.run II 2 rfl (aD.c3 rfl (aV (aF rfl) bK rfl rfl rfl (by first | rfl | exact nF _ _ _ | exact bf .i64 id _) rfl (by simp only [List.length_append, List.length_map, List.length_take, List.length_drop, List.length_cons, List.length_nil]; omega) (by simp only [List.length_append, List.length_map, List.length_take, List.length_drop, List.length_cons, List.length_nil]; omega)) ?_)
    refine aD.run II 2 rfl (aD.c1 rfl (bC (aF rfl) cA rfl (fun e he => by obtain ⟨f, _, rfl⟩ := List.mem_map.1 he; rfl) rfl rfl (by omega) (by first | omega | (rw [List.length_map]; omega)) (by first | omega | (rw [List.length_map]; omega))) ?_)
    refine aD.c3 rfl (aV (aF rfl) bK rfl rfl rfl (by first | rfl | exact nF _ _ _ | exact bf .i64 id _) rfl (by simp only [List.length_append, List.length_map, List.length_take, List.length_drop, List.length_cons, List.length_nil]; omega) (by simp only [List.length_append, List.length_map, List.length_take, List.length_drop, List.length_cons, List.length_nil]; omega)) ?_
    exact aD.run II 1 rfl (aD.nil (by kernel_rfl) (Kept.now (aC.region (aB.run II 3 rfl (aB.kept (Kept.aX 4 rfl (inc (by omega)) (Kept.aH [.s 4, .s 3, .t 63, .h, .s 1, .b 1, .s 2, .b 2] rfl (by decide) (Kept.cS 63 10 (by decide) rfl (Kept.now ⟨i + 1, by omega, trivial, Gf (by rw [im hi]; exact gz (hJ.low (of_decide_eq_false hg2)) (BK hnn.1 hg6))⟩)))))))))
   ·refine aB.run II 2 rfl (aB.g1 rfl (aF rfl) rfl rfl (aI (aF rfl) cA rfl rfl hnn.1 (by rw [List.getElem?_map, qu hnn.1 hnn.2 hg6]; rfl) rfl) ?_)
    refine aB.run II 4 rfl (aB.nil (aC.cond rfl (fun hc7 => ?_) (fun hc7 => ?_)))
    ·refine aC.drawn mixed rfl (aD.c2 rfl (az («as» := []) (aF rfl) bK dm rfl rfl rfl (ft rfl) rfl) (aD.run II 2 rfl (aD.c1 rfl (bC (aF rfl) cA rfl (fun e he => by obtain ⟨f, _, rfl⟩ := List.mem_map.1 he; rfl) rfl rfl (by omega) (by first | omega | (rw [List.length_map]; omega)) (by first | omega | (rw [List.length_map]; omega))) ?_)))
     refine aD.c3 rfl (aV (aF rfl) bK rfl rfl rfl (by first | rfl | exact nF _ _ _ | exact bf .i64 id _) rfl (by simp only [List.length_append, List.length_map, List.length_take, List.length_drop, List.length_cons, List.length_nil]; omega) (by simp only [List.length_append, List.length_map, List.length_take, List.length_drop, List.length_cons, List.length_nil]; omega)) ?_
     refine aD.run II 2 rfl (aD.c3 rfl (aV (aF rfl) bK rfl rfl rfl (by first | rfl | exact nF _ _ _ | exact bf .i64 id _) rfl (by simp only [List.length_append, List.length_map, List.length_take, List.length_drop, List.length_cons, List.length_nil]; omega) (by simp only [List.length_append, List.length_map, List.length_take, List.length_drop, List.length_cons, List.length_nil]; omega)) ?_)
     refine aD.run II 2 rfl (aD.c1 rfl (bC (aF rfl) cA rfl (fun e he => by obtain ⟨f, _, rfl⟩ := List.mem_map.1 he; rfl) rfl rfl (by omega) (by first | omega | (rw [List.length_map]; omega)) (by first | omega | (rw [List.length_map]; omega))) ?_)
     refine aD.c3 rfl (aV (aF rfl) bK rfl rfl rfl (by first | rfl | exact nF _ _ _ | exact bf .i64 id _) rfl (by simp only [List.length_append, List.length_map, List.length_take, List.length_drop, List.length_cons, List.length_nil]; omega) (by simp only [List.length_append, List.length_map, List.length_take, List.length_drop, List.length_cons, List.length_nil]; omega)) ?_
     exact aD.run II 1 rfl (aD.nil (by kernel_rfl) (Kept.now (aC.region (aB.run II 3 rfl (aB.kept (Kept.aX 4 rfl (inc (by omega)) (Kept.aH [.s 4, .s 3, .t 63, .h, .s 1, .b 1, .s 2, .b 2] rfl (by decide) (Kept.cS 63 10 (by decide) rfl (Kept.now ⟨i + 1, by omega, trivial, Gf (by rw [im hi]; exact gz (hJ.low (of_decide_eq_false hg2)) (by rw [qu hnn.1 hnn.2 hg6]; intro e; have := Option.some.inj e; simp_all))⟩)))))))))
    ·exact aC.skip (aC.region (aB.run II 3 rfl (aB.kept (Kept.aX 4 rfl (inc (by omega)) (Kept.aH [.s 4, .s 3, .t 10, .h, .s 1, .b 1, .s 2, .b 2] rfl (by decide) (Kept.now ⟨i + 1, by omega, trivial, Gf (by rw [im hi, pC (hJ.low (of_decide_eq_false hg2)) (by rw [qu hnn.1 hnn.2 hg6]; simp_all)])⟩))))))
 ·have hi := ck hc1
  exact aC.exit (aC.seq (aC.region (aB.run II 3 rfl (aB.nil (aC.seq (aC.region (aB.run II 2 rfl (aB.nil (aC.ret ⟨.inr rfl, (aE.r1 rfl (.cell eL rfl rfl rfl rfl .nil)).cast (by have e : tz p i = (bV p).ever := (by unfold tz; rw [List.take_of_length_le hi]; rfl); rw [e]; rfl), rfl⟩)))))))))
/- the document: the parts of a schema -/
theorem vd : aa Tryz.prog 27 = true := by kernel_rfl
theorem km : se Tryz.prog 31 = some (52, 7, 128) := by kernel_rfl
theorem wL : Bw Tryz.prog 52 = some [(0, 1), (1, 1), (2, 1), (3, 1), (4, 1), (5, 1), (6, 1)] := by kernel_rfl
theorem iz : bu Tryz.prog 52 = some [AV.str [], AV.sl [], AV.sl [], AV.sl [], AV.int IntKind.i64 (0), AV.sl [], AV.bool false] := by kernel_rfl
theorem Gk : qH Tryz.prog 52 = some [.str [], .nsl, .nsl, .nsl, .int .i64 0, .nsl, .bool false] := by kernel_rfl
def j1 (p : aR) : AV := da p .nsl
theorem wT (l : List aR) : ∀ e ∈ l.map j1, e.cells.length = 7 := fun e he => by
 obtain ⟨p, _, rfl⟩ := List.mem_map.1 he; rfl
def cp (s : aM) (m : aU) (k : Nat) : List Port := (m.fields.zipIdx.take k).map fun (f, k) => jK s f k
theorem tG {s : aM} {m : aU} {k : Nat} : (cp s m k).length ≤ m.fields.length := by unfold cp; simp; omega
theorem r9 {s : aM} {m : aU} {k : Nat} (hk : k < m.fields.length) : cp s m (k + 1) = cp s m k ++ [jK s m.fields[k] k] := by
 unfold cp
 have : m.fields.zipIdx[k]? = some (m.fields[k], k) := by simp [List.getElem?_zipIdx, hk]
 rw [List.take_add_one, this, List.map_append]; rfl
theorem tH {s : aM} {m : aU} {k : Nat} (hk : m.fields.length ≤ k) : cp s m k = bM s m := by
 unfold cp bM; rw [List.take_of_length_le (by simpa using hk)]
def jl (s : aM) (m : aU) : aR := { bY with name := m.name, ins := bM s m, outs := bM s m, regs := m.fields.length }
def Bc (s : aM) (i : Nat) : List aR := (s.msgs.take i).map fun m => bV (jl s m)
theorem BV {s : aM} {i : Nat} (hi : i < s.msgs.length) : Bc s (i + 1) = Bc s i ++ [bV (jl s s.msgs[i])] := by
 unfold Bc; rw [List.take_add_one, List.getElem?_eq_getElem hi, List.map_append]; rfl
theorem D2 {s : aM} {i : Nat} (hi : s.msgs.length ≤ i) : Bc s i = bb s := by
 unfold Bc; rw [List.take_of_length_le hi]; rfl
theorem D1 {s : aM} {i : Nat} (hi : i ≤ s.msgs.length) : (Bc s i).length = i := by unfold Bc; simp; omega
theorem JM {s : aM} {i n : Nat} {v : CV} {rest : List (aK × CV)} {H : Hp} (hi : i < s.msgs.length) {a : AV} (ha : a = j1 (bV (jl s s.msgs[i]))) : ((aK.s 4, v) :: (aK.s 3, CV.sv (.v (.os n (i + 1) 7))) :: (aK.h, CV.hp (H.bump (i + 1) (ae ((Bc s i).map j1 ++ [a])))) :: rest) = [(aK.s 4, v), (aK.s 3, CV.sv (.v (.os n (i + 1) 7))), (aK.h, CV.hp (H.bump (i + 1) (ae ((Bc s (i + 1)).map j1))))] ++ rest := by rw [BV hi, ha, List.map_append]; rfl
theorem JK {v : CV} {a b c d e f : Sv} {rest : List (aK × CV)} {el esz t : Nat} {s : aM} {m : aU} {k : Nat} (hk : k < m.fields.length) {x : AV} (hx : x = (jK s m.fields[k] k).av) : ((aK.s 7, v) :: (aK.b 6, CV.bx [a, .ow t ((cp s m k).map Port.av ++ [x]), b, c, d, e, f]) :: (aK.t t, CV.tk false el esz ((cp s m k).map Port.av ++ [x])) :: rest) = [(aK.s 7, v), (aK.b 6, CV.bx [a, .ow t ((cp s m (k + 1)).map Port.av), b, c, d, e, f]), (aK.t t, CV.tk false el esz ((cp s m (k + 1)).map Port.av))] ++ rest := by
 rw [r9 hk, hx, List.map_append]; rfl
theorem C1 (s : aM) (hs : s.sm) (H : Hp) : dW Tryz.prog 24 [s.av] H (.os (H.next + s.msgs.length) s.msgs.length 7) (H.bump s.msgs.length (ae ((bb s).map j1))) := by
 have hsm := hs.m
 refine dW.fin fun hfin => (dW.aN Tryz.func24 rfl rfl (aF rfl) (aC.seq (aC.region (aB.run II 2 rfl (aB.nil (aC.seq (aC.region (aB.c3 rfl (gw («as» := []) (aF rfl) km iz rfl rfl rfl (ft rfl) rfl rfl) (aB.run II 1 rfl (aB.nil (aC.seq (aC.seq (aC.aJ (Kept.k6 rfl (Hp.lb hfin) (Kept.now (aC.region (aB.run II 1 rfl (aB.nil (aC.blk ?_)))))))))))))))))))
 refine aC.aJ (Kept.aH [.s 4, .s 3, .h, .s 1, .b 1] rfl (by decide) (Kept.now (aC.aW (fun (i : Nat) => [(.s 4, .sv (.v (.int .i64 (i : Int)))), (.s 3, .sv (.v (.os (H.next + i) i 7))), (.h, .hp (H.bump i (ae ((Bc s i).map j1))))]) _ (fun (i : Nat) => i ≤ s.msgs.length) (fun (i : Nat) => s.msgs.length - i) 0 rfl (Nat.zero_le _) ?_)))
 rintro i hI
 refine aC.seq (aC.seq (aC.region (aB.run II 5 rfl (aB.nil (aC.cond rfl (fun hc1 => ?_) (fun hc1 => ?_))))))
 ·have hi := ch hc1
  refine aC.skip (aC.seq (aC.blk (aC.seq (aC.region (aB.run II 3 rfl (aB.c1 rfl (aI (aF rfl) bL rfl rfl (Int.natCast_nonneg _) (bz hi) rfl) (aB.run II 3 rfl (aB.nil (aC.seq (aC.region (aB.run II 5 rfl (aB.c1 rfl (nU (aF rfl) wL Gk rfl rfl) (aB.run II 2 rfl (aB.kept (Kept.AJ 6 1 160 89 9 rfl rfl rfl rfl (by decide) (Kept.AI 6 3 rfl rfl (Kept.AI 6 5 rfl rfl (Kept.now (aC.seq (aC.seq (aC.region (aB.run II 1 rfl (aB.nil (aC.blk ?_))))))))))))))))))))))))
  refine aC.aJ (Kept.aH [.s 7, .b 6, .t 160, .h, .s 1, .b 1, .s 3, .s 4, .s 5, .b 5, .s 6] rfl (by decide) (Kept.now (aC.aW (fun (k : Nat) => [(.s 7, .sv (.v (.int .i64 (k : Int)))), (.b 6, .bx [.v (.str (s.msgs[i]'hi).name), .ow 160 ((cp s (s.msgs[i]'hi) k).map Port.av), .v .nsl, .v (.sl []), .v (.int .i64 (((s.msgs[i]'hi).fields.map ag.av).length : Int)), .v (.sl []), .v (.bool false)]), (.t 160, .tk false 89 9 ((cp s (s.msgs[i]'hi) k).map Port.av))]) _ (fun (k : Nat) => True) (fun (k : Nat) => (s.msgs[i]'hi).fields.length - k) 0 rfl trivial ?_)))
  rintro k hK
  have hpl := @tG s (s.msgs[i]'hi) k
  have hfi := hs.f _ (List.getElem_mem hi)
  refine aC.seq (aC.seq (aC.region (aB.run II 5 rfl (aB.nil (aC.cond rfl (fun hc2 => ?_) (fun hc2 => ?_))))))
  ·have hk := ch hc2
   refine aC.skip (aC.seq (aC.blk (aC.seq (aC.region (aB.run II 3 rfl (aB.c1 rfl (aI (aF rfl) bQ rfl rfl (Int.natCast_nonneg _) (bz hk) rfl) (aB.run II 5 rfl (aB.nil (aC.c8 [.h, .s 1, .b 1, .s 3, .s 4, .s 5, .b 5, .s 6, .b 6, .t 160, .s 7] (fun (_ : Unit) => [(.s 8, .sv (.lp 8 0)), (.b 8, .bx [.v (.str ((s.msgs[i]'hi).fields[k]'hk).name), .v (.int .i64 ((s.msgs[i]'hi).fields[k]'hk).num), .v (.int .i64 ((s.msgs[i]'hi).fields[k]'hk).ty), .v (.str ((s.msgs[i]'hi).fields[k]'hk).ref), .v (.bool ((s.msgs[i]'hi).fields[k]'hk).rep), .v (.bool ((s.msgs[i]'hi).fields[k]'hk).loose), .v (.str ((s.msgs[i]'hi).fields[k]'hk).one), .v (.int .i64 (k : Int)), .v (.int .i64 (jK s ((s.msgs[i]'hi).fields[k]'hk) k).part)])]) (fun (_ : Unit) => True) rfl ?_ ?_)))))))))
   ·refine aC.seq (aC.region (aB.run II 4 rfl (aB.nil (aC.cond rfl (fun hc3 => ?_) (fun hc3 => ?_)))))
    ·exact aC.region (aB.run II 4 rfl (aB.c1 rfl (aG (aF rfl) kA rfl (gv s _ (by omega))) (aB.run II 2 rfl (aB.kept (Kept.aH [.s 8, .b 8, .h, .s 1, .b 1, .s 3, .s 4, .s 5, .b 5, .s 6, .b 6, .t 160, .s 7] rfl (by decide) (Kept.now ⟨(), trivial, by unfold jK; rw [if_pos (by simpa using hc3)]; rfl⟩))))))
    ·exact aC.aJ (Kept.aH [.s 8, .b 8, .h, .s 1, .b 1, .s 3, .s 4, .s 5, .b 5, .s 6, .b 6, .t 160, .s 7] rfl (by decide) (Kept.now (aC.skip ⟨(), trivial, by unfold jK; rw [if_neg (by simpa using hc3)]; rfl⟩)))
   ·rintro _ hF13
    refine aC.region (aB.run II 4 rfl (aB.c3 rfl (aV (aF rfl) dH rfl rfl rfl rfl rfl (by rw [List.length_map]; simp only [List.length_cons, List.length_nil]; omega) (by rw [List.length_map]; simp only [List.length_cons, List.length_nil]; omega)) ?_))
    exact aB.run II 2 rfl (aB.nil (aC.region (aB.run II 3 rfl (aB.kept (Kept.aX 7 rfl (inc (by omega)) (Kept.aH [.s 7, .b 6, .t 56, .h, .s 1, .b 1, .s 3, .s 4, .s 5, .b 5, .s 6] rfl (by decide) (Kept.cS 56 160 (by decide) rfl (Kept.now ⟨k + 1, by omega, trivial, JK hk rfl⟩))))))))
  ·have hk := ck hc2
   refine aC.exit (aC.seq (aC.region (aB.c2 rfl (az («as» := []) (aF rfl) dH fz rfl rfl rfl (ft rfl) rfl) (aB.run II 2 rfl (aB.c3 rfl (aV (aF rfl) dH rfl rfl rfl (bW Port.cells (fun _ => rfl) _) rfl (by rw [List.length_map]; simp only [List.length_nil]; omega) (by rw [List.length_map]; simp only [List.length_nil]; omega)) ?_)))))
   refine aB.run II 2 rfl (aB.nil (aC.region (aB.run II 2 rfl (aB.c1 rfl (aG (aF rfl) vd rfl (uh ({ bY with name := (s.msgs[i]'hi).name, ins := (cp s (s.msgs[i]'hi) k), outs := (cp s (s.msgs[i]'hi) k), regs := (((s.msgs[i]'hi).fields.map ag.av).length : Int) } : aR) .nsl (by show (cp s (s.msgs[i]'hi) k).length ≤ 1000; omega) (by show ([] : List Int).length ≤ 100000; decide))) ?_))))
   refine aB.run II 1 rfl (aB.c3 rfl (iF (aF rfl) km iz rfl rfl Hp.cl (wT _) (by rw [List.length_map, D1 hI]) rfl rfl rfl (by simp only [List.length_cons, List.length_nil]; omega) (by simp only [List.length_cons, List.length_nil]; omega)) ?_)
   exact aB.run II 1 rfl (aB.nil (aC.region (aB.run II 3 rfl (aB.kept (Kept.k6 rfl Hp.ir (Kept.aX 4 rfl (inc (by omega)) (Kept.aH [.s 4, .s 3, .h, .s 1, .b 1] rfl (by decide) (Kept.now ⟨i + 1, by omega, by omega, JM hi (by rw [tH hk, List.length_map]; rfl)⟩))))))))
 ·have hi := ck hc1
  refine aC.exit (aC.seq (aC.region (aB.run II 2 rfl (aB.nil (aC.ret ?_)))))
  have hil : i = s.msgs.length := (by omega)
  subst hil
  rw [D2 (Nat.le_refl _)]
  exact ⟨.inr rfl, (aE.r1 rfl (.tmp rfl .nil)).cast rfl, rfl⟩
/- the document: steps of one part -/
theorem sH : aa Tryz.prog 25 = true := by kernel_rfl
theorem jU : aa Tryz.prog 54 = true := by kernel_rfl
theorem pM : aa Tryz.prog 55 = true := by kernel_rfl
theorem pL : aa Tryz.prog 56 = true := by kernel_rfl
theorem Fl : aa Tryz.prog 83 = true := by kernel_rfl
theorem fm : se Tryz.prog 49 = some (66, 13, 144) := by kernel_rfl
theorem eU : bu Tryz.prog 66 = some [AV.int IntKind.i64 (0), AV.int IntKind.i64 (0), AV.int IntKind.i64 (0), AV.int IntKind.i64 (0), AV.int IntKind.i64 (0), AV.int IntKind.i64 (0), AV.int IntKind.i64 (0), AV.int IntKind.u64 (0), AV.int IntKind.i64 (0), AV.sl [], AV.int IntKind.u64 (0), AV.str [], AV.sl []] := by kernel_rfl
theorem eA (l : List al) : ∀ e ∈ l.map al.av, e.cells.length = 13 := la (bW al.cells (fun _ => rfl) _)
theorem gT {l : List Port} {n : aw} (h : 0 ≤ bZ l n) : (l.map Port.av)[(bZ l n).toNat]? = some (.agg (aL l n).cells) := by
 rcases bB (fun x : Port => x.f.name == n) l 0 with ⟨q1, q2⟩ | ⟨i, hi, q1, q2, q3⟩
 ·have e : bZ l n = -1 := q1
  omega
 ·have e : bZ l n = ((0 + i : Nat) : Int) := q1
  unfold aL
  rw [e, q2, Int.toNat_natCast, Nat.zero_add, List.getElem?_map, List.getElem?_eq_getElem hi]; rfl
theorem xq {l : List Port} {n : aw} (h : ¬ 0 ≤ bZ l n) : aL l n = gU := by
 rcases bB (fun x : Port => x.f.name == n) l 0 with ⟨q1, q2⟩ | ⟨i, hi, q1, q2, q3⟩
 ·unfold aL; rw [q2]; rfl
 ·have e : bZ l n = ((0 + i : Nat) : Int) := q1
  omega
theorem jZ {a b : Int} (h0 : -9223372036854775808 ≤ a + b) (h1 : a + b < 9223372036854775808) : pk .add (.int .i64 a) (.int .i64 b) = some (.int .i64 (a + b)) := by
 show (if IntKind.i64 = IntKind.i64 then some (AV.int .i64 (IntKind.i64.wrap (a + b))) else none) = _
 rw [if_pos rfl, eS h0 h1]
def qR (K : Hp) (p q : aR) (o : AV) : AV := if q.ops.length = p.ops.length then o else .os K.next ((p.ops.map al.av).length + 1) 13
def qS (K : Hp) (p q : aR) (o : AV) : Hp := if q.ops.length = p.ops.length then K else lC K o (ae (q.ops.map al.av))
theorem lN {K : Hp} {p q : aR} {o : AV} (h : q.ops = p.ops) : qR K p q o = o := by unfold qR; rw [if_pos (by rw [h])]
theorem lO {K : Hp} {p q : aR} {o : AV} (h : q.ops = p.ops) : qS K p q o = K := by unfold qS; rw [if_pos (by rw [h])]
theorem iO {K : Hp} {p q : aR} {o : AV} (a : al) (h : q.ops = p.ops ++ [a]) : qR K p q o = .os K.next ((p.ops.map al.av).length + 1) 13 := by unfold qR; rw [if_neg (by rw [h]; simp)]
theorem iP {K : Hp} {p q : aR} {o : AV} (a : al) (h : q.ops = p.ops ++ [a]) : qS K p q o = lC K o (ae (p.ops.map al.av ++ [a.av])) := by unfold qS; rw [if_neg (by rw [h]; simp), h, List.map_append]; rfl
def jQ (f : Port) (x : aP) : al := { gE with kind := 1, a := f.reg, src := f.f.ty, dst := x.ty, lo := (oj f.f.ty x.ty).1, hi := (oj f.f.ty x.ty).2 }
def jP (f : Port) (n : Int) : al := { gE with kind := 2, a := f.reg, b := n, c := n + 1 }
def kr (f g : Port) (n : Int) : al := { gE with kind := 3, a := f.reg, b := g.reg, c := n }
theorem o8 {p : aR} {x : aP} (h : x.kind = 1) : aO p x = { p with outs := bN (aT p.outs x.field) { aL p.outs x.field with f := { (aL p.outs x.field).f with name := x.dest } } } := by unfold aO; rw [if_pos h]
theorem o7 {p : aR} {x : aP} (h : x.kind = 2) : aO p x = { p with outs := bN (aT p.outs x.field) { aL p.outs x.field with f := { (aL p.outs x.field).f with num := x.num } } } := by unfold aO; simp [h]
theorem o6 {p : aR} {x : aP} (h : x.kind = 3) : aO p x = { p with ops := p.ops ++ [jQ (aL p.outs x.field) x], outs := bN (aT p.outs x.field) { aL p.outs x.field with f := { (aL p.outs x.field).f with ty := x.ty } } } := by unfold aO; simp [h, jQ]
theorem o5 {p : aR} {x : aP} (h : x.kind = 4) : aO p x = { p with ops := p.ops ++ [jP (aL p.outs x.field) p.regs], regs := p.regs + 2, outs := bN (bN (aT p.outs x.field) (c4 x.dest x.num 3 p.regs)) (c4 x.also x.other 3 (p.regs + 1)) } := by unfold aO; simp [h, jP]
theorem o4 {p : aR} {x : aP} (h : x.kind = 5) : aO p x = { p with ops := p.ops ++ [kr (aL p.outs x.field) (aL (aT p.outs x.field) x.also) p.regs], regs := p.regs + 1, outs := bN (aT (aT p.outs x.field) x.also) (c4 x.dest x.num 4 p.regs) } := by unfold aO; simp [h, kr]
theorem CY (p : aR) (o : AV) (x : aP) (K : Hp) (hK : dC K o 13 (p.ops.map al.av)) (hl : p.ops.length ≤ 1000) (ho : p.outs.length ≤ 100) (hk : x.kind = 1 ∨ x.kind = 2 ∨ x.kind = 3) : dW Tryz.prog 50 [da p o, x.av, (aL p.outs x.field).av] K (da (aO p x) (qR K p (aO p x) o)) (qS K p (aO p x) o) := by
 refine dW.aN Tryz.func50 rfl rfl (aF rfl) (aC.seq (aC.region (aB.run II 4 rfl (aB.nil (aC.seq (aC.region (aB.run II 4 rfl (aB.c1 rfl (aG (aF rfl) pL rfl (gS _ _ (by first | omega | (have := bH p.outs x.field; omega)))) ?_))))))))
 refine aB.run II 2 rfl (aB.nil (aC.seq (aC.seq (aC.region (aB.run II 2 rfl (aB.nil (aC.blk (aC.seq (aC.region (aB.run II 2 rfl (aB.nil (aC.cond rfl (fun hc1 => ?_) (fun hc1 => ?_)))))))))))))
 ·refine aC.region (aB.run II 5 rfl (aB.nil (aC.seq (aC.region (aB.run II 3 rfl (aB.c1 rfl (aG (aF rfl) jU rfl (gC (aT p.outs x.field) { (aL p.outs x.field) with f := { (aL p.outs x.field).f with name := x.dest } } (by have := bH p.outs x.field; omega))) ?_))))))
  exact aB.run II 2 rfl (aB.nil (aC.seq (aC.region (aB.run II 2 rfl (aB.nil (aC.ret ⟨.inr rfl, (aE.r1 rfl (.cell eL rfl rfl rfl rfl .nil)).cast (by rw [lN (p := p) (q := aO p x) (by rw [o8 (by simpa using hc1)]), o8 (by simpa using hc1)]; rfl), (by rw [lO (p := p) (q := aO p x) (by rw [o8 (by simpa using hc1)])]; rfl)⟩))))))
 ·refine aC.seq (aC.region (aB.run II 2 rfl (aB.nil (aC.cond rfl (fun hc2 => ?_) (fun hc2 => ?_)))))
  ·refine aC.region (aB.run II 5 rfl (aB.nil (aC.seq (aC.region (aB.run II 3 rfl (aB.c1 rfl (aG (aF rfl) jU rfl (gC (aT p.outs x.field) { (aL p.outs x.field) with f := { (aL p.outs x.field).f with num := x.num } } (by have := bH p.outs x.field; omega))) ?_))))))
   exact aB.run II 2 rfl (aB.nil (aC.seq (aC.region (aB.run II 2 rfl (aB.nil (aC.ret ⟨.inr rfl, (aE.r1 rfl (.cell eL rfl rfl rfl rfl .nil)).cast (by rw [lN (p := p) (q := aO p x) (by rw [o7 (by simpa using hc2)]), o7 (by simpa using hc2)]; rfl), (by rw [lO (p := p) (q := aO p x) (by rw [o7 (by simpa using hc2)])]; rfl)⟩))))))
  ·refine aC.seq (aC.region (aB.run II 5 rfl (aB.c1 rfl (aG (aF rfl) Fl rfl (E6 _ _)) (aB.run II 5 rfl (aB.nil (aC.seq (aC.region (aB.run II 13 rfl (aB.c3 rfl (jm (aF rfl) fm eU rfl rfl hK (eA _) rfl rfl (List.cons_ne_nil _ _) rfl (by rw [List.length_map]; simp only [List.length_cons, List.length_nil]; omega) (by rw [List.length_map]; simp only [List.length_cons, List.length_nil]; omega)) ?_)))))))))
   refine aB.run II 2 rfl (aB.nil (aC.region (aB.run II 5 rfl (aB.nil (aC.seq (aC.region (aB.run II 3 rfl (aB.c1 rfl (aG (aF rfl) jU rfl (gC (aT p.outs x.field) { (aL p.outs x.field) with f := { (aL p.outs x.field).f with ty := x.ty } } (by have := bH p.outs x.field; omega))) ?_))))))))
   exact aB.run II 2 rfl (aB.nil (aC.seq (aC.region (aB.run II 2 rfl (aB.nil (aC.ret ⟨.inr rfl, (aE.r1 rfl (.cell eL rfl rfl rfl rfl .nil)).cast (by rw [iO (jQ (aL p.outs x.field) x) (p := p) (q := aO p x) (by rw [o6 (by have h1 : x.kind ≠ 1 := (by simpa using hc1); have h2 : x.kind ≠ 2 := (by simpa using hc2); omega)]), o6 (by have h1 : x.kind ≠ 1 := (by simpa using hc1); have h2 : x.kind ≠ 2 := (by simpa using hc2); omega)]; rfl), (by rw [iP (jQ (aL p.outs x.field) x) (p := p) (q := aO p x) (by rw [o6 (by have h1 : x.kind ≠ 1 := (by simpa using hc1); have h2 : x.kind ≠ 2 := (by simpa using hc2); omega)])]; rfl)⟩))))))
theorem xl (p : aR) (o : AV) (x : aP) (K : Hp) (hK : dC K o 13 (p.ops.map al.av)) (hl : p.ops.length ≤ 1000) (ho : p.outs.length ≤ 100) (hr : 0 ≤ p.regs ∧ p.regs ≤ 1000) (hk : x.kind = 4 ∨ x.kind = 5) (hg : x.kind = 5 → 0 ≤ bZ (aT p.outs x.field) x.also) : dW Tryz.prog 51 [da p o, x.av, (aL p.outs x.field).av] K (da (aO p x) (qR K p (aO p x) o)) (qS K p (aO p x) o) := by
 refine dW.aN Tryz.func51 rfl rfl (aF rfl) (aC.seq (aC.region (aB.run II 4 rfl (aB.nil (aC.seq (aC.region (aB.run II 3 rfl (aB.nil (aC.seq (aC.region (aB.run II 4 rfl (aB.c1 rfl (aG (aF rfl) pL rfl (gS _ _ (by first | omega | (have := bH p.outs x.field; omega)))) ?_))))))))))))
 refine aB.run II 2 rfl (aB.nil (aC.seq (aC.seq (aC.region (aB.run II 2 rfl (aB.c1 rfl (bI (aF rfl) rfl rfl rfl)  (aB.nil (aC.cond rfl (fun hc1 => ?_) (fun hc1 => ?_)))))))))
 ·refine aC.seq (aC.region (aB.run II 6 rfl (aB.c1 rfl (bI (aF rfl) rfl rfl (jZ (by omega) (by omega))) (aB.run II 2 rfl (aB.c3 rfl (jm (aF rfl) fm eU rfl rfl hK (eA _) rfl rfl (List.cons_ne_nil _ _) rfl (by rw [List.length_map]; simp only [List.length_cons, List.length_nil]; omega) (by rw [List.length_map]; simp only [List.length_cons, List.length_nil]; omega)) ?_)))))
  refine aB.run II 2 rfl (aB.nil (aC.seq (aC.region (aB.run II 1 rfl (aB.c1 rfl (bI (aF rfl) rfl rfl (jZ (by omega) (by omega))) (aB.run II 2 rfl (aB.nil (aC.seq (aC.drawn mixed rfl (aD.run II 7 rfl (aD.c1 rfl (aG (aF rfl) pM rfl (lU _ _ _ _)) (aD.c1 rfl (aG (aF rfl) jU rfl (gC (aT p.outs x.field) (c4 x.dest x.num 3 p.regs) (by have := bH p.outs x.field; omega))) ?_))))))))))))
  refine aD.run II 5 rfl (aD.c1 rfl (bI (aF rfl) rfl rfl (jZ (by omega) (by omega))) (aD.c1 rfl (aG (aF rfl) pM rfl (lU _ _ _ _)) (aD.c1 rfl (aG (aF rfl) jU rfl (gC (bN (aT p.outs x.field) (c4 x.dest x.num 3 p.regs)) (c4 x.also x.other 3 (p.regs + 1)) (by rw [dQ]; have := bH p.outs x.field; omega))) ?_)))
  exact aD.run II 2 rfl (aD.nil (by kernel_rfl) (Kept.now (aC.seq (aC.region (aB.run II 2 rfl (aB.nil (aC.ret ⟨.inr rfl, (aE.r1 rfl (.cell eL rfl rfl rfl rfl .nil)).cast (by rw [iO (jP (aL p.outs x.field) p.regs) (p := p) (q := aO p x) (by rw [o5 (by simpa using hc1)]), o5 (by simpa using hc1)]; rfl), (by rw [iP (jP (aL p.outs x.field) p.regs) (p := p) (q := aO p x) (by rw [o5 (by simpa using hc1)])]; rfl)⟩)))))))
 ·refine aC.skip (aC.seq (aC.drawn mixed rfl (aD.run II 6 rfl (aD.c1 rfl (aG (aF rfl) sH rfl (lT _ _ (by have := bH p.outs x.field; omega))) ?_))))
  refine aD.c1 rfl (aI (aF rfl) cy rfl rfl (hg (by have : x.kind ≠ 4 := (by simpa using hc1); omega)) (gT (hg (by have : x.kind ≠ 4 := (by simpa using hc1); omega))) rfl) ?_
  refine aD.run II 3 rfl (aD.nil (by kernel_rfl) (Kept.now (aC.seq (aC.region (aB.run II 9 rfl (aB.c3 rfl (jm (aF rfl) fm eU rfl rfl hK (eA _) rfl rfl (List.cons_ne_nil _ _) rfl (by rw [List.length_map]; simp only [List.length_cons, List.length_nil]; omega) (by rw [List.length_map]; simp only [List.length_cons, List.length_nil]; omega)) ?_))))))
  refine aB.run II 2 rfl (aB.nil (aC.seq (aC.region (aB.run II 1 rfl (aB.c1 rfl (bI (aF rfl) rfl rfl (jZ (by omega) (by omega))) (aB.run II 2 rfl (aB.nil (aC.seq (aC.drawn mixed rfl (aD.run II 4 rfl (aD.c1 rfl (aG (aF rfl) pL rfl (gS _ _ (by first | omega | (have := bH p.outs x.field; omega)))) ?_)))))))))))
  refine aD.run II 5 rfl (aD.c1 rfl (aG (aF rfl) pM rfl (lU _ _ _ _)) (aD.c1 rfl (aG (aF rfl) jU rfl (gC (aT (aT p.outs x.field) x.also) (c4 x.dest x.num 4 p.regs) (by have := bH (aT p.outs x.field) x.also; have := bH p.outs x.field; omega))) ?_))
  exact aD.run II 2 rfl (aD.nil (by kernel_rfl) (Kept.now (aC.seq (aC.region (aB.run II 2 rfl (aB.nil (aC.ret ⟨.inr rfl, (aE.r1 rfl (.cell eL rfl rfl rfl rfl .nil)).cast (by rw [iO (kr (aL p.outs x.field) (aL (aT p.outs x.field) x.also) p.regs) (p := p) (q := aO p x) (by rw [o4 (by have : x.kind ≠ 4 := (by simpa using hc1); omega)]), o4 (by have : x.kind ≠ 4 := (by simpa using hc1); omega)]; rfl), (by rw [iP (kr (aL p.outs x.field) (aL (aT p.outs x.field) x.also) p.regs) (p := p) (q := aO p x) (by rw [o4 (by have : x.kind ≠ 4 := (by simpa using hc1); omega)])]; rfl)⟩)))))))
/- the document: fields that come into a oneof -/
theorem tc : lk Tryz.prog 9 = some (false, 1) := by kernel_rfl
theorem Bu : Bw Tryz.prog 66 = some [(0, 1), (1, 1), (2, 1), (3, 1), (4, 1), (5, 1), (6, 1), (7, 1), (8, 1), (9, 1), (10, 3)] := by kernel_rfl
theorem Hz : qH Tryz.prog 66 = some [.int .i64 0, .int .i64 0, .int .i64 0, .int .i64 0, .int .i64 0, .int .i64 0, .int .i64 0, .int .u64 0, .int .i64 0, .nsl, .int .u64 0, .str [], .nsl] := by kernel_rfl
structure Mv (K : Hp) (o : AV) (K' : Hp) (o' : AV) (ops : List al) : Prop where
 fin : K'.fin
 nx : K.next ≤ K'.next
 aH : ∀ j, j < K.next → (∀ n e, o ≠ .os j n e) → K'.obj j = K.obj j
 res : dC K' o' 13 (ops.map al.av)
 fresh : o' = o ∨ ∃ id n e, o' = .os id n e ∧ K.next ≤ id
theorem Mv.same {K : Hp} {o : AV} {ops : List al} (hf : K.fin) (h : dC K o 13 (ops.map al.av)) : Mv K o K o ops := ⟨hf, Nat.le_refl _, fun _ _ _ => rfl, h, .inl rfl⟩
theorem eF {K : Hp} (h : K.fin) (cs : List Hc) : (K.new cs).fin := fun i hi => by
 have h1 : K.next + 1 ≤ i := hi
 have e : (K.new cs).obj i = if i = K.next then some cs else K.obj i := rfl
 rw [e, if_neg (by omega), h i (by omega)]
theorem jW {K : Hp} (h : K.fin) (id : Nat) : (K.del id).fin := fun i hi => by
 have e : (K.del id).obj i = if i = id then none else K.obj i := rfl
 rw [e]
 split
 ·rfl
 ·exact h i hi
theorem jE {K : Hp} (h : K.fin) {id : Nat} (hi : id < K.next) (cs : List Hc) : (K.set id cs).fin := fun i hl => by
 have h1 : K.next ≤ i := hl
 have e : (K.set id cs).obj i = if i = id then some cs else K.obj i := rfl
 rw [e, if_neg (by omega)]; exact h i h1
theorem pZ {K : Hp} (k : Nat) (cs : List Hc) : (K.bump k cs).fin := fun i hi => by
 have h1 : K.next + k + 1 ≤ i := hi
 have e : (K.bump k cs).obj i = if i = K.next + k then some cs else if i < K.next then K.obj i else none := rfl
 rw [e, if_neg (by omega), if_neg (by omega)]
theorem pd {K : Hp} (h : K.fin) (o : AV) (cs : List Hc) : (lC K o cs).fin := by
 cases o <;> first | exact eF h cs | exact eF (jW h _) cs
theorem mc {K : Hp} {o : AV} {cs : List Hc} : (lC K o cs).next = K.next + 1 := by cases o <;> rfl
theorem uM {K : Hp} {o : AV} {cs : List Hc} : (lC K o cs).obj K.next = some cs := by cases o <;> exact Hp.cg _ _
theorem pc {K : Hp} {o : AV} {cs : List Hc} {j : Nat} (hj : j < K.next) (ho : ∀ n e, o ≠ .os j n e) : (lC K o cs).obj j = K.obj j := by
 cases o
 case os id n e =>
  have hne : j ≠ id := fun e2 => ho n e (by rw [e2])
  show (if j = K.next then some cs else if j = id then none else K.obj j) = K.obj j
  rw [if_neg (by omega), if_neg hne]
 all_goals exact Hp.cN _ _ hj
theorem ig {K : Hp} (hf : K.fin) {o : AV} {e : Nat} {xs : List AV} (h : dC K o e xs) {id n e' : Nat} (ho : o = .os id n e') : id < K.next := by
 rcases h with ⟨rfl, _⟩ | ⟨id', rfl, h2⟩
 ·cases ho
 ·cases ho
  apply Classical.byContradiction
  intro hn
  rw [hf id (by omega)] at h2; cases h2
theorem gZ {K K' : Hp} {o : AV} {e : Nat} {xs : List AV} (h : dC K o e xs) (hk : ∀ id n e', o = .os id n e' → K'.obj id = K.obj id) : dC K' o e xs := by
 rcases h with h | ⟨id, h1, h2⟩
 ·exact .inl h
 ·exact .inr ⟨id, h1, by rw [hk id _ _ h1]; exact h2⟩
theorem Mv.app {K : Hp} {o : AV} {ops : List al} (hf : K.fin) (a : al) : Mv K o (lC K o (ae (ops.map al.av ++ [a.av]))) (.os K.next ((ops.map al.av).length + 1) 13) (ops ++ [a]) :=
 ⟨pd hf _ _, by rw [mc]; omega, fun j hj ho => pc hj ho, .inr ⟨K.next, by simp, by rw [uM, List.map_append]; rfl⟩, .inr ⟨_, _, _, rfl, Nat.le_refl _⟩⟩
def gW (x : aP) (i : Nat) (y : Port) : Port := if (x.names.take i).any (fun s => s == y.f.name) then { y with f := { y.f with one := x.field } } else y
def c7 (p : aR) (x : aP) (i : Nat) : List Port := p.outs.map (gW x i)
theorem oZ (x : aP) (i : Nat) (y : Port) : (gW x i y).f.name = y.f.name := by unfold gW; split <;> rfl
theorem yD (x : aP) (i : Nat) (y : Port) : (gW x i y).reg = y.reg := by unfold gW; split <;> rfl
theorem pB {α : Type} {q : α → Bool} {g : α → α} (h : ∀ y, q (g y) = q y) : ∀ (l : List α) (k : Nat), bU q (l.map g) k = bU q l k
 | [], _ => rfl
 | a :: l, k => by simp only [List.map_cons, bU, h, pB h l (k + 1)]
theorem ee {p : aR} {x : aP} {i : Nat} {n : aw} : bZ (c7 p x i) n = bZ p.outs n := pB (fun y => by rw [oZ]) _ _
theorem fK {p : aR} {x : aP} {i : Nat} : (c7 p x i).length = p.outs.length := by unfold c7; simp
theorem kP {l : List Port} {n : aw} (h : 0 ≤ bZ l n) : ∃ (k : Nat) (hk : k < l.length), bZ l n = (k : Int) ∧ (l[k]).f.name = n ∧ aL l n = l[k] := by
 rcases bB (fun x : Port => x.f.name == n) l 0 with ⟨q1, q2⟩ | ⟨i, hi, q1, q2, q3⟩
 ·have e : bZ l n = -1 := q1
  omega
 ·refine ⟨i, hi, by rw [show bZ l n = ((0 + i : Nat) : Int) from q1, Nat.zero_add], by simpa using q3, ?_⟩
  unfold aL; rw [q2]; rfl
theorem mR {p : aR} {x : aP} {i k : Nat} (hk : k < (c7 p x i).length) (hk' : k < p.outs.length) : (c7 p x i)[k] = gW x i p.outs[k] := by simp [c7]
theorem yC (x : aP) (i : Nat) (y : Port) : ({ gW x i y with f := { (gW x i y).f with one := x.field } } : Port) = { y with f := { y.f with one := x.field } } := by unfold gW; split <;> rfl
theorem Cr {p : aR} {x : aP} : c7 p x 0 = p.outs := by
 unfold c7
 have : gW x 0 = id := by funext y; unfold gW; simp
 rw [this, List.map_id]
theorem bJ {l : List Port} {n : aw} (h : 0 ≤ bZ l n) : bZ l n < (l.length : Int) := by
 obtain ⟨k, hk, e, _⟩ := kP h
 omega
theorem yA {p : aR} {x : aP} {i : Nat} {n : aw} (h : 0 ≤ bZ p.outs n) : (aL (c7 p x i) n).reg = (aL p.outs n).reg := by
 obtain ⟨k, hk, e1, e2, e3⟩ := kP h
 obtain ⟨k', hk', e1', e2', e3'⟩ := kP (l := c7 p x i) (by rw [ee]; exact h)
 rw [ee, e1] at e1'
 have : k' = k := by omega
 subst this
 rw [e3, e3']
 rw [mR hk' hk, yD]
theorem uw {p : aR} {x : aP} {i : Nat} (hi : i < x.names.length) (hnd : (p.outs.map fun y => y.f.name).Nodup) (h : 0 ≤ bZ p.outs x.names[i]) :
  ((c7 p x i).map Port.av).set (bZ (c7 p x i) x.names[i]).toNat (.agg ((aL (c7 p x i) x.names[i]).cells.set 6 (.str x.field))) = (c7 p x (i + 1)).map Port.av := by
 obtain ⟨k, hk, e1, e2, e3⟩ := kP (l := c7 p x i) (n := x.names[i]) (by rw [ee]; exact h)
 have hk' : k < p.outs.length := by rw [fK] at hk; exact hk
 rw [e1, e3, Int.toNat_natCast]
 have ea : (.agg ((c7 p x i)[k].cells.set 6 (.str x.field)) : AV) = ({ (c7 p x i)[k] with f := { (c7 p x i)[k].f with one := x.field } } : Port).av := rfl
 rw [ea, ← List.map_set]
 congr 1
 refine List.ext_getElem? fun j => ?_
 have hname : p.outs[k].f.name = x.names[i] := by
  rw [← e2, mR hk hk', oZ]
 have htk : x.names.take (i + 1) = x.names.take i ++ [x.names[i]] := by rw [List.take_add_one, List.getElem?_eq_getElem hi]; rfl
 by_cases hj : j = k
 ·subst hj
  rw [List.getElem?_set_self hk]
  rw [mR hk hk', yC]
  unfold c7
  rw [List.getElem?_map, List.getElem?_eq_getElem hk', Option.map_some]
  congr 1
  unfold gW
  rw [htk, List.any_append]
  simp [hname]
 ·rw [List.getElem?_set_ne (fun e => hj e.symm)]
  unfold c7
  rw [List.getElem?_map, List.getElem?_map]
  cases hy : p.outs[j]? with
  | none => rfl
  | some y =>
   simp only [Option.map_some]
   congr 1
   have hne : y.f.name ≠ x.names[i] := fun e => by
    rw [← hname] at e
    have hjl := (List.getElem?_eq_some_iff.1 hy).1
    have h1 : (p.outs.map fun y => y.f.name)[j]? = (p.outs.map fun y => y.f.name)[k]? := by
     rw [List.getElem?_map, List.getElem?_map, hy, List.getElem?_eq_getElem hk']; simp [e]
    exact hj ((List.getElem?_inj (by simpa using hjl) hnd).1 h1)
   unfold gW
   rw [htk, List.any_append]
   have : ([x.names[i]].any fun s => s == y.f.name) = false := by simp; exact fun e => hne e.symm
   rw [this, Bool.or_false]
def l6 (p : aR) (x : aP) (i : Nat) : List Int := (x.names.take i).map fun s => (aL p.outs s).reg
theorem ux {p : aR} {x : aP} {i : Nat} (hi : i < x.names.length) : (l6 p x i).map dL ++ [AV.int .i64 (aL p.outs x.names[i]).reg] = (l6 p x (i + 1)).map dL := by
 unfold l6
 rw [List.take_add_one, List.getElem?_eq_getElem hi, List.map_append, List.map_append]; rfl
theorem qh {p : aR} {x : aP} {i : Nat} : (l6 p x i).length ≤ x.names.length := by unfold l6; simp; omega
theorem yB {p : aR} {x : aP} : l6 p x x.names.length = x.names.map fun s => (aL p.outs s).reg := by unfold l6; rw [List.take_of_length_le (Nat.le_refl _)]
def w9 (p : aR) (x : aP) : al := { gE with kind := 6, regs := x.names.map fun s => (aL p.outs s).reg }
theorem AB {p : aR} {x : aP} (h : x.kind = 8) : aO p x = { p with ops := p.ops ++ [w9 p x], outs := c7 p x x.names.length } := by
 unfold aO c7
 have : gW x x.names.length = fun y : Port => if (x.names.any fun s => s == y.f.name) = true then { y with f := { y.f with one := x.field } } else y := by
  funext y; unfold gW; rw [List.take_of_length_le (Nat.le_refl _)]
 rw [this]
 simp [h, w9]
theorem yN {id n : Nat} {l : List Port} {s : aw} (hn : n = l.length) : [AV.os id n 9, .str s].map (ka id (l.map Port.av)) = [.sl (l.map Port.av), .str s] := by
 subst hn
 have e : (l.map Port.av).take l.length = l.map Port.av := List.take_of_length_le (by simp)
 simp [ka, ez, e]
theorem JD {v : CV} {rest : List (aK × CV)} {H : Hp} {t el esz : Nat} {b0 b1 b2 b3 b4 b5 b6 b7 b8 c0 c1 c2 : Sv} {a a' u u' : List AV} (h1 : a = a') (h2 : u = u') :
  ((aK.s 6, v) :: (aK.b 5, CV.bx [b0, b1, b2, b3, b4, b5, b6, b7, b8, .ow t a, c0, c1, c2]) :: (aK.t t, CV.tk false el esz a) :: (aK.h, CV.hp (H.bump 1 (ae u))) :: rest) = [(aK.s 6, v), (aK.b 5, CV.bx [b0, b1, b2, b3, b4, b5, b6, b7, b8, .ow t a', c0, c1, c2]), (aK.t t, CV.tk false el esz a'), (aK.h, CV.hp (H.bump 1 (ae u')))] ++ rest := by rw [h1, h2]; rfl
theorem H4 {p : aR} {id n : Nat} {o : AV} (l : List Port) (hn : n = l.length) (ho : ∀ m e, o ≠ .os id m e) : [Sv.v (.str p.name), .v (.sl (p.ins.map Port.av)), .v o, .v (.os id n 9), .v (.int .i64 p.regs), .v (.sl (p.ever.map dL)), .v (.bool p.born)].map (iG id (l.map Port.av)) = [Sv.v (.str p.name), .v (.sl (p.ins.map Port.av)), .v o, .v (.sl (l.map Port.av)), .v (.int .i64 p.regs), .v (.sl (p.ever.map dL)), .v (.bool p.born)] := by
 subst hn
 have e : (l.map Port.av).take l.length = l.map Port.av := List.take_of_length_le (by simp)
 have h : ez id (l.map Port.av) o = o := by
  cases o <;> first | rfl | skip
  rename_i i m e
  show (if i = id ∧ m ≤ (l.map Port.av).length then _ else _) = _
  rw [if_neg (fun h => ho m e (by rw [h.1]))]
 simp only [List.map_cons, List.map_nil, iG]
 rw [h]
 simp [ez, e]
theorem Mv.one {K : Hp} {o : AV} {ops : List al} {cs : List Hc} (hf : K.fin) (h : dC K o 13 (ops.map al.av)) (a : al) : Mv K o ((lC (K.bump 1 cs) o (ae (ops.map al.av ++ [a.av]))).del (K.next + 1)) (.os (K.next + 2) ((ops.map al.av).length + 1) 13) (ops ++ [a]) := by
 have hlo : ∀ j n e, o = .os j n e → j < K.next := fun j n e ho => ig hf h ho
 have hn : (K.bump 1 cs).next = K.next + 2 := rfl
 refine ⟨jW (pd (pZ _ _) _ _) _, ?_, fun j hj ho => ?_, .inr ⟨K.next + 2, by simp, ?_⟩, .inr ⟨_, _, _, rfl, by omega⟩⟩
 ·show K.next ≤ (lC _ _ _).next; rw [mc, hn]; omega
 ·rw [Hp.xG, if_neg (by omega), pc (by rw [hn]; omega) ho, Hp.kD hj]
 ·rw [Hp.xG, if_neg (by omega)]
  have := @uM (K.bump 1 cs) o (ae (ops.map al.av ++ [a.av]))
  rw [hn] at this
  rw [this, List.map_append]; rfl
theorem vU {K : Hp} (hf : K.fin) {o : AV} {e : Nat} {xs : List AV} {k : Nat} {cs : List Hc} (h : dC K o e xs) : dC (K.bump k cs) o e xs := gZ h fun id n e' ho => Hp.kD (ig hf h ho)
def B7 (K : Hp) (q : aR) (o : AV) (r : AV) (K' : Hp) : Prop := ∃ o', r = da q o' ∧ Mv K o K' o' q.ops
theorem oL (p : aR) (o : AV) (x : aP) (K : Hp) (hf : K.fin) (hK : dC K o 13 (p.ops.map al.av)) (hl : p.ops.length ≤ 1000) (ho : p.outs.length ≤ 100) (hk : x.kind = 1 ∨ x.kind = 2 ∨ x.kind = 3) : fw Tryz.prog 50 [da p o, x.av, (aL p.outs x.field).av] K (B7 K (aO p x) o) := by
 refine (CY p o x K hK hl ho hk).CD ⟨_, rfl, ?_⟩
 rcases hk with h | h | h
 ·rw [lN (p := p) (q := aO p x) (by rw [o8 h]), lO (p := p) (q := aO p x) (by rw [o8 h]), show (aO p x).ops = p.ops by rw [o8 h]]
  exact Mv.same hf hK
 ·rw [lN (p := p) (q := aO p x) (by rw [o7 h]), lO (p := p) (q := aO p x) (by rw [o7 h]), show (aO p x).ops = p.ops by rw [o7 h]]
  exact Mv.same hf hK
 ·rw [iO (jQ (aL p.outs x.field) x) (p := p) (q := aO p x) (by rw [o6 h]), iP (jQ (aL p.outs x.field) x) (p := p) (q := aO p x) (by rw [o6 h]), show (aO p x).ops = p.ops ++ [jQ (aL p.outs x.field) x] by rw [o6 h]]
  exact Mv.app hf _
theorem oJ (p : aR) (o : AV) (x : aP) (K : Hp) (hf : K.fin) (hK : dC K o 13 (p.ops.map al.av)) (hl : p.ops.length ≤ 1000) (ho : p.outs.length ≤ 100) (hr : 0 ≤ p.regs ∧ p.regs ≤ 1000) (hk : x.kind = 4 ∨ x.kind = 5) (hg : x.kind = 5 → 0 ≤ bZ (aT p.outs x.field) x.also) : fw Tryz.prog 51 [da p o, x.av, (aL p.outs x.field).av] K (B7 K (aO p x) o) := by
 refine (xl p o x K hK hl ho hr hk hg).CD ⟨_, rfl, ?_⟩
 rcases hk with h | h
 ·rw [iO (jP (aL p.outs x.field) p.regs) (p := p) (q := aO p x) (by rw [o5 h]), iP (jP (aL p.outs x.field) p.regs) (p := p) (q := aO p x) (by rw [o5 h]), show (aO p x).ops = p.ops ++ [jP (aL p.outs x.field) p.regs] by rw [o5 h]]
  exact Mv.app hf _
 ·rw [iO (kr (aL p.outs x.field) (aL (aT p.outs x.field) x.also) p.regs) (p := p) (q := aO p x) (by rw [o4 h]), iP (kr (aL p.outs x.field) (aL (aT p.outs x.field) x.also) p.regs) (p := p) (q := aO p x) (by rw [o4 h]), show (aO p x).ops = p.ops ++ [kr (aL p.outs x.field) (aL (aT p.outs x.field) x.also) p.regs] by rw [o4 h]]
  exact Mv.app hf _
theorem zU (p : aR) (o : AV) (x : aP) (K : Hp) (hf : K.fin) (hK : dC K o 13 (p.ops.map al.av)) (hl : p.ops.length ≤ 1000) (ho : p.outs.length ≤ 100) (hn : x.names.length ≤ 1000) (hk : x.kind = 8) (hnd : (p.outs.map fun y => y.f.name).Nodup) (hg : ∀ n ∈ x.names, 0 ≤ bZ p.outs n) : fw Tryz.prog 53 [da p o, x.av] K (B7 K (aO p x) o) := by
 refine fw.aN Tryz.func53 rfl rfl (aF rfl) (aC.seq (aC.region (aB.run II 3 rfl (aB.nil (aC.seq (aC.region (aB.c1 rfl (nU (aF rfl) Bu Hz rfl rfl) (aB.run II 2 rfl (aB.kept (Kept.AJ 5 9 170 3 1 rfl rfl rfl rfl (by decide) (Kept.AI 5 12 rfl rfl (Kept.now (aC.seq (aC.region (aB.c3 rfl (gw («as» := []) (aF rfl) dH fz rfl rfl rfl (ft rfl) rfl rfl) (aB.run II 2 rfl (aB.c3 rfl (iF (aF rfl) dH fz rfl rfl (Hp.cg K (ae [])) (fun _ h => by cases h) rfl rfl (bW Port.cells (fun _ => rfl) _) rfl (by rw [List.length_map]; omega) (by rw [List.length_map]; omega)) ?_)))))))))))))))))
 refine aB.run II 2 rfl (aB.nil (aC.seq (aC.seq (aC.aJ (Kept.k6 rfl (show _ = K.bump 1 (ae ((c7 p x 0).map Port.av)) from (by rw [Hp.lb hf, Cr]; exact Hp.ir)) (Kept.now ?_))))))
 refine aC.region (aB.run II 1 rfl (aB.nil (aC.blk (aC.aJ (Kept.aH [.s 6, .b 5, .t 170, .h, .s 2, .b 2, .s 3, .b 3, .s 4, .b 4, .s 5] rfl (by decide) (Kept.now (aC.aW (fun (i : Nat) => [(.s 6, .sv (.v (.int .i64 (i : Int)))), (.b 5, .bx [.v (.int .i64 6), .v (.int .i64 0), .v (.int .i64 0), .v (.int .i64 0), .v (.int .i64 0), .v (.int .i64 0), .v (.int .i64 0), .v (.int .u64 0), .v (.int .i64 0), .ow 170 ((l6 p x i).map dL), .v (.int .u64 0), .v (.str []), .v (.sl [])]), (.t 170, .tk false 3 1 ((l6 p x i).map dL)), (.h, .hp (K.bump 1 (ae ((c7 p x i).map Port.av))))]) _ (fun (i : Nat) => i ≤ x.names.length) (fun (i : Nat) => x.names.length - i) 0 rfl (Nat.zero_le _) ?_)))))))
 rintro i hI
 refine aC.seq (aC.seq (aC.region (aB.run II 5 rfl (aB.nil (aC.cond rfl (fun hc1 => ?_) (fun hc1 => ?_))))))
 ·have hi := ch hc1
  refine aC.skip (aC.seq (aC.blk (aC.seq (aC.drawn mixed rfl (aD.run II 5 rfl (aD.c1 rfl (aI (aF rfl) ca rfl rfl (Int.natCast_nonneg _) (bz hi) rfl) (aD.run II 1 rfl (aD.c1 rfl (tQ (K.next + 1) ((c7 p x i).map Port.av) (aF rfl) sH rfl rfl (by first | exact Hp.cl | exact Hp.cg _ _) (jJ _) (yN (by rw [fK]; simp)) (lT (c7 p x i) _ (by rw [fK]; omega)) rfl) ?_))))))))
  refine aD.run II 1 rfl (aD.nil (by kernel_rfl) (Kept.now (aC.seq (aC.drawn mixed rfl (aD.run II 5 rfl (aD.c1 rfl (cM (aF rfl) cy rfl rfl (by rw [ee]; exact (hg _ (List.getElem_mem hi))) (by have := bJ (l := c7 p x i) (n := x.names[i]'hi) (by rw [ee]; exact (hg _ (List.getElem_mem hi))); rw [fK] at this; rw [List.length_map]; omega)) ?_))))))
  refine aD.run II 1 rfl (aD.c1 rfl (c9 (aF rfl) de rfl rfl (by first | exact Hp.cl | exact Hp.cg _ _) (jJ _) rfl (gT (by rw [ee]; exact (hg _ (List.getElem_mem hi)))) rfl) ?_)
  refine aD.run II 1 rfl (aD.c3 rfl (aV (aF rfl) bK rfl rfl rfl rfl rfl (by have := @qh p x i; rw [List.length_map]; simp only [List.length_cons, List.length_nil]; omega) (by have := @qh p x i; rw [List.length_map]; simp only [List.length_cons, List.length_nil]; omega)) ?_)
  refine aD.run II 2 rfl (aD.nil (by kernel_rfl) (Kept.now (aC.region (aB.run II 5 rfl (aB.c1 rfl (cM (aF rfl) cy rfl rfl (by rw [ee]; exact (hg _ (List.getElem_mem hi))) (by have := bJ (l := c7 p x i) (n := x.names[i]'hi) (by rw [ee]; exact (hg _ (List.getElem_mem hi))); rw [fK] at this; rw [List.length_map]; omega)) ?_)))))
  refine aB.run II 2 rfl (aB.c1 rfl (uu tc rfl rfl (by first | exact Hp.cl | exact Hp.cg _ _) rfl rfl (jJ _) rfl (gT (by rw [ee]; exact (hg _ (List.getElem_mem hi)))) (aF rfl)) ?_)
  exact aB.nil (aC.region (aB.run II 3 rfl (aB.kept (Kept.k6 rfl Hp.uH (Kept.aX 6 rfl (inc (by omega)) (Kept.aH [.s 6, .b 5, .t 38, .h, .s 2, .b 2, .s 3, .b 3, .s 4, .b 4, .s 5] rfl (by decide) (Kept.cS 38 170 (by decide) rfl (Kept.now ⟨i + 1, by omega, by omega, JD (by rw [yA (hg _ (List.getElem_mem hi))]; exact ux hi) (uw hi hnd (hg _ (List.getElem_mem hi)))⟩))))))))
 ·have hi := ck hc1
  refine aC.exit (aC.seq (aC.region (aB.run II 4 rfl (aB.c3 rfl (jm (aF rfl) fm eU rfl rfl (vU hf hK) (eA _) rfl rfl (List.cons_ne_nil _ _) rfl (by rw [List.length_map]; simp only [List.length_cons, List.length_nil]; omega) (by rw [List.length_map]; simp only [List.length_cons, List.length_nil]; omega)) ?_))))
  refine aB.run II 2 rfl (aB.kept (Kept.Ai 2 (K.next + 1) rfl rfl ((pc (by show K.next + 1 < K.next + 1 + 1; omega) (fun m e ho => by have := ig hf hK ho; omega)).trans Hp.cl) (jJ _) (H4 (p := p) (c7 p x i) (by rw [fK]; simp) (fun m e h => by injection h with h1; have : K.next + 2 = K.next + 1 := h1; omega)) (Kept.now ?_)))
  refine aC.seq (aC.region (aB.run II 2 rfl (aB.nil (aC.ret ?_))))
  have hil : i = x.names.length := (by omega)
  subst hil
  exact ⟨.inr rfl, _, _, ⟨_, (by rw [AB hk]; rfl), (by rw [show (aO p x).ops = p.ops ++ [w9 p x] by rw [AB hk]]; have e := @yB p x; rw [e]; exact Mv.one hf hK (w9 p x))⟩, aE.r1 rfl (.cell eL rfl rfl rfl rfl .nil), rfl⟩
/- the document: steps that make, or take away, a part -/
theorem cm : ie Tryz.prog 31 = some 7 := by kernel_rfl
theorem gY : lk Tryz.prog 48 = some (false, 1) := by kernel_rfl
theorem Kept.slnil {s : St} {Q : St → Prop} (k i : Nat) {cs : List AV} (hk : get s (.s k) = some (.sv (.v (.agg cs)))) (hi : cs[i]? = some .nsl) (h : Kept ((.s k, .sv (.v (.agg (cs.set i (.sl []))))) :: s) Q) : Kept s Q := fun E N a w ⟨G, L, hr⟩ => by
 have hv : V G (a.tmps.getD k undef) (.agg cs) := hr.slot k (.v (.agg cs)) hk
 refine h E N a w ⟨G, L, hr.re (y := .v (.agg (cs.set i (.sl [])))) ?_⟩
 show V G _ _
 generalize a.tmps.getD k undef = u at hv
 cases hv
 rename_i vs hl hf hv
 refine .agg vs _ (by simpa using hl) (fun j c e => ?_) (fun j c e => ?_)
 ·rw [List.getElem?_set] at e
  split at e
  ·split at e
   ·cases e; rfl
   ·cases e
  ·exact hf j c e
 ·rw [List.getElem?_set] at e
  split at e
  ·rename_i e2
   subst e2
   split at e
   ·cases e
    have := hv i .nsl hi
    generalize vs.getD i undef = u at this
    cases this
    exact V.slE none 0
   ·cases e
  ·exact hv j c e
def dw (all : List aR) (os : List AV) : List AV := List.zipWith da all os
theorem fC (all : List aR) (os : List AV) : ∀ e ∈ dw all os, e.cells.length = 7 := fun e he => by
 obtain ⟨i, hi⟩ := List.mem_iff_getElem?.1 he
 unfold dw at hi
 rw [List.getElem?_zipWith] at hi
 split at hi
 ·cases hi; rfl
 ·cases hi
theorem cq {all : List aR} {os : List AV} (h : os.length = all.length) : (dw all os).length = all.length := by unfold dw; simp [h]
theorem gM {all : List aR} {os : List AV} {i : Nat} {p : aR} {o : AV} (hp : all[i]? = some p) (ho : os[i]? = some o) : (dw all os)[i]? = some (da p o) := by
 unfold dw; rw [List.getElem?_zipWith, hp, ho]
theorem sY {all : List aR} {os : List AV} {i : Nat} {p : aR} {o : AV} : (dw all os).set i (da p o) = dw (all.set i p) (os.set i o) := by
 unfold dw
 refine List.ext_getElem? fun j => ?_
 simp only [List.getElem?_set, List.getElem?_zipWith, List.length_zipWith]
 by_cases h : i = j
 ·subst h
  simp only [if_true]
  by_cases h1 : i < all.length
  ·by_cases h2 : i < os.length
   ·rw [if_pos (by omega), if_pos h1, if_pos h2]
   ·rw [if_neg (by omega), if_pos h1, if_neg h2]
  ·rw [if_neg (by omega), if_neg h1]
 ·simp only [h, if_false]
theorem yu {all : List aR} {os : List AV} {p : aR} {o : AV} (h : os.length = all.length) : dw all os ++ [da p o] = dw (all ++ [p]) (os ++ [o]) := by
 unfold dw; rw [List.zipWith_append h.symm]; rfl
structure LH (H0 K : Hp) (A : Nat) (os : List AV) (all : List aR) : Prop where
 fin : K.fin
 nx : H0.next ≤ K.next
 old : ∀ i, i < H0.next → K.obj i = H0.obj i
 lo : H0.next ≤ A
 len : os.length = all.length
 row : K.obj A = some (ae (dw all os))
 ops : ∀ (i : Nat) o p, os[i]? = some o → all[i]? = some p → dC K o 13 (p.ops.map al.av)
 ids : ∀ (i : Nat) id n e, os[i]? = some (.os id n e) → H0.next ≤ id ∧ id ≠ A
 dist : ∀ (i j : Nat) id n e n' e', os[i]? = some (.os id n e) → os[j]? = some (.os id n' e') → i = j
section
variable {H0 K K' : Hp} {A i : Nat} {os : List AV} {all : List aR} {p q : aR} {o o' : AV} {ops : List al}
theorem LH.alt (I : LH H0 K A os all) : A < K.next := by
 apply Classical.byContradiction
 intro hn
 have := I.row
 rw [I.fin A (by omega)] at this; cases this
theorem LH.sA (I : LH H0 K A os all) {id n e : Nat} (ho : os[i]? = some (.os id n e)) : id < K.next := by
 have hi := (List.getElem?_eq_some_iff.1 ho).1
 have hl := I.len
 exact ig I.fin (I.ops i _ _ ho (List.getElem?_eq_getElem (by omega))) rfl
theorem LH.zM (I : LH H0 K A os all) (ho : os[i]? = some o) (M : Mv K o K' o' ops) : K'.obj A = some (ae (dw all os)) := by
 rw [M.aH A I.alt fun n e h => (I.ids i A n e (h ▸ ho)).2 rfl, I.row]
theorem Mv.I6 (M : Mv K o K' o' ops) {id n e : Nat} (h : o' = .os id n e) : o = .os id n e ∨ K.next ≤ id := by
 rcases M.fresh with h1 | ⟨id2, n2, e2, h1, h2⟩
 ·exact .inl (h1 ▸ h)
 ·rw [h1] at h; cases h; exact .inr h2
theorem LH.IS (I : LH H0 K A os all) (hp : all[i]? = some p) (ho : os[i]? = some o) (M : Mv K o K' o' q.ops) {B : Nat} {L : Hp} (hBf : L.fin) (hB1 : B = A ∨ K'.next ≤ B) (hLn : K'.next ≤ L.next) (hBr : L.obj B = some (ae (dw (all.set i q) (os.set i o')))) (hLo : ∀ j, j < K'.next → j ≠ B → L.obj j = K'.obj j) : LH H0 L B (os.set i o') (all.set i q) := by
 have hA := I.alt
 have hnx := M.nx
 have hlo := I.lo
 have hB0 : H0.next ≤ B := by have := I.nx; rcases hB1 with h | h <;> omega
 have hget : ∀ (j : Nat) (o2 : AV), (os.set i o')[j]? = some o2 → (j = i ∧ o2 = o') ∨ (j ≠ i ∧ os[j]? = some o2) := fun j o2 h => by
  rw [List.getElem?_set] at h
  split at h
  ·rename_i e
   split at h
   ·cases h; exact .inl ⟨e.symm, rfl⟩
   ·cases h
  ·rename_i e; exact .inr ⟨fun h2 => e h2.symm, h⟩
 have hid : ∀ (j id n e : Nat), (os.set i o')[j]? = some (AV.os id n e) → H0.next ≤ id ∧ id ≠ B ∧ id < K'.next := fun j id n e h => by
  rcases hget j _ h with ⟨rfl, h2⟩ | ⟨hne, h2⟩
  ·have hlt := ig M.fin M.res h2.symm
   rcases M.I6 h2.symm with h3 | h3
   ·rw [h3] at ho
    obtain ⟨q1, q2⟩ := I.ids j id n e ho
    have := I.sA ho
    exact ⟨q1, by rcases hB1 with h | h <;> omega, hlt⟩
   ·have hk : K'.obj A = some (ae (dw all os)) := I.zM ho M
    exact ⟨by have := I.nx; omega, by rcases hB1 with h | h <;> omega, hlt⟩
  ·obtain ⟨q1, q2⟩ := I.ids j id n e h2
   have := I.sA h2
   exact ⟨q1, by rcases hB1 with h | h <;> omega, by omega⟩
 refine ⟨hBf, by have := I.nx; omega, fun j hj => ?_, hB0, by simp [I.len], hBr, fun j o2 p2 h1 h2 => ?_, fun j id n e h => ⟨(hid j id n e h).1, (hid j id n e h).2.1⟩, fun j k id n e n' e' h1 h2 => ?_⟩
 ·have h1 := I.nx
  rw [hLo j (by omega) (by omega), M.aH j (by omega) fun n e h => by have := (I.ids i j n e (h ▸ ho)).1; omega]
  exact I.old j hj
 ·have hlift : ∀ (id n e : Nat), o2 = .os id n e → L.obj id = K'.obj id := fun id n e h => by
   rw [h] at h1
   obtain ⟨_, q2, q3⟩ := hid j id n e h1
   exact hLo id q3 q2
  rcases hget j _ h1 with ⟨rfl, rfl⟩ | ⟨hne, h3⟩
  ·rw [List.getElem?_set] at h2
   simp only [if_true] at h2
   split at h2
   ·cases h2; exact gZ M.res hlift
   ·cases h2
  ·rw [List.getElem?_set, if_neg (fun h => hne h.symm)] at h2
   refine gZ (I.ops j o2 p2 h3 h2) fun id n e h => ?_
   rw [hlift id n e h]
   rw [h] at h3
   exact M.aH id (I.sA h3) fun n2 e2 h4 => hne (I.dist j i id n e n2 e2 h3 (h4 ▸ ho))
 ·rcases hget j _ h1 with ⟨rfl, h3⟩ | ⟨hne, h3⟩ <;> rcases hget k _ h2 with ⟨rfl, h4⟩ | ⟨hne2, h4⟩
  ·rfl
  ·rcases M.I6 h3.symm with h5 | h5
   ·exact absurd (I.dist k j id n' e' n e h4 (h5 ▸ ho)) hne2
   ·have := I.sA h4; omega
  ·rcases M.I6 h4.symm with h5 | h5
   ·exact absurd (I.dist j k id n e n' e' h3 (h5 ▸ ho)) hne
   ·have := I.sA h3; omega
  ·exact I.dist j k id n e n' e' h3 h4
theorem LH.put (I : LH H0 K A os all) (hp : all[i]? = some p) (ho : os[i]? = some o) (M : Mv K o K' o' q.ops) : LH H0 (K'.set A (ae ((dw all os).set i (da q o')))) A (os.set i o') (all.set i q) := by
 have hA : A < K'.next := Nat.lt_of_lt_of_le I.alt M.nx
 refine I.IS hp ho M (jE M.fin hA _) (.inl rfl) (Nat.le_refl _) (by rw [sY]; exact Hp.dG) fun j _ hj => ?_
 show (if j = A then _ else K'.obj j) = _
 rw [if_neg hj]
theorem LH.more (I : LH H0 K A os all) {L : Hp} {B : Nat} {w : aR} (hw : w.ops = []) (hBf : L.fin) (hB : K.next ≤ B) (hLn : K.next ≤ L.next) (hBr : L.obj B = some (ae (dw (all ++ [w]) (os ++ [AV.nsl])))) (hLo : ∀ j, j < K.next → j ≠ A → L.obj j = K.obj j) : LH H0 L B (os ++ [.nsl]) (all ++ [w]) := by
 have hnx := I.nx
 have hget : ∀ (j : Nat) (o2 : AV), (os ++ [AV.nsl])[j]? = some o2 → os[j]? = some o2 ∨ (j = os.length ∧ o2 = .nsl) := fun j o2 h => by
  rcases Nat.lt_or_ge j os.length with q | q
  ·rw [List.getElem?_append_left q] at h; exact .inl h
  ·rw [List.getElem?_append_right q] at h
   have h2 := (List.getElem?_eq_some_iff.1 h).1
   simp at h2
   have : j - os.length = 0 := by omega
   rw [this] at h
   cases h
   exact .inr ⟨by omega, rfl⟩
 refine ⟨hBf, by omega, fun j hj => by have := I.lo; rw [hLo j (by omega) (by omega), I.old j hj], by have := I.nx; omega, by simp [I.len], hBr, fun j o2 p2 h1 h2 => ?_, fun j id n e h => ?_, fun j k id n e n' e' h1 h2 => ?_⟩
 ·rcases hget j _ h1 with h | ⟨rfl, rfl⟩
  ·have hj := (List.getElem?_eq_some_iff.1 h).1
   rw [List.getElem?_append_left (by have := I.len; omega)] at h2
   exact gZ (I.ops j o2 p2 h h2) fun id n e h3 => (by rw [h3] at h; exact hLo id (I.sA h) (I.ids j id n e h).2)
  ·rw [I.len, List.getElem?_append_right (Nat.le_refl _), Nat.sub_self] at h2
   cases h2
   exact .inl ⟨rfl, by rw [hw]; rfl⟩
 ·rcases hget j _ h with h | ⟨_, h⟩
  ·have := I.sA h
   exact ⟨(I.ids j id n e h).1, by omega⟩
  ·cases h
 ·rcases hget j _ h1 with h | ⟨_, h⟩
  ·rcases hget k _ h2 with h' | ⟨_, h'⟩
   ·exact I.dist j k id n e n' e' h h'
   ·cases h'
  ·cases h
end
theorem three {K : Hp} (hf : K.fin) {a b c : List Hc} : ((((K.new a).del K.next).new b).del (K.next + 1)).new c = K.bump 2 c := by
 rw [Hp.lb hf, show ((K.bump 0 a).del K.next).new b = K.bump 1 b from Hp.ir]
 exact Hp.ir
theorem xV {all : List aR} {os : List AV} (h : os.length = all.length) {i : Nat} (hi : i < all.length) : (dw all os)[i]? = some (da (all.getD i bY) (os.getD i .nsl)) :=
 gM (by rw [List.getD_eq_getElem?_getD, List.getElem?_eq_getElem hi]; rfl) (by rw [List.getD_eq_getElem?_getD, List.getElem?_eq_getElem (by omega)]; rfl)
theorem xp {l : List Port} (h : l ≠ []) : (l.map Port.av)[(0 : Int).toNat]? = some (.agg (l.headD gU).cells) := by
 cases l with
 | nil => exact absurd rfl h
 | cons a l => rfl
theorem LH.IQ {H0 K : Hp} {A i : Nat} {os : List AV} {all : List aR} {p q w : aR} {o o' : AV} (I : LH H0 K A os all) (hp : all[i]? = some p) (ho : os[i]? = some o) {K1 : Hp} (M : Mv K o K1 o' q.ops) (hw : w.ops = []) :
  LH H0 ((K1.bump 2 (ae (dw (all ++ [w]) (os ++ [AV.nsl])))).set (K1.next + 2) (ae ((dw (all ++ [w]) (os ++ [AV.nsl])).set i (da q o')))) (K1.next + 2) ((os ++ [AV.nsl]).set i o') ((all ++ [w]).set i q) := by
 have hi := (List.getElem?_eq_some_iff.1 hp).1
 have hl := I.len
 have J := I.put hp ho M
 have e1 : (os ++ [AV.nsl]).set i o' = os.set i o' ++ [.nsl] := List.set_append_left _ _ (by omega)
 have e2 : (all ++ [w]).set i q = all.set i q ++ [w] := List.set_append_left _ _ hi
 have hz : (dw (all ++ [w]) (os ++ [AV.nsl])).set i (da q o') = dw (all.set i q ++ [w]) (os.set i o' ++ [.nsl]) := by rw [sY, e1, e2]
 rw [e1, e2]
 have hn : (K1.bump 2 (ae (dw (all ++ [w]) (os ++ [AV.nsl])))).next = K1.next + 3 := rfl
 refine J.more hw (jE (pZ _ _) (by rw [hn]; omega) _) (show K1.next ≤ K1.next + 2 by omega) (show K1.next ≤ K1.next + 3 by omega) (by rw [hz]; exact Hp.dG) fun j hj hA => ?_
 have hj' : j < K1.next := hj
 show (if j = K1.next + 2 then _ else (K1.bump 2 _).obj j) = if j = A then _ else K1.obj j
 rw [if_neg (by omega), if_neg hA, Hp.kD hj']
theorem LH.IP {H0 K K' : Hp} {A i : Nat} {os : List AV} {all : List aR} {p q : aR} {o o' : AV} {ops : List al} (I : LH H0 K A os all) (hp : all[i]? = some p) (ho : os[i]? = some o) (M : Mv K o K' o' ops) (hq : q.ops = ops) : LH H0 (K'.set A (ae ((dw all os).set i (da q o')))) A (os.set i o') (all.set i q) := by
 subst hq; exact I.put hp ho M
theorem LH.Gx {H0 K : Hp} {A i : Nat} {os : List AV} {all : List aR} {p q w : aR} {o o' : AV} {ops : List al} (I : LH H0 K A os all) (hp : all[i]? = some p) (ho : os[i]? = some o) {K1 : Hp} (M : Mv K o K1 o' ops) (hw : w.ops = []) (hq : q.ops = ops) :
  LH H0 ((K1.bump 2 (ae (dw (all ++ [w]) (os ++ [AV.nsl])))).set (K1.next + 2) (ae ((dw (all ++ [w]) (os ++ [AV.nsl])).set i (da q o')))) (K1.next + 2) ((os ++ [AV.nsl]).set i o') ((all ++ [w]).set i q) := by
 subst hq; exact I.IQ hp ho M hw
def Ho (H0 : Hp) (all : List aR) (r : AV) (K' : Hp) : Prop := ∃ A os, r = .os A all.length 7 ∧ LH H0 K' A os all
def tS (f : Port) (n : Int) (k : Nat) : al := { gE with kind := 4, a := f.reg, b := n, part := k }
def nV (f : Port) (n : Int) : al := { gE with kind := 5, a := f.reg, b := n, part := f.part }
def HJ (f : Port) (x : aP) : aR := bV { bY with name := x.dest, born := true, regs := 1, ins := [{ f with reg := 0 }], outs := [{ f with reg := 0 }] }
def HK (x : aP) (n : Int) (k : Nat) : Port := ⟨{ dg with name := x.also, num := x.num, ty := 15, ref := x.dest }, n, k⟩
def Dq (p : aR) (x : aP) (all : List aR) : aR := { p with ops := p.ops ++ [tS (aL p.outs x.field) p.regs all.length], regs := p.regs + 1, outs := bN (aT p.outs x.field) (HK x p.regs all.length) }
def Dp (p : aR) (x : aP) (all : List aR) : aR := { p with ops := p.ops ++ [nV (aL p.outs x.field) p.regs], regs := p.regs + 1, outs := bN (aT p.outs x.field) { ((all.getD (aL p.outs x.field).part.toNat bY).outs.headD gU) with reg := p.regs } }
theorem BZ {all : List aR} {i : Nat} {x : aP} {p : aR} (hp : all[i]? = some p) (h : x.kind = 6) : au all i x = (all ++ [HJ (aL p.outs x.field) x]).set i (Dq p x all) := by
 have hg : all.getD i bY = p := by rw [List.getD_eq_getElem?_getD, hp]; rfl
 unfold au
 dsimp only
 rw [hg, if_pos h]; rfl
theorem BY {all : List aR} {i : Nat} {x : aP} {p : aR} (hp : all[i]? = some p) (h : x.kind = 7) : au all i x = all.set i (Dp p x all) := by
 have hg : all.getD i bY = p := by rw [List.getD_eq_getElem?_getD, hp]; rfl
 unfold au
 dsimp only
 rw [hg, if_neg (by omega), if_pos h]; rfl
theorem BX {all : List aR} {i : Nat} {x : aP} {p : aR} (hp : all[i]? = some p) (h6 : x.kind ≠ 6) (h7 : x.kind ≠ 7) : au all i x = all.set i (aO p x) := by
 have hg : all.getD i bY = p := by rw [List.getD_eq_getElem?_getD, hp]; rfl
 unfold au
 dsimp only
 rw [hg, if_neg h6, if_neg h7]
theorem tD (H0 K : Hp) (A : Nat) (os : List AV) (all : List aR) (at_ : Nat) (x : aP) (p : aR) (o : AV) (I : LH H0 K A os all) (hp : all[at_]? = some p) (ho : os[at_]? = some o) (hal : all.length ≤ 100) (hl : p.ops.length ≤ 1000) (hou : p.outs.length ≤ 100) (hr : 0 ≤ p.regs ∧ p.regs ≤ 1000) (hk : x.kind = 6 ∨ x.kind = 7) (h7 : x.kind = 7 → 0 ≤ (aL p.outs x.field).part ∧ (aL p.outs x.field).part < (all.length : Int) ∧ (all.getD (aL p.outs x.field).part.toNat bY).outs ≠ []) : fw Tryz.prog 52 [.os A all.length 7, .int .i64 (at_ : Int), x.av, (aL p.outs x.field).av] K (Ho H0 (au all at_ x)) := by
 have hat := (List.getElem?_eq_some_iff.1 hp).1
 have hln := I.len
 refine fw.aN Tryz.func52 rfl rfl (aF rfl) (aC.seq (aC.region (aB.run II 3 rfl (aB.nil (aC.seq (aC.region (aB.run II 2 rfl (aB.c1 rfl (cM (aF rfl) cm rfl rfl (Int.natCast_nonneg _) (by omega)) (aB.c1 rfl (ed (aF rfl) eL rfl rfl I.row (fC _ _) rfl (gM hp ho)) (aB.run II 2 rfl (aB.nil (aC.seq (aC.region (aB.run II 3 rfl (aB.nil (aC.seq (aC.region (aB.run II 1 rfl ?_))))))))))))))))))
 refine aB.c1 rfl (bI (aF rfl) rfl rfl (jZ (by omega) (by omega))) (aB.run II 2 rfl (aB.nil (aC.seq (aC.region (aB.run II 4 rfl (aB.c1 rfl (aG (aF rfl) pL rfl (gS _ _ (by omega))) (aB.run II 2 rfl (aB.nil (aC.seq (aC.seq (aC.region (aB.run II 3 rfl (aB.nil (aC.cond rfl (fun hc1 => ?_) (fun hc1 => ?_)))))))))))))))
 ·refine aC.seq (aC.region (aB.run II 3 rfl (aB.nil (aC.seq (aC.region (aB.run II 2 rfl (aB.nil (aC.seq (aC.region (aB.run II 6 rfl (aB.c1 rfl (nU (aF rfl) wL Gk rfl rfl) (aB.aJ (Kept.slnil 41 5 rfl rfl (Kept.now (aB.c1 rfl (aG (aF rfl) vd rfl (uh { bY with name := x.dest, born := true, regs := 1, ins := [{ (aL p.outs x.field) with reg := 0 }], outs := [{ (aL p.outs x.field) with reg := 0 }] } (.nsl) (by show 1 ≤ 1000; decide) (by show 0 ≤ 100000; decide))) ?_)))))))))))))))
  refine aB.run II 2 rfl (aB.nil (aC.seq (aC.region (aB.run II 9 rfl (aB.c3 rfl (jm (aF rfl) fm eU rfl rfl (I.ops _ _ _ ho hp) (eA _) rfl rfl (List.cons_ne_nil _ _) rfl (by rw [List.length_map]; simp only [List.length_cons, List.length_nil]; omega) (by rw [List.length_map]; simp only [List.length_cons, List.length_nil]; omega)) ?_)))))
  refine aB.run II 2 rfl (aB.nil (aC.seq (aC.region (aB.run II 5 rfl (aB.c1 rfl (aG (aF rfl) pM rfl (lU _ _ _ _)) (aB.run II 2 rfl (aB.nil (aC.seq (aC.region (aB.run II 9 rfl (aB.nil (aC.seq (aC.region (aB.run II 3 rfl (aB.c1 rfl (aG (aF rfl) jU rfl (gC (aT p.outs x.field) (HK x p.regs all.length) (by have := bH p.outs x.field; omega))) ?_)))))))))))))))
  refine aB.run II 2 rfl (aB.nil (aC.seq (aC.drawn mixed rfl (aD.c3 rfl (gw («as» := []) (aF rfl) km iz rfl rfl rfl (ft rfl) rfl rfl) (aD.run II 1 rfl (aD.c3 rfl (Cp (aF rfl) km iz rfl rfl (Hp.cg _ (ae [])) (fun _ h => by cases h) rfl rfl ((Hp.cN _ _ (by rw [mc]; have := I.alt; omega)).trans (I.zM ho (Mv.app I.fin (tS (aL p.outs x.field) p.regs all.length)))) (fC _ _) (cq hln) rfl (by rw [cq hln]; omega) (by rw [cq hln]; omega)) ?_))))))
  refine aD.run II 2 rfl (aD.c3 rfl (iF (aF rfl) km iz rfl rfl (Hp.cg _ _) (fC _ _) (by simp) rfl rfl rfl (by rw [cq hln]; simp only [List.length_cons, List.length_nil]; omega) (by rw [cq hln]; simp only [List.length_cons, List.length_nil]; omega)) ?_)
  refine aD.run II 1 rfl (aD.nil (by kernel_rfl) (Kept.now (aC.seq (aC.aJ (Kept.k6 rfl (show _ = (lC K o (ae (p.ops.map al.av ++ [(tS (aL p.outs x.field) p.regs all.length).av]))).bump 2 (ae (dw (all ++ [HJ (aL p.outs x.field) x]) (os ++ [.nsl]))) from (three (pd I.fin _ _)).trans (congrArg _ (congrArg ae (yu hln)))) (Kept.now (aC.region (aB.run II 3 rfl (aB.c1 rfl (cM (aF rfl) cm rfl rfl (Int.natCast_nonneg _) (by rw [cq hln]; simp only [List.length_cons, List.length_nil]; omega)) ?_)))))))))
  refine aB.c1 rfl (kq eL rfl rfl Hp.cl rfl (fC _ _) rfl (by rw [cq (by simp [hln])]; simp; omega) rfl) ?_
  exact aB.nil (aC.seq (aC.region (aB.run II 2 rfl (aB.nil (aC.ret (⟨.inr rfl, _, _, ⟨(lC K o (ae (p.ops.map al.av ++ [(tS (aL p.outs x.field) p.regs all.length).av]))).next + 2, (os ++ [AV.nsl]).set at_ (.os K.next ((p.ops.map al.av).length + 1) 13), (by rw [BZ hp (by simpa using hc1), List.length_set, List.length_append, cq hln, Nat.zero_add all.length]; rfl), (by rw [BZ hp (by simpa using hc1)]; exact I.Gx (q := Dq p x all) hp ho (Mv.app I.fin (tS (aL p.outs x.field) p.regs all.length)) rfl rfl)⟩, aE.r1 rfl (.tmp rfl .nil), rfl⟩))))))
 ·refine aC.skip (aC.seq (aC.region (aB.run II 9 rfl (aB.c3 rfl (jm (aF rfl) fm eU rfl rfl (I.ops _ _ _ ho hp) (eA _) rfl rfl (List.cons_ne_nil _ _) rfl (by rw [List.length_map]; simp only [List.length_cons, List.length_nil]; omega) (by rw [List.length_map]; simp only [List.length_cons, List.length_nil]; omega)) ?_))))
  refine aB.run II 2 rfl (aB.nil (aC.seq (aC.region (aB.run II 3 rfl (aB.c1 rfl (cM (aF rfl) cm rfl rfl (h7 (by have : x.kind ≠ 6 := (by simpa using hc1); omega)).1 (h7 (by have : x.kind ≠ 6 := (by simpa using hc1); omega)).2.1) ?_)))))
  refine aB.run II 1 rfl (aB.c1 rfl (c9 (aF rfl) gY rfl rfl (I.zM ho (Mv.app I.fin (nV (aL p.outs x.field) p.regs))) (fC _ _) rfl (xV hln (by have := (h7 (by have : x.kind ≠ 6 := (by simpa using hc1); omega)).2.1; have := (h7 (by have : x.kind ≠ 6 := (by simpa using hc1); omega)).1; omega)) rfl) ?_)
  refine aB.c1 rfl (aI (aF rfl) cy rfl rfl (by decide) (xp (h7 (by have : x.kind ≠ 6 := (by simpa using hc1); omega)).2.2) rfl) ?_
  refine aB.run II 3 rfl (aB.nil (aC.seq (aC.region (aB.run II 3 rfl (aB.nil (aC.seq (aC.region (aB.run II 3 rfl (aB.c1 rfl (aG (aF rfl) jU rfl (gC (aT p.outs x.field) { (all.getD (aL p.outs x.field).part.toNat bY).outs.headD gU with reg := p.regs } (by have := bH p.outs x.field; omega))) ?_)))))))))
  refine aB.run II 2 rfl (aB.nil (aC.seq (aC.region (aB.run II 3 rfl (aB.c1 rfl (cM (aF rfl) cm rfl rfl (Int.natCast_nonneg _) (by omega)) (aB.c1 rfl (kq eL rfl rfl (I.zM ho (Mv.app I.fin (nV (aL p.outs x.field) p.regs))) rfl (fC _ _) rfl (by rw [cq hln]; exact hat) rfl) ?_))))))
  exact aB.nil (aC.seq (aC.region (aB.run II 2 rfl (aB.nil (aC.ret (⟨.inr rfl, _, _, ⟨A, os.set at_ (.os K.next ((p.ops.map al.av).length + 1) 13), (by rw [BY hp (by have : x.kind ≠ 6 := (by simpa using hc1); omega), List.length_set]), (by rw [BY hp (by have : x.kind ≠ 6 := (by simpa using hc1); omega)]; exact I.IP (q := Dp p x all) hp ho (Mv.app I.fin (nV (aL p.outs x.field) p.regs)) rfl)⟩, aE.r1 rfl (.tmp rfl .nil), rfl⟩))))))
end Go.Proofs.YtpifnegikoldmaaGreatDoor.X
