/- the document: migrations lowered -/
import Derived.Test.YtlijgcifhhcfaaaGreatDoorZCH
import Derived.Test.YtlijgcifhhcfaaaGreatDoorZCG
import Derived.Test.YtlijgcifhhcfaaaGreatDoorZCC
import Derived.RangeFuncSeq
import Derived.RangeFuncRecord
import Derived.OrdersIn
import Derived.TacticsIn
import Derived.ControlIn
import Derived.LoopNIn
import Derived.RangeFuncIn
import Derived.RangeFuncLeaves
set_option linter.unusedVariables false
set_option linter.unusedSimpArgs false
set_option linter.unusedSectionVars false
set_option maxRecDepth 100000
namespace Go.Proofs.YtlijgcifhhcfaaaGreatDoor.X
open Go Go.RowKit Go.Proofs
theorem tD : aa Tryz.prog 26 = true := by kernel_rfl
theorem Iy : aa Tryz.prog 38 = true := by kernel_rfl
theorem Ix : aa Tryz.prog 40 = true := by kernel_rfl
theorem kQ : lk Tryz.prog 37 = some (true, 1) := by kernel_rfl
theorem Di : Tryz.prog.underlying 106 = some (TypeDesc.slice 9) := Tryz.underlying106
theorem uE {s : aN} {l : List aS} {L : List aN} (hs : s.dW) (hb : ∀ x ∈ l, x.dW ∧ x.names.length ≤ 1000) (hl : l.length ≤ 9223372036854775807) (h : s.all l = .ok L) : Pure Tryz.prog 26 [s.av, .sl (l.map aS.av)] (.tup [.sl (L.map aN.av), .int .i64 (tN s l), .int .i64 0]) := by
 have := GV s l hs hb hl
 rw [h] at this; exact this
theorem uF {s : aN} {l : List aS} {e : Int} (hs : s.dW) (hb : ∀ x ∈ l, x.dW ∧ x.names.length ≤ 1000) (hl : l.length ≤ 9223372036854775807) (h : s.all l = .error e) : Pure Tryz.prog 26 [s.av, .sl (l.map aS.av)] (.tup [.sl [], .int .i64 (tN s l), .int .i64 e]) := by
 have := GV s l hs hb hl
 rw [h] at this; exact this
theorem qe : ∀ {l : List aS} {s : aN} {acc : List aN} {e : Int}, aN.eA l s acc = .error e → e ≠ 0
 | [], _, _, _, h => by cases h
 | x :: l, s, acc, e, h => by
  unfold aN.eA at h
  split at h
  ·exact qe h
  ·rename_i e2 h2
   cases h
   exact qa h2
theorem vL {s : aN} {l : List aS} {e : Int} (h : s.all l = .error e) : e ≠ 0 := by
 unfold aN.all at h
 split at h
 ·rename_i hc; cases h; exact hc
 ·split at h
  ·cases h; decide
  ·exact qe h
def cH (ps : List ak) : AV := .agg [.sl (ps.map ak.av)]
def jf (s : aN) (l : List aS) : AV := match s.all l with
 | .ok _ => .tup [cH (lower s l), .int .i64 0]
 | .error _ => .tup [.agg [.sl []], .int .i64 1]
structure LI (s : aN) (l : List aS) (L : List aN) (H : Hp) (q : Nat) (w : gR) (K : Hp) (A : Nat) (os : List AV) : Prop where
 lh : LH H K A os w.all
 eq : w = (l.take q).foldl gR.step (jg s)
 bd : ∀ p ∈ w.all, p.bd q
 len : w.all.length ≤ 6 + q
 inv : ∃ t acc, Inv t w ∧ acc.getLast? = some t ∧ aN.eA (l.drop q) t acc = .ok L
theorem DG {s : aN} (hs : s.sm) : ∀ p ∈ bm s, p.bd 0 := fun p hp => by
 obtain ⟨m, hm, rfl⟩ := List.mem_map.1 (show p ∈ s.msgs.map fun m => cR (kJ s m) from hp)
 have hf := hs.f m hm
 have hpo : (bU s m).length = m.fields.length := by unfold bU; simp
 refine ⟨by show 0 ≤ 0; omega, by show (bU s m).length ≤ _; omega, by show 0 ≤ (m.fields.length : Int); omega, by show (m.fields.length : Int) ≤ _; omega, ?_⟩
 have e : (cR (kJ s m)).ever = uj (kJ s m) (kJ s m).outs.length := by unfold uj; rw [List.take_of_length_le (Nat.le_refl _)]; rfl
 rw [e]
 have := o5 (kJ s m) (kJ s m).outs.length
 have h0 : (kJ s m).ever.length = 0 := rfl
 have h1 : (kJ s m).outs.length = (bU s m).length := rfl
 omega
theorem LI.start {s : aN} {l : List aS} {L : List aN} {H : Hp} (h : s.all l = .ok L) : LI s l L H 0 (jg s) (H.bump s.msgs.length (bC ((bm s).map jr))) (H.next + s.msgs.length) (List.replicate s.msgs.length .nsl) := by
 unfold aN.all at h
 split at h
 ·cases h
 ·rename_i hc
  have hok := aN.ga (s := s) (by simpa using hc)
  split at h
  ·cases h
  ·refine ⟨LH.begin, rfl, DG hok.sm, ?_, s, [s], Inv.begin hok, rfl, h⟩
   show (bm s).length ≤ 6
   have := hok.sm.m
   unfold bm; simp; omega
theorem tM {s : aN} {l : List aS} {L : List aN} (h : s.all l = .ok L) : s.gC = 0 ∧ l.length ≤ 16 := by
 unfold aN.all at h
 split at h
 ·cases h
 ·rename_i hc
  split at h
  ·cases h
  ·exact ⟨by simpa using hc, by omega⟩
theorem LI.go {s : aN} {l : List aS} {L : List aN} {H : Hp} {q : Nat} {w : gR} {K : Hp} {A : Nat} {os : List AV} (I : LI s l L H q w K A os) (hq : q < l.length) :
  ∃ k p o, rr w l[q] k p ∧ os[k]? = some o ∧ k < w.all.length ∧ w.names.length = w.all.length ∧ ∃ t acc, Inv t (w.step l[q]) ∧ acc.getLast? = some t ∧ aN.eA (l.drop (q + 1)) t acc = .ok L := by
 obtain ⟨t, acc, I1, h1, h2⟩ := I.inv
 rw [List.drop_eq_getElem_cons hq] at h2
 unfold aN.eA at h2
 split at h2
 ·rename_i t' h3
  obtain ⟨m, at_, A1⟩ := jn h3
  obtain ⟨k, p, W⟩ := A9 I1 A1
  have hk := (List.getElem?_eq_some_iff.1 W.pt).1
  have hl := I.lh.len
  exact ⟨k, p, os[k]'(by omega), W, List.getElem?_eq_getElem (by omega), hk, I1.len, t', acc ++ [t'], I1.step h3, by simp, h2⟩
 ·cases h2
theorem LI.next {s : aN} {l : List aS} {L : List aN} {H : Hp} {q : Nat} {w : gR} {K : Hp} {A : Nat} {os : List AV} (I : LI s l L H q w K A os) (hq : q < l.length) (hq16 : q ≤ 16) {k : Nat} {p : ak} (W : rr w l[q] k p)
  (hg : ∃ t acc, Inv t (w.step l[q]) ∧ acc.getLast? = some t ∧ aN.eA (l.drop (q + 1)) t acc = .ok L) {K1 : Hp} {A1 : Nat} {za : List AV} (J : LH H K1 A1 za (bZ w.all k l[q])) {p1 : ak} {o1 : AV} (hp1 : (bZ w.all k l[q])[k]? = some p1) (ho1 : za[k]? = some o1) :
  LI s l L H (q + 1) (w.step l[q]) (K1.set A1 (bC ((eK (bZ w.all k l[q]) za).set k (dx (cR p1) o1)))) A1 (za.set k o1) := by
 obtain ⟨hb, hlen, _⟩ := xH I.bd W.pt W.kd
 have hall : (w.step l[q]).all = (bZ w.all k l[q]).set k (cR p1) := by
  show ((bZ w.all (eM w.names (l[q]).msg) l[q]).set (eM w.names (l[q]).msg) (cR ((bZ w.all (eM w.names (l[q]).msg) l[q]).getD (eM w.names (l[q]).msg) cr))) = _
  rw [W.ix, List.getD_eq_getElem?_getD, hp1]; rfl
 refine ⟨by rw [hall]; exact J.put (q := cR p1) hp1 ho1 (Mv.same J.fin (J.ops k o1 p1 ho1 hp1)), ?_, fun y hy => ?_, ?_, hg⟩
 ·rw [List.take_add_one, List.getElem?_eq_getElem hq, List.foldl_append, ← I.eq]; rfl
 ·rw [hall] at hy
  rcases m5 hy with rfl | hy
  ·exact (hb p1 (List.mem_of_getElem? hp1)).bd hq16
  ·exact (hb y hy).up hq16
 ·rw [hall, List.length_set]
  have := I.len
  omega
def sh (w : gR) (x : aS) (p : ak) : List aw := if x.kind = 7 then w.names.set (aP p.outs x.field).part.toNat [] else w.names
theorem pd {w : gR} {x : aS} {k : Nat} {p : ak} (W : rr w x k p) : (w.step x).names = if x.kind = 6 then sh w x p ++ [x.dest] else sh w x p := by
 have e : w.all.getD (eM w.names x.msg) cr = p := by rw [W.ix, List.getD_eq_getElem?_getD, W.pt]; rfl
 show (if x.kind = 6 then (if x.kind = 7 then w.names.set (aP (w.all.getD (eM w.names x.msg) cr).outs x.field).part.toNat [] else w.names) ++ [x.dest] else _) = _
 rw [e]; rfl
theorem zD (l : List aw) : (l.map AV.str).flatMap AV.cells = l.map AV.str := by
 induction l with
 | nil => rfl
 | cons a l ih => rw [List.map_cons, List.flatMap_cons, ih]; rfl
theorem Jt {l : List aw} {k : Nat} (hk : k < l.length) : vQ false 1 ((((l.map AV.str).flatMap AV.cells).drop (k * 1)).map .v) = some (.v (.str l[k])) := by
 rw [zD]
 show (List.map Sv.v _)[0]? = _
 rw [List.getElem?_map, List.getElem?_drop, Nat.mul_one, Nat.add_zero, List.getElem?_map, List.getElem?_eq_getElem hk]; rfl
theorem vg {xs : List AV} {k : Nat} {a : AV} (h : k < xs.length) : im xs k [a] = xs.set k a := by
 unfold im
 rw [List.set_eq_take_append_cons_drop, if_pos h]
 simp
theorem Jx {rest : List (aM × CV)} {n n' t el esz : Nat} {a b : List AV} (hn : n = n') (h : a = b) : ((aM.s 10, CV.sv (.om t n)) :: (aM.t t, CV.tk true el esz a) :: rest) = [(aM.s 10, CV.sv (.om t n')), (aM.t t, CV.tk true el esz b)] ++ rest := by rw [hn, h]; rfl
theorem LA {v : CV} {rest : List (aM × CV)} {n n' t el esz : Nat} {a b : List AV} (hn : n = n') (h : a = b) : ((aM.s 11, v) :: (aM.s 10, CV.sv (.om t n)) :: (aM.t t, CV.tk true el esz a) :: rest) = [(aM.s 11, v), (aM.s 10, CV.sv (.om t n')), (aM.t t, CV.tk true el esz b)] ++ rest := by rw [hn, h]; rfl
theorem LJ {v : CV} {rest : List (aM × CV)} {A n n' m m' t el esz : Nat} {a b : List AV} {K : Hp} (h1 : n = n') (h2 : m = m') (h : a = b) : ((aM.s 12, v) :: (aM.s 9, CV.sv (.v (.os A n 7))) :: (aM.s 10, CV.sv (.om t m)) :: (aM.t t, CV.tk true el esz a) :: (aM.h, CV.hp K) :: rest) = [(aM.s 12, v), (aM.s 9, CV.sv (.v (.os A n' 7))), (aM.s 10, CV.sv (.om t m')), (aM.t t, CV.tk true el esz b), (aM.h, CV.hp K)] ++ rest := by rw [h1, h2, h]; rfl
theorem Hr {s : St} {t : Nat} {x : Sv} (h : get s (.s t) = some (.sv x)) : iC (.tmp t) s = some x := by simp [iC, h]
theorem Hq {s : St} {t : Nat} {a : AV} (h : get s (.s t) = some (.sv (.v a))) : cu (.tmp t) s = some a := by simp [cu, iC, h, Sv.av]
theorem pe {w : gR} {x : aS} {p : ak} : (sh w x p).length = w.names.length := by unfold sh; split <;> simp
theorem Bo {w : gR} {x : aS} {p : ak} (h : x.kind = 7) (hlt : (aP p.outs x.field).part.toNat < w.names.length) : im (w.names.map AV.str) ((aP p.outs x.field).part.toNat * 1) [.str []] = (sh w x p).map AV.str := by
 rw [Nat.mul_one, vg (by simpa using hlt)]
 unfold sh
 rw [if_pos h, List.map_set]
theorem Lo {s : aN} {i : Nat} (hi : i < (bm s).length) : ((bm s).map jr)[i]? = some (jr (bm s)[i]) := by rw [List.getElem?_map, List.getElem?_eq_getElem hi]; rfl
theorem Ap {w : gR} {x : aS} {k : Nat} {p : ak} (W : rr w x k p) : (bZ w.all k x).length = (w.step x).all.length := by
 show _ = ((bZ w.all (eM w.names x.msg) x).set (eM w.names x.msg) _).length
 rw [List.length_set, W.ix]
mutual
theorem bD.lC {D : Nat → Prop} : ∀ v : bD, bG D v.av
 | .mk n s m => by
  rw [bD.av]
  exact .agg _ (ai.cons (.int _ _) (ai.cons (.str _) (ai.cons (.sl _ (qz m)) ai.nil)))
theorem Slot.lC {D : Nat → Prop} : ∀ v : Slot, bG D v.av
 | .mk n vs => by
  rw [Slot.av]
  exact .agg _ (ai.cons (.int _ _) (ai.cons (.sl _ (tW vs)) ai.nil))
theorem Tree.lC {D : Nat → Prop} : ∀ v : Tree, bG D v.av
 | .mk ss r => by
  rw [Tree.av]
  exact .agg _ (ai.cons (.sl _ (rF ss)) (ai.cons (.sl _ (ai.map fun x _ => .agg _ (ai.cons (.int _ _) (ai.cons (.int _ _) (ai.cons (.int _ _) (ai.cons (.str _) ai.nil)))))) ai.nil))
theorem qz {D : Nat → Prop} : ∀ l : List Tree, ai D (gV l)
 | [] => by rw [gV]; exact ai.nil
 | t :: l => by rw [gV]; exact ai.cons t.lC (qz l)
theorem tW {D : Nat → Prop} : ∀ l : List bD, ai D (j1 l)
 | [] => by rw [j1]; exact ai.nil
 | t :: l => by rw [j1]; exact ai.cons t.lC (tW l)
theorem rF {D : Nat → Prop} : ∀ l : List Slot, ai D (iV l)
 | [] => by rw [iV]; exact ai.nil
 | t :: l => by rw [iV]; exact ai.cons t.lC (rF l)
end
theorem Port.lC {D : Nat → Prop} (x : Port) : bG D x.av := .agg _ (ai.cons (.str _) (ai.cons (.int _ _) (ai.cons (.int _ _) (ai.cons (.str _) (ai.cons (.bool _) (ai.cons (.bool _) (ai.cons (.str _) (ai.cons (.int _ _) (ai.cons (.int _ _) ai.nil)))))))))
theorem fQ.lC {D : Nat → Prop} (x : fQ) : bG D x.av := .agg _ (ai.cons (.int _ _) (ai.cons (.int _ _) (ai.cons (.int _ _) (ai.cons (.int _ _) (ai.cons (.int _ _) (ai.cons (.int _ _) (ai.cons (.int _ _) (ai.cons (.int _ _) (ai.cons (.int _ _) (ai.cons (.sl _ (ai.map fun n _ => .int _ _)) (ai.cons (.int _ _) (ai.cons (.str _) (ai.cons (.sl _ (ai.map fun t _ => t.lC)) ai.nil)))))))))))))
theorem ak.lC {D : Nat → Prop} (x : ak) : bG D x.av := .agg _ (ai.cons (.str _) (ai.cons (.sl _ (ai.map fun y _ => y.lC)) (ai.cons (.sl _ (ai.map fun y _ => y.lC)) (ai.cons (.sl _ (ai.map fun y _ => y.lC)) (ai.cons (.int _ _) (ai.cons (.sl _ (ai.map fun y _ => .int _ _)) (ai.cons (.bool _) ai.nil)))))))
theorem zo {D : Nat → Prop} (s : aN) (l : List aS) : bG D (jf s l) := by
 unfold jf
 split
 ·exact .tup _ (ai.cons (.agg _ (ai.cons (.sl _ (ai.map fun y _ => y.lC)) ai.nil)) (ai.cons (.int _ _) ai.nil))
 ·exact .tup _ (ai.cons (.agg _ (ai.cons (.sl _ ai.nil) ai.nil)) (ai.cons (.int _ _) ai.nil))
theorem Bz {s : aN} {l : List aS} {L : List aN} {H : Hp} {q : Nat} {w : gR} {K : Hp} {A : Nat} {os : List AV} (h : s.all l = .ok L) (hq : l.length ≤ q) (I : LI s l L H q w K A os) : AV.tup [.agg [.sl (w.all.map ak.av)], .int .i64 0] = jf s l := by
 unfold jf
 rw [h, I.eq, List.take_of_length_le hq]; rfl
theorem FL (s : aN) : s.msgs.length = (jg s).all.length := by show _ = (s.msgs.map _).length; simp
def Bp (s : aN) (i : Nat) : List aw := ((bm s).take i).map (·.name)
theorem FB {s : aN} {i : Nat} (h : s.msgs.length ≤ i) : Bp s i = (jg s).names := by
 have hl : (bm s).length = s.msgs.length := by unfold bm; simp
 unfold Bp
 rw [List.take_of_length_le (by omega)]
 show (s.msgs.map _).map _ = s.msgs.map _
 rw [List.map_map]; rfl
theorem uZ {s : aN} {i : Nat} (hi : i < (bm s).length) : (Bp s i).map AV.str ++ [.str (bm s)[i].name] = (Bp s (i + 1)).map AV.str := by
 unfold Bp
 rw [List.take_add_one, List.getElem?_eq_getElem hi, List.map_append, List.map_append]; rfl
theorem G7 {w : gR} {x : aS} {k0 : Nat} {p : ak} (W : rr w x k0 p) {k : Nat} (hk : k < w.names.length) : (w.names[k] == x.msg) = decide (k = k0) := by
 by_cases e : k = k0
 ·subst e
  have := W.nm
  rw [List.getElem?_eq_getElem hk] at this
  rw [Option.some.inj this]
  simp
 ·have : w.names[k] ≠ x.msg := fun h => e (W.un k (by rw [List.getElem?_eq_getElem hk, h]))
  simp [e, this]
theorem ES (s : aN) (l : List aS) (hs : s.dW) (hb : ∀ x ∈ l, x.dW ∧ x.names.length ≤ 1000) (hl : l.length ≤ 9223372036854775807) : Pure Tryz.prog 24 [s.av, .sl (l.map aS.av)] (jf s l) := by
 refine fun H => cc.fin fun hfin => ?_
 refine cc.je Tryz.func24 rfl rfl (aF rfl) (zo _ _) ?_
 refine aC.seq (aC.region ?_)
 refine aB.run II 3 rfl ?_
 refine aB.nil (aC.seq (aC.region ?_))
 refine aB.run II 2 rfl ?_
 cases hp1 : s.all l with
 | ok x1 => 
  refine aB.c1 rfl (aG (aF rfl) tD rfl (uE hs hb hl hp1)) ?_
  refine aB.run II 7 rfl ?_
  refine aB.nil (aC.seq (aC.seq (aC.region ?_)))
  refine aB.run II 2 rfl ?_
  refine aB.nil ?_
  refine aC.aZ rfl rfl ?_
  refine aC.skip (aC.seq (aC.region ?_))
  refine aB.run II 1 rfl ?_
  refine aB.c2 rfl (cO (aF rfl) Iy rfl rfl (E0 s (aN.ga (tM hp1).1).sm H)) ?_
  refine aB.run II 1 rfl ?_
  refine aB.nil (aC.seq (aC.region ?_))
  refine aB.c2 rfl (B9 («as» := []) (aF rfl) bO dR rfl rfl rfl (gI rfl) rfl) ?_
  refine aB.run II 1 rfl ?_
  refine aB.nil (aC.seq (aC.seq (aC.region ?_)))
  refine aB.run II 1 rfl ?_
  refine aB.nil (aC.blk ?_)
  refine aC.aK (Kept.aJ [.s 11, .s 10, .t 28, .h, .s 1, .s 4, .b 4, .s 9] rfl (by decide) (Kept.now ?_))
  refine aC.aX (fun (i : Nat) => [(.s 11, .sv (.v (.int .i64 (i : Int)))), (.s 10, .sv (.om 28 ((Bp s i).map AV.str).length)), (.t 28, .tk true 9 1 ((Bp s i).map AV.str))]) _ (fun (i : Nat) => True) (fun (i : Nat) => s.msgs.length - i) 0 rfl trivial ?_
  rintro i hI
  have hbl : (bm s).length = s.msgs.length := (by unfold bm; simp)
  have hsm := (aN.ga (tM hp1).1).sm.m
  refine aC.seq (aC.seq (aC.region ?_))
  refine aB.run II 4 rfl ?_
  refine aB.nil ?_
  refine aC.cond rfl (fun hc1 => ?_) (fun hc1 => ?_)
  ·have hi := Jy hc1
   refine aC.skip (aC.seq (aC.blk (aC.region ?_)))
   refine aB.run II 3 rfl ?_
   refine aB.c1 rfl (bV (aF rfl) eN rfl rfl (Int.natCast_nonneg _) (by omega)) ?_
   refine aB.run II 1 rfl ?_
   refine aB.c1 rfl (pX (aF rfl) rX rfl rfl Hp.dL (xg _) rfl (Lo (by omega)) rfl) ?_
   refine aB.run II 1 rfl ?_
   refine aB.c3 rfl (Bh (aF rfl) bO rfl rfl rfl rfl rfl rfl (by rw [List.length_map]; have : (Bp s i).length ≤ i := (by unfold Bp; simp; omega); simp only [List.length_cons, List.length_nil]; omega) (by rw [List.length_map]; have : (Bp s i).length ≤ i := (by unfold Bp; simp; omega); simp only [List.length_cons, List.length_nil]; omega)) ?_
   refine aB.run II 1 rfl ?_
   refine aB.nil (aC.region ?_)
   refine aB.run II 3 rfl ?_
   refine aB.kept (Kept.aY 11 rfl (inc (by omega)) (Kept.aJ [.s 11, .s 10, .t 42, .h, .s 1, .s 4, .b 4, .s 9] rfl (by decide) (Kept.gG 42 28 (by decide) rfl (Kept.now ?_))))
   exact ⟨i + 1, by omega, trivial, LA (congrArg List.length (uZ (by omega))) (uZ (by omega))⟩
  ·have hi := CT hc1
   rw [FB hi]
   refine aC.exit (aC.seq (aC.seq ?_))
   refine aC.aK (Kept.oD rfl (rfl) (Kept.Ks 9 rfl (congrArg (fun n => AV.os (H.next + s.msgs.length) n 7) (FL s)) (Kept.now ?_))) --  (Kept.now ?_))
   refine aC.region ?_
   refine aB.run II 1 rfl ?_
   refine aB.nil (aC.blk ?_)
   refine aC.aK (Kept.aJ [.s 12, .s 9, .s 10, .t 28, .h, .s 1, .s 4, .b 4] rfl (by decide) (Kept.now ?_))
   refine aC.aX (fun ((q, w, K, A, os) : Nat × gR × Hp × Nat × List AV) => [(.s 12, .sv (.v (.int .i64 (q : Int)))), (.s 9, .sv (.v (.os A w.all.length 7))), (.s 10, .sv (.om 28 (w.names.map AV.str).length)), (.t 28, .tk true 9 1 (w.names.map AV.str)), (.h, .hp K)]) _ (fun ((q, w, K, A, os) : Nat × gR × Hp × Nat × List AV) => LI s l x1 H q w K A os) (fun ((q, w, K, A, os) : Nat × gR × Hp × Nat × List AV) => l.length - q) (0, jg s, H.bump s.msgs.length (bC ((bm s).map jr)), H.next + s.msgs.length, List.replicate s.msgs.length .nsl) rfl (LI.start hp1) ?_
   rintro ⟨q, w, K, A, os⟩ hI
   dsimp only at hI
   refine aC.seq (aC.seq (aC.region ?_))
   refine aB.run II 4 rfl ?_
   refine aB.nil ?_
   refine aC.cond rfl (fun hc2 => ?_) (fun hc2 => ?_)
   ·have hq := dD hc2
    obtain ⟨k0, p0, o0, W, ho0, hk0, hnl, hgo⟩ := hI.go hq
    have hq16 := (tM hp1).2
    have hlen := hI.len
    refine aC.skip (aC.seq (aC.blk (aC.seq (aC.region ?_))))
    refine aB.run II 1 rfl ?_
    refine aB.nil (aC.seq (aC.seq (aC.region ?_)))
    refine aB.run II 1 rfl ?_
    refine aB.nil (aC.blk ?_)
    refine aC.aK (Kept.aJ [.s 14, .s 13, .h, .s 1, .s 4, .b 4, .s 9, .s 10, .t 28, .s 12] rfl (by decide) (Kept.now ?_))
    refine aC.aX (fun ((k, a) : Nat × Int) => [(.s 14, .sv (.v (.int .i64 (k : Int)))), (.s 13, .sv (.v (.int .i64 a)))]) _ (fun ((k, a) : Nat × Int) => a = if k0 < k then (k0 : Int) else -1) (fun ((k, a) : Nat × Int) => w.names.length - k) (0, -1) rfl rfl ?_
    rintro ⟨k, a⟩ hK
    refine aC.seq (aC.seq (aC.region ?_))
    refine aB.run II 2 rfl ?_
    refine aB.c1 rfl (Bc (aF rfl) Di rfl) ?_
    refine aB.run II 1 rfl ?_
    refine aB.nil ?_
    refine aC.cond rfl (fun hc3 => ?_) (fun hc3 => ?_)
    ·have hk := dD hc3
     refine aC.skip (aC.seq (aC.blk (aC.seq ?_)))
     refine aC.drawn mixed rfl ?_
     refine aD.run II 2 rfl ?_
     refine aD.c1 rfl (Bd (aF rfl) cD rfl rfl rfl (Int.natCast_nonneg _) (by rw [List.length_map]; omega)) ?_
     refine aD.c1 rfl (Hz (aF rfl) rX rfl rfl (Jt hk)) ?_
     refine aD.run II 2 rfl ?_
     refine aD.c1 rfl (aH (aF rfl) kV rfl rfl (Int.natCast_nonneg _) (cF hq) rfl) ?_
     refine aD.run II 3 rfl ?_
     refine aD.nil (by kernel_rfl) (Kept.now ?_)
     refine aC.cond rfl (fun hc4 => ?_) (fun hc4 => ?_)
     ·refine aC.region ?_
      refine aB.run II 2 rfl ?_
      refine aB.nil (aC.region ?_)
      refine aB.run II 3 rfl ?_
      refine aB.kept (Kept.aY 14 rfl (inc (by omega)) (Kept.aJ [.s 14, .s 13, .h, .s 1, .s 4, .b 4, .s 9, .s 10, .t 28, .s 12] rfl (by decide) (Kept.now ?_)))
      exact ⟨(k + 1, (k : Int)), by dsimp only; omega, (by have e := of_decide_eq_true ((G7 W hk).symm.trans hc4); dsimp only; rw [if_pos (by omega)]; omega), rfl⟩
     ·refine aC.skip (aC.region ?_)
      refine aB.run II 3 rfl ?_
      refine aB.kept (Kept.aY 14 rfl (inc (by omega)) (Kept.aJ [.s 14, .s 13, .h, .s 1, .s 4, .b 4, .s 9, .s 10, .t 28, .s 12] rfl (by decide) (Kept.now ?_)))
      exact ⟨(k + 1, a), by dsimp only; omega, (by have e := of_decide_eq_false ((G7 W hk).symm.trans hc4); have h2 := hK; dsimp only at h2 ⊢; rw [h2]; exact if h : k0 < k then (by rw [if_pos h, if_pos (by omega)]) else (by rw [if_neg h, if_neg (by omega)])), rfl⟩
    ·have hk := dE hc3
     have ha : a = (k0 : Int) := (by have := hK; dsimp only at this; rw [this, if_pos (by omega)])
     subst ha
     refine aC.exit ?_
     refine aC.cI [.h, .s 1, .s 4, .b 4, .s 9, .s 12, .s 13] (fun (_ : Unit) => [(.s 10, .sv (.om 28 ((sh w (l[q]'hq) p0).map AV.str).length)), (.t 28, .tk true 9 1 ((sh w (l[q]'hq) p0).map AV.str))]) (fun (_ : Unit) => True) rfl ?_ ?_
     ·refine aC.seq (aC.region ?_)
      refine aB.run II 2 rfl ?_
      refine aB.c1 rfl (aH (aF rfl) kV rfl rfl (Int.natCast_nonneg _) (cF hq) rfl) ?_
      refine aB.run II 3 rfl ?_
      refine aB.nil ?_
      refine aC.cond rfl (fun hc5 => ?_) (fun hc5 => ?_)
      ·refine aC.seq ?_
       refine aC.drawn mixed rfl ?_
       refine aD.run II 2 rfl ?_
       refine aD.c1 rfl (bV (aF rfl) eN rfl rfl (Int.natCast_nonneg _) (by omega)) ?_
       refine aD.run II 1 rfl ?_
       refine aD.c1 rfl (pX (aF rfl) l8 rfl rfl hI.lh.row (fS _ _) rfl (gm W.pt ho0) rfl) ?_
       refine aD.run II 2 rfl ?_
       refine aD.c1 rfl (bV (aF rfl) eN rfl rfl (Int.natCast_nonneg _) (by omega)) ?_
       refine aD.run II 1 rfl ?_
       refine aD.c1 rfl (pX (aF rfl) l8 rfl rfl hI.lh.row (fS _ _) rfl (gm W.pt ho0) rfl) ?_
       refine aD.run II 2 rfl ?_
       refine aD.c1 rfl (aH (aF rfl) kV rfl rfl (Int.natCast_nonneg _) (cF hq) rfl) ?_
       refine aD.run II 2 rfl ?_
       refine aD.c1 rfl (aG (aF rfl) tB rfl (mP _ _ (by have := (hI.bd _ (List.mem_of_getElem? W.pt)).outs; omega))) ?_
       refine aD.c1 rfl (aH (aF rfl) c9 rfl rfl ((W.h7 (by simpa using hc5)).1) (gz (W.h7 (by simpa using hc5)).1) rfl) ?_
       refine aD.run II 3 rfl ?_
       refine aD.nil (by kernel_rfl) (Kept.now ?_)
       refine aC.region ?_
       refine aB.run II 2 rfl ?_
       refine aB.c1 rfl (Bd (aF rfl) cD rfl rfl rfl ((W.h7 (by simpa using hc5)).2.1) (by rw [List.length_map]; have := (W.h7 (by simpa using hc5)).2.2.1; omega)) ?_
       refine aB.c1 rfl (Hs rX rfl rfl rfl rfl (by rw [List.length_map]; have := (W.h7 (by simpa using hc5)).2.2.1; have := (W.h7 (by simpa using hc5)).2.1; omega)) ?_
       refine aB.kept (Kept.aJ [.s 10, .t 28, .h, .s 1, .s 4, .b 4, .s 9, .s 12, .s 13] rfl (by decide) (Kept.now ?_))
       exact ⟨(), trivial, Jx (by rw [List.length_map, List.length_map, pe]) (Bo (by simpa using hc5) (by have := (W.h7 (by simpa using hc5)).2.2.1; have := (W.h7 (by simpa using hc5)).2.1; omega))⟩
      ·refine aC.aK (Kept.aJ [.s 10, .t 28, .h, .s 1, .s 4, .b 4, .s 9, .s 12, .s 13] rfl (by decide) (Kept.now ?_))
       refine aC.skip ?_
       exact ⟨(), trivial, by rw [show sh w _ p0 = w.names from if_neg (by simpa using hc5)]; rfl⟩
     ·rintro _ hF22
      refine aC.seq (aC.region ?_)
      refine aB.run II 4 rfl ?_
      refine aB.c1 rfl (aH (aF rfl) kV rfl rfl (Int.natCast_nonneg _) (cF hq) rfl) ?_
      refine aB.run II 1 rfl ?_
      refine aB.mo (aF rfl) Ix rfl rfl (EF H K A os w.all k0 (l[q]'hq) p0 o0 hI.lh W.pt ho0 (by have := hI.len; omega) (by have := (hI.bd _ (List.mem_of_getElem? W.pt)).ops; omega) (by have := (hI.bd _ (List.mem_of_getElem? W.pt)).outs; omega) (by have := (hI.bd _ (List.mem_of_getElem? W.pt)).rn; have := (hI.bd _ (List.mem_of_getElem? W.pt)).aI; omega) W.kd (hb _ (List.getElem_mem hq)).2 W.h5 (fun h => (W.h7 h).2) W.h8) (fun r2 K2 hP2 => ?_)
      obtain ⟨A1, za, rfl, hL⟩ := hP2
      refine aB.run II 1 rfl ?_
      refine aB.nil ?_
      refine aC.cI [.h, .s 1, .s 4, .b 4, .s 9, .s 12, .s 13] (fun (_ : Unit) => [(.s 10, .sv (.om 28 ((w.step (l[q]'hq)).names.map AV.str).length)), (.t 28, .tk true 9 1 ((w.step (l[q]'hq)).names.map AV.str))]) (fun (_ : Unit) => True) rfl ?_ ?_
      ·refine aC.seq (aC.region ?_)
       refine aB.run II 2 rfl ?_
       refine aB.c1 rfl (aH (aF rfl) kV rfl rfl (Int.natCast_nonneg _) (cF hq) rfl) ?_
       refine aB.run II 3 rfl ?_
       refine aB.nil ?_
       refine aC.cond rfl (fun hc6 => ?_) (fun hc6 => ?_)
       ·refine aC.region ?_
        refine aB.run II 3 rfl ?_
        refine aB.c1 rfl (aH (aF rfl) kV rfl rfl (Int.natCast_nonneg _) (cF hq) rfl) ?_
        refine aB.run II 3 rfl ?_
        refine aB.c3 rfl (Bh (aF rfl) bO rfl rfl rfl rfl rfl rfl (by rw [List.length_map, pe]; have := hI.len; simp only [List.length_cons, List.length_nil]; omega) (by rw [List.length_map, pe]; have := hI.len; simp only [List.length_cons, List.length_nil]; omega)) ?_
        refine aB.run II 1 rfl ?_
        refine aB.kept (Kept.aJ [.s 10, .t 114, .h, .s 1, .s 4, .b 4, .s 9, .s 12, .s 13] rfl (by decide) (Kept.gG 114 28 (by decide) rfl (Kept.now ?_)))
        exact ⟨(), trivial, Jx (by rw [pd W, if_pos (by simpa using hc6), List.map_append]; rfl) (by rw [pd W, if_pos (by simpa using hc6), List.map_append]; rfl)⟩
       ·refine aC.aK (Kept.aJ [.s 10, .t 28, .h, .s 1, .s 4, .b 4, .s 9, .s 12, .s 13] rfl (by decide) (Kept.now ?_))
        refine aC.skip ?_
        exact ⟨(), trivial, by rw [pd W, if_neg (by simpa using hc6)]; rfl⟩
      ·rintro _ hF25
       have hbs := (xH hI.bd W.pt W.kd).1
       have hsl := (xH hI.bd W.pt W.kd).2.2
       have hll := hL.len
       obtain ⟨p2, hp2⟩ : ∃ p2, (bZ w.all k0 (l[q]'hq))[k0]? = some p2 := ⟨_, List.getElem?_eq_getElem (by omega)⟩
       obtain ⟨o2, ho2⟩ : ∃ o2, za[k0]? = some o2 := ⟨_, List.getElem?_eq_getElem (by omega)⟩
       refine aC.region ?_
       refine aB.run II 4 rfl ?_
       refine aB.c1 rfl (bV (aF rfl) eN rfl rfl (Int.natCast_nonneg _) (by omega)) ?_
       refine aB.c1 rfl (ja (aF rfl) fJ rfl rfl hL.row (fS _ _) rfl (gm hp2 ho2)) ?_
       refine aB.c1 rfl (aG (aF rfl) wh rfl (wA p2 o2 (by have := (hbs p2 (List.mem_of_getElem? hp2)).outs; omega) (by have := (hbs p2 (List.mem_of_getElem? hp2)).ever; omega))) ?_
       refine aB.c1 rfl (bV (aF rfl) eN rfl rfl (Int.natCast_nonneg _) (by omega)) ?_
       refine aB.c1 rfl (lW fJ rfl rfl hL.row rfl (fS _ _) rfl (by rw [dQ hL.len]; omega) rfl) ?_
       refine aB.nil (aC.region ?_)
       refine aB.run II 3 rfl ?_
       refine aB.kept (Kept.aY 12 rfl (inc (by omega)) (Kept.aJ [.s 12, .s 9, .s 10, .t 28, .h, .s 1, .s 4, .b 4] rfl (by decide) (Kept.now ?_)))
       exact ⟨(q + 1, w.step (l[q]'hq), _, A1, za.set k0 o2), by dsimp only; omega, hI.next hq (by omega) W hgo hL hp2 ho2, LJ (Ap W) rfl rfl⟩
   ·have hq := dE hc2
    refine aC.exit (aC.seq (aC.region ?_))
    refine aB.run II 4 rfl ?_
    refine aB.kept (Kept.CW 4 hI.lh rfl rfl (fun s2 K2 e1 e2 e3 e4 e5 => ?_))
    refine aC.ret ?_
    exact ⟨.inr rfl, (aE.r2 rfl (.cell kQ (Hr ((e1 (.s 4) (by decide) (by decide)).trans rfl)) e2 rfl rfl (.tmp (Hq ((e1 (.s 5) (by decide) (by decide)).trans rfl)) .nil))).cast (Bz hp1 hq hI), K2, e3, e4, e5⟩
 | error e1 => 
  refine aB.c1 rfl (aG (aF rfl) tD rfl (uF hs hb hl hp1)) ?_
  refine aB.run II 7 rfl ?_
  refine aB.nil (aC.seq (aC.seq (aC.region ?_)))
  refine aB.run II 2 rfl ?_
  refine aB.nil ?_
  refine aC.az rfl (by simpa using vL hp1) ?_
  refine aC.seq (aC.region ?_)
  refine aB.run II 3 rfl ?_
  refine aB.nil (aC.ret ?_)
  exact ⟨.inr rfl, (aE.r2 rfl (.cell kQ rfl rfl rfl rfl (.tmp rfl .nil))).cast (by unfold jf; rw [hp1]), H, rfl, Nat.le_refl _, fun _ _ => rfl⟩
/- what a case is: Small (ref15, ref24, law31); a case's program (law36) -/
theorem wo : aa Tryz.prog 21 = true := by kernel_rfl
theorem JC : aa Tryz.prog 22 = true := by kernel_rfl
theorem JB : aa Tryz.prog 23 = true := by kernel_rfl
structure aN.lens (s : aN) : Prop where
 e : s.enums.length ≤ 140737488355328
 m : s.msgs.length ≤ 140737488355328
 v : ∀ x ∈ s.enums, x.values.length ≤ 140737488355328
 f : ∀ x ∈ s.msgs, x.fields.length ≤ 140737488355328
theorem aN.lens.dW {s : aN} (h : s.lens) : s.dW := ⟨Nat.le_trans h.e (by omega), Nat.le_trans h.m (by omega)⟩
theorem aN.lens.vi {s : aN} (h : s.lens) {i : Nat} (hi : i < s.enums.length) : s.enums[i].values.length ≤ 140737488355328 := h.v _ (List.getElem_mem hi)
theorem aN.lens.fi {s : aN} (h : s.lens) {i : Nat} (hi : i < s.msgs.length) : s.msgs[i].fields.length ≤ 140737488355328 := h.f _ (List.getElem_mem hi)
def zB : List dk → Int → Int
 | [], n => n
 | e :: l, n => if n < 200 then zB l (dI (dI (n + (e.values.length : Int)) + dI ((e.name.length : Int).tdiv 10))) else n
def yz : List aT → Int → Int
 | [], n => n
 | e :: l, n => if n < 200 then yz l (dI (dI (dI (n + (e.fields.length : Int)) + (e.aj.length : Int)) + dI ((e.name.length : Int).tdiv 10))) else n
theorem zA {l : List dk} {i : Nat} {n : Int} (h : i < l.length) : zB (l.drop i) n = if n < 200 then zB (l.drop (i + 1)) (dI (dI (n + (l[i].values.length : Int)) + dI ((l[i].name.length : Int).tdiv 10))) else n := by rw [List.drop_eq_getElem_cons h]; rfl
theorem yy {l : List aT} {i : Nat} {n : Int} (h : i < l.length) : yz (l.drop i) n = if n < 200 then yz (l.drop (i + 1)) (dI (dI (dI (n + (l[i].fields.length : Int)) + (l[i].aj.length : Int)) + dI ((l[i].name.length : Int).tdiv 10))) else n := by rw [List.drop_eq_getElem_cons h]; rfl
theorem Am {l : List dk} {i : Nat} {n : Int} (h : l.length ≤ i) : zB (l.drop i) n = n := by rw [List.drop_of_length_le h]; rfl
theorem Al {l : List aT} {i : Nat} {n : Int} (h : l.length ≤ i) : yz (l.drop i) n = n := by rw [List.drop_of_length_le h]; rfl
def aN.Dp (s : aN) : Int := zB s.enums (dI ((s.enums.length : Int) + (s.msgs.length : Int)))
def aN.Gw (s : aN) : Int := yz s.msgs s.Dp
def ju (e : dk) : Bool := e.values.any fun v => decide (1000 < v.name.length)
def jt (m : aT) : Bool := m.fields.any fun f => decide (1000 < f.name.length) || decide (1000 < f.ref.length) || decide (1000 < f.one.length)
def aN.small (s : aN) : Bool := !decide (200 ≤ s.Gw) && !s.enums.any ju && !s.msgs.any jt
theorem EG (s : aN) (hs : s.lens) : Pure Tryz.prog 22 [s.av] (.bool s.small) := by
 have he := hs.e
 have hm := hs.m
 refine Pure.aL Tryz.func22 rfl rfl (aF rfl) fun H => (aC.seq (aC.region (aB.run II 2 rfl (aB.nil (aC.seq (aC.region (aB.run II 8 rfl (aB.nil (aC.cI [.h, .s 1, .b 1] (fun (n : Int) => [(.s 3, .sv (.v (.int .i64 n)))]) (fun (n : Int) => n = s.Dp) rfl ?_ ?_)))))))))
 ·refine aC.seq (aC.region (aB.run II 1 rfl (aB.nil (aC.blk (aC.aK (Kept.aJ [.s 4, .s 3, .h, .s 1, .b 1] rfl (by decide) (Kept.now (aC.aX (fun ((i, n) : Nat × Int) => [(.s 4, .sv (.v (.int .i64 (i : Int)))), (.s 3, .sv (.v (.int .i64 n)))]) _ (fun ((i, n) : Nat × Int) => zB (s.enums.drop i) n = s.Dp) (fun ((i, n) : Nat × Int) => s.enums.length - i) (0, _) rfl (by simp [aN.Dp]) ?_))))))))
  rintro ⟨i, n⟩ hI
  refine aC.seq (aC.seq (aC.region (aB.run II 6 rfl (aB.tell (d := 23) rfl (fun hg1 => ?_) (fun hg1 => ?_)))))
  ·have hi := dD hg1
   have hS := @zA s.enums i n hi
   refine aB.run II 3 rfl (aB.nil (aC.cond rfl (fun hc2 => ?_) (fun hc2 => ?_)))
   ·exact aC.skip (aC.seq (aC.blk (aC.drawn mixed rfl (aD.run II 4 rfl (aD.c1 rfl (aH (aF rfl) dN rfl rfl (Int.natCast_nonneg _) (cF hi) rfl) (aD.run II 7 rfl (aD.c1 rfl (aH (aF rfl) dN rfl rfl (Int.natCast_nonneg _) (cF hi) rfl) (aD.run II 6 rfl (aD.nil (by kernel_rfl) (Kept.now (aC.region (aB.run II 3 rfl (aB.kept (Kept.aY 4 rfl (inc (by omega)) (Kept.aJ [.s 4, .s 3, .h, .s 1, .b 1] rfl (by decide) (Kept.now ⟨(i + 1, _), (by dsimp only; omega), by simp only [List.length_map] at *; grind, rfl⟩))))))))))))))))
   ·exact aC.aK (Kept.aJ [.s 3, .h, .s 1, .b 1] rfl (by decide) (Kept.now (aC.exit ⟨_, by grind, rfl⟩)))
  ·have hi := dE hg1
   have hS := @Am s.enums i n hi
   exact aB.run II 3 rfl (aB.nil (aC.aZ rfl rfl (aC.aK (Kept.aJ [.s 3, .h, .s 1, .b 1] rfl (by decide) (Kept.now (aC.exit ⟨_, by grind, rfl⟩))))))
 ·rintro n hF6
  refine aC.cI [.h, .s 1, .b 1] (fun (n : Int) => [(.s 3, .sv (.v (.int .i64 n)))]) (fun (n : Int) => n = s.Gw) rfl ?_ ?_
  ·refine aC.seq (aC.region (aB.run II 1 rfl (aB.nil (aC.blk (aC.aK (Kept.aJ [.s 5, .s 3, .h, .s 1, .b 1] rfl (by decide) (Kept.now (aC.aX (fun ((i, n) : Nat × Int) => [(.s 5, .sv (.v (.int .i64 (i : Int)))), (.s 3, .sv (.v (.int .i64 n)))]) _ (fun ((i, n) : Nat × Int) => yz (s.msgs.drop i) n = s.Gw) (fun ((i, n) : Nat × Int) => s.msgs.length - i) (0, _) rfl (by subst hF6; rfl) ?_))))))))
   rintro ⟨i, n⟩ hI
   refine aC.seq (aC.seq (aC.region (aB.run II 6 rfl (aB.tell (d := 52) rfl (fun hg3 => ?_) (fun hg3 => ?_)))))
   ·have hi := dD hg3
    have hS := @yy s.msgs i n hi
    refine aB.run II 3 rfl (aB.nil (aC.cond rfl (fun hc4 => ?_) (fun hc4 => ?_)))
    ·refine aC.skip (aC.seq (aC.blk (aC.drawn mixed rfl (aD.run II 4 rfl (aD.c1 rfl (aH (aF rfl) bM rfl rfl (Int.natCast_nonneg _) (cF hi) rfl) (aD.run II 7 rfl (aD.c1 rfl (aH (aF rfl) bM rfl rfl (Int.natCast_nonneg _) (cF hi) rfl) (aD.run II 7 rfl (aD.c1 rfl (aH (aF rfl) bM rfl rfl (Int.natCast_nonneg _) (cF hi) rfl) (aD.run II 6 rfl (aD.nil (by kernel_rfl) (Kept.now (aC.region (aB.run II 3 rfl ?_))))))))))))))
     exact aB.kept (Kept.aY 5 rfl (inc (by omega)) (Kept.aJ [.s 5, .s 3, .h, .s 1, .b 1] rfl (by decide) (Kept.now ⟨(i + 1, _), (by dsimp only; omega), by simp only [List.length_map] at *; grind, rfl⟩)))
    ·exact aC.aK (Kept.aJ [.s 3, .h, .s 1, .b 1] rfl (by decide) (Kept.now (aC.exit ⟨_, by grind, rfl⟩)))
   ·have hi := dE hg3
    have hS := @Al s.msgs i n hi
    exact aB.run II 3 rfl (aB.nil (aC.aZ rfl rfl (aC.aK (Kept.aJ [.s 3, .h, .s 1, .b 1] rfl (by decide) (Kept.now (aC.exit ⟨_, by grind, rfl⟩))))))
  ·rintro n hF10
   refine aC.seq (aC.seq (aC.region (aB.run II 2 rfl (aB.nil (aC.cond rfl (fun hc5 => ?_) (fun hc5 => ?_))))))
   ·exact aC.seq (aC.region (aB.run II 1 rfl (aB.nil (aC.ret ⟨.inr rfl, (aE.r1 rfl (.tmp rfl .nil)).cast (congrArg AV.bool (by grind [aN.small, ju, jt])), rfl⟩))))
   ·refine aC.skip (aC.seq (aC.seq (aC.region (aB.run II 1 rfl (aB.nil (aC.blk (aC.aK (Kept.aJ [.s 6, .h, .s 1, .b 1] rfl (by decide) (Kept.now (aC.aX (fun (i : Nat) => [(.s 6, .sv (.v (.int .i64 (i : Int))))]) _ (fun (i : Nat) => s.enums.any ju = (s.enums.drop i).any ju) (fun (i : Nat) => s.enums.length - i) 0 rfl (by simp) ?_))))))))))
    rintro i hI
    refine aC.seq (aC.seq (aC.region (aB.run II 5 rfl (aB.nil (aC.cond rfl (fun hc6 => ?_) (fun hc6 => ?_))))))
    ·have hi := dD hc6
     have hS := bb (p := ju) hi
     have hv := hs.vi hi
     refine aC.skip (aC.seq (aC.blk (aC.seq (aC.region (aB.run II 1 rfl (aB.nil (aC.blk (aC.aK (Kept.aJ [.s 7, .h, .s 1, .b 1, .s 6] rfl (by decide) (Kept.now (aC.aX (fun (k : Nat) => [(.s 7, .sv (.v (.int .i64 (k : Int))))]) _ (fun (k : Nat) => ((s.enums[i]'hi).values.drop k).any (fun v : jX => decide (1000 < v.name.length)) = (s.enums[i]'hi).values.any (fun v : jX => decide (1000 < v.name.length))) (fun (k : Nat) => (s.enums[i]'hi).values.length - k) 0 rfl (by simp) ?_)))))))))))
     rintro k hK
     refine aC.seq (aC.seq (aC.region (aB.run II 4 rfl (aB.c1 rfl (aH (aF rfl) dN rfl rfl (Int.natCast_nonneg _) (cF hi) rfl) (aB.run II 4 rfl (aB.nil (aC.cond rfl (fun hc7 => ?_) (fun hc7 => ?_))))))))
     ·have hk := dD hc7
      have hT := bb (p := (fun v : jX => decide (1000 < v.name.length))) hk
      refine aC.skip (aC.seq (aC.blk (aC.seq (aC.region (aB.run II 3 rfl (aB.c1 rfl (aH (aF rfl) dN rfl rfl (Int.natCast_nonneg _) (cF hi) rfl) (aB.run II 3 rfl (aB.c1 rfl (aH (aF rfl) fp rfl rfl (Int.natCast_nonneg _) (cF hk) rfl) (aB.run II 4 rfl (aB.nil (aC.cond rfl (fun hc8 => ?_) (fun hc8 => ?_))))))))))))
      ·exact aC.seq (aC.region (aB.run II 1 rfl (aB.nil (aC.ret ⟨.inr rfl, (aE.r1 rfl (.tmp rfl .nil)).cast (congrArg AV.bool (by grind [aN.small, ju, jt])), rfl⟩))))
      ·exact aC.skip (aC.region (aB.run II 3 rfl (aB.kept (Kept.aY 7 rfl (inc (by omega)) (Kept.aJ [.s 7, .h, .s 1, .b 1, .s 6] rfl (by decide) (Kept.now ⟨k + 1, by omega, by grind, rfl⟩))))))
     ·have hk := dE hc7
      have hT := cE (p := (fun v : jX => decide (1000 < v.name.length))) hk
      exact aC.exit (aC.region (aB.run II 3 rfl (aB.kept (Kept.aY 6 rfl (inc (by omega)) (Kept.aJ [.s 6, .h, .s 1, .b 1] rfl (by decide) (Kept.now ⟨i + 1, by omega, by grind [ju], rfl⟩))))))
    ·have hi := dE hc6
     have hS := cE (p := ju) hi
     refine aC.exit (aC.seq (aC.seq (aC.region (aB.run II 1 rfl (aB.nil (aC.blk (aC.aK (Kept.aJ [.s 8, .h, .s 1, .b 1] rfl (by decide) (Kept.now (aC.aX (fun (i : Nat) => [(.s 8, .sv (.v (.int .i64 (i : Int))))]) _ (fun (i : Nat) => s.msgs.any jt = (s.msgs.drop i).any jt) (fun (i : Nat) => s.msgs.length - i) 0 rfl (by simp) ?_))))))))))
     rintro i hJ
     refine aC.seq (aC.seq (aC.region (aB.run II 5 rfl (aB.nil (aC.cond rfl (fun hc9 => ?_) (fun hc9 => ?_))))))
     ·have hi := dD hc9
      have hS := bb (p := jt) hi
      have hv := hs.fi hi
      refine aC.skip (aC.seq (aC.blk (aC.seq (aC.region (aB.run II 1 rfl (aB.nil (aC.blk (aC.aK (Kept.aJ [.s 9, .h, .s 1, .b 1, .s 8] rfl (by decide) (Kept.now (aC.aX (fun (k : Nat) => [(.s 9, .sv (.v (.int .i64 (k : Int))))]) _ (fun (k : Nat) => ((s.msgs[i]'hi).fields.drop k).any (fun f : ag => decide (1000 < f.name.length) || decide (1000 < f.ref.length) || decide (1000 < f.one.length)) = (s.msgs[i]'hi).fields.any (fun f : ag => decide (1000 < f.name.length) || decide (1000 < f.ref.length) || decide (1000 < f.one.length))) (fun (k : Nat) => (s.msgs[i]'hi).fields.length - k) 0 rfl (by simp) ?_)))))))))))
      rintro k hK
      refine aC.seq (aC.seq (aC.region (aB.run II 4 rfl (aB.c1 rfl (aH (aF rfl) bM rfl rfl (Int.natCast_nonneg _) (cF hi) rfl) (aB.run II 4 rfl (aB.nil (aC.cond rfl (fun hc10 => ?_) (fun hc10 => ?_))))))))
      ·have hk := dD hc10
       have hT := bb (p := (fun f : ag => decide (1000 < f.name.length) || decide (1000 < f.ref.length) || decide (1000 < f.one.length))) hk
       refine aC.skip (aC.seq (aC.blk (aC.seq (aC.region (aB.run II 3 rfl (aB.c1 rfl (aH (aF rfl) bM rfl rfl (Int.natCast_nonneg _) (cF hi) rfl) (aB.run II 3 rfl (aB.c1 rfl (aH (aF rfl) bT rfl rfl (Int.natCast_nonneg _) (cF hk) rfl) (aB.run II 3 rfl (aB.nil (aC.seq (aC.region (aB.run II 5 rfl (aB.tell (d := 147) rfl (fun hg11 => ?_) (fun hg11 => ?_)))))))))))))))
       ·exact aB.run II 11 rfl (aB.nil (aC.az rfl rfl (aC.seq (aC.region (aB.run II 1 rfl (aB.nil (aC.ret ⟨.inr rfl, (aE.r1 rfl (.tmp rfl .nil)).cast (congrArg AV.bool (by grind [aN.small, ju, jt])), rfl⟩)))))))
       ·refine aB.run II 6 rfl (aB.tell (d := 153) rfl (fun hg12 => ?_) (fun hg12 => ?_))
        ·exact aB.run II 5 rfl (aB.nil (aC.az rfl rfl (aC.seq (aC.region (aB.run II 1 rfl (aB.nil (aC.ret ⟨.inr rfl, (aE.r1 rfl (.tmp rfl .nil)).cast (congrArg AV.bool (by grind [aN.small, ju, jt])), rfl⟩)))))))
        ·refine aB.run II 5 rfl (aB.nil (aC.cond rfl (fun hc13 => ?_) (fun hc13 => ?_)))
         ·exact aC.seq (aC.region (aB.run II 1 rfl (aB.nil (aC.ret ⟨.inr rfl, (aE.r1 rfl (.tmp rfl .nil)).cast (congrArg AV.bool (by grind [aN.small, ju, jt])), rfl⟩))))
         ·exact aC.skip (aC.region (aB.run II 3 rfl (aB.kept (Kept.aY 9 rfl (inc (by omega)) (Kept.aJ [.s 9, .h, .s 1, .b 1, .s 8] rfl (by decide) (Kept.now ⟨k + 1, by omega, by grind, rfl⟩))))))
      ·have hk := dE hc10
       have hT := cE (p := (fun f : ag => decide (1000 < f.name.length) || decide (1000 < f.ref.length) || decide (1000 < f.one.length))) hk
       exact aC.exit (aC.region (aB.run II 3 rfl (aB.kept (Kept.aY 8 rfl (inc (by omega)) (Kept.aJ [.s 8, .h, .s 1, .b 1] rfl (by decide) (Kept.now ⟨i + 1, by omega, by grind [jt], rfl⟩))))))
     ·have hi := dE hc9
      have hS := cE (p := jt) hi
      exact aC.exit (aC.seq (aC.region (aB.run II 1 rfl (aB.nil (aC.ret ⟨.inr rfl, (aE.r1 rfl (.tmp rfl .nil)).cast (congrArg AV.bool (by grind [aN.small, ju, jt])), rfl⟩)))))
def mF : List aw → Int → Int
 | [], n => n
 | s :: l, n => if n < 500 then mF l (dI (n + (s.length : Int))) else n
theorem vb {l : List aw} {i : Nat} {n : Int} (h : i < l.length) : mF (l.drop i) n = if n < 500 then mF (l.drop (i + 1)) (dI (n + (l[i].length : Int))) else n := by rw [List.drop_eq_getElem_cons h]; rfl
theorem fW {l : List aw} {i : Nat} {n : Int} (h : l.length ≤ i) : mF (l.drop i) n = n := by rw [List.drop_of_length_le h]; rfl
def aS.zC (x : aS) : Int := dI (dI (dI (dI ((x.msg.length : Int) + (x.field.length : Int)) + (x.dest.length : Int)) + (x.also.length : Int)) + dI (10 * (x.names.length : Int)))
def aS.tree (x : aS) : Tree := .mk [.mk 0 [x.dv]] []
def aS.lit (x : aS) : Bool := !(decide (500 ≤ mF x.names x.zC) || !x.tree.small)
def gv (l : List aS) : Bool := (l.take 41).all aS.lit && decide (l.length ≤ 40)
theorem u5 {l : List aS} {i : Nat} (hi : i < l.length) (h : i ≤ 40) : ((l.take 41).drop i).all aS.lit = (l[i].lit && ((l.take 41).drop (i + 1)).all aS.lit) := by
 have h2 : i < (l.take 41).length := by rw [List.length_take]; omega
 rw [List.drop_eq_getElem_cons h2]
 simp
theorem FM {l : List aS} {i : Nat} (h : l.length ≤ i ∨ 40 < i) : ((l.take 41).drop i).all aS.lit = true := by
 rw [List.drop_of_length_le (by rw [List.length_take]; omega)]; rfl
theorem mK {l : List aS} {i : Nat} (hi : i < l.length) (h : i ≤ 40) (hI : ((l.take 41).drop i).all aS.lit = (l.take 41).all aS.lit) (hx : l[i].lit = false) : gv l = false := by
 rw [u5 hi h, hx, Bool.false_and] at hI
 unfold gv; rw [← hI]; rfl
theorem ou {l : List aS} {i : Nat} (hi : i < l.length) (h : i ≤ 40) (hI : ((l.take 41).drop i).all aS.lit = (l.take 41).all aS.lit) (hx : l[i].lit = true) : ((l.take 41).drop (i + 1)).all aS.lit = (l.take 41).all aS.lit := by
 rw [u5 hi h, hx, Bool.true_and] at hI
 exact hI
theorem ox {l : List aS} {i : Nat} (h : l.length ≤ i ∨ 40 < i) (hI : ((l.take 41).drop i).all aS.lit = (l.take 41).all aS.lit) : decide (((l.map aS.av).length : Int) ≤ 40) = gv l := by
 rw [FM h] at hI
 unfold gv; rw [← hI, List.length_map, Bool.true_and]
 exact decide_eq_decide.2 (by omega)
theorem xT (x : aS) (hb : x.tree.dW) : Pure Tryz.prog 21 [.agg [.sl [.agg [.int .i64 0, .sl [.agg [.int .u64 (x.dv.n : Int), .str x.dv.s, .sl (x.dv.m.map Tree.av)]]]], .sl []]] (.bool x.tree.small) := by
 have := tw x.tree hb
 simp only [aS.tree, Tree.cells, Tree.aO, Tree.rest, List.map_cons, List.map_nil, Slot.au, Slot.cells, Slot.num, Slot.ah, bD.au, bD.cells] at this
 exact this
theorem fX {l : List aw} {n : Int} (h : 500 ≤ n) : mF l n = n := by
 cases l with
 | nil => rfl
 | cons s l => unfold mF; rw [if_neg (by omega)]
theorem BB (l : List aS) (hl : l.length ≤ 140737488355328) (hb : ∀ x ∈ l, x.names.length ≤ 140737488355328 ∧ x.tree.dW) : Pure Tryz.prog 23 [.sl (l.map aS.av)] (.bool (gv l)) := by
 refine Pure.aL Tryz.func23 rfl rfl (aF rfl) fun H => (aC.seq (aC.region (aB.run II 1 rfl (aB.nil (aC.seq (aC.seq (aC.region (aB.run II 1 rfl (aB.nil (aC.blk (aC.aK (Kept.aJ [.s 3, .h, .s 0] rfl (by decide) (Kept.now (aC.aX (fun (i : Nat) => [(.s 3, .sv (.v (.int .i64 (i : Int))))]) _ (fun (i : Nat) => ((l.take 41).drop i).all aS.lit = (l.take 41).all aS.lit) (fun (i : Nat) => l.length - i) 0 rfl rfl ?_))))))))))))))
 rintro i hI
 refine aC.seq (aC.seq (aC.region (aB.run II 5 rfl (aB.tell (d := 11) rfl (fun hg1 => ?_) (fun hg1 => ?_)))))
 ·have hi := dD hg1
  have hnm := (hb _ (List.getElem_mem hi)).1
  refine aB.run II 3 rfl (aB.nil (aC.cond rfl (fun hc2 => ?_) (fun hc2 => ?_)))
  ·refine aC.skip (aC.seq (aC.blk (aC.seq (aC.region (aB.run II 2 rfl (aB.c1 rfl (aH (aF rfl) kV rfl rfl (Int.natCast_nonneg _) (cU (fun _ => rfl) hi) rfl) (aB.run II 3 rfl (aB.nil (aC.seq (aC.region (aB.run II 21 rfl (aB.nil (aC.seq (aC.seq (aC.region (aB.run II 1 rfl (aB.nil (aC.blk (aC.aK (Kept.aJ [.s 6, .s 5, .h, .s 0, .s 3, .s 4, .b 4] rfl (by decide) (Kept.now (aC.aX (fun ((k, n) : Nat × Int) => [(.s 6, .sv (.v (.int .i64 (k : Int)))), (.s 5, .sv (.v (.int .i64 n)))]) _ (fun ((k, n) : Nat × Int) => mF ((l[i]'hi).names.drop k) n = mF (l[i]'hi).names (l[i]'hi).zC) (fun ((k, n) : Nat × Int) => (l[i]'hi).names.length - k) (0, _) rfl (by simp [aS.zC]) ?_))))))))))))))))))))))
   rintro ⟨k, n⟩ hK
   refine aC.seq (aC.seq (aC.region (aB.run II 6 rfl (aB.tell (d := 46) rfl (fun hg3 => ?_) (fun hg3 => ?_)))))
   ·have hk := dD hg3
    have hS := @vb (l[i]'hi).names k n hk
    refine aB.run II 3 rfl (aB.nil (aC.cond rfl (fun hc4 => ?_) (fun hc4 => ?_)))
    ·exact aC.skip (aC.seq (aC.blk (aC.region (aB.run II 4 rfl (aB.c1 rfl (aH (aF rfl) cD rfl rfl (Int.natCast_nonneg _) (cF hk) rfl) (aB.run II 4 rfl (aB.nil (aC.region (aB.run II 3 rfl (aB.kept (Kept.aY 6 rfl (inc (by omega)) (Kept.aJ [.s 6, .s 5, .h, .s 0, .s 3, .s 4, .b 4] rfl (by decide) (Kept.now ⟨(k + 1, _), (by dsimp only; omega), by grind, rfl⟩)))))))))))))
    ·refine aC.exit (aC.seq (aC.region (aB.run II 3 rfl (aB.tell (d := 62) rfl (fun hg5 => ?_) (fun hg5 => ?_)))))
     ·exact aB.run II 9 rfl (aB.nil (aC.az rfl rfl (aC.seq (aC.region (aB.run II 1 rfl (aB.nil (aC.ret ⟨.inr rfl, (aE.r1 rfl (.tmp rfl .nil)).cast (congrArg AV.bool (mK hi (by have := of_decide_eq_true hc2; omega) hI (by unfold aS.lit; grind [fW, fX])).symm), rfl⟩)))))))
     ·refine aB.run II 6 rfl (aB.g1 rfl (aF rfl) rfl rfl (aG (aF rfl) wo rfl (xT (l[i]'hi) (hb _ (List.getElem_mem hi)).2)) (aB.run II 2 rfl (aB.nil (aC.cond rfl (fun hc6 => ?_) (fun hc6 => ?_)))))
      ·exact aC.seq (aC.region (aB.run II 1 rfl (aB.nil (aC.ret ⟨.inr rfl, (aE.r1 rfl (.tmp rfl .nil)).cast (congrArg AV.bool (mK hi (by have := of_decide_eq_true hc2; omega) hI (by unfold aS.lit; grind [fW, fX])).symm), rfl⟩))))
      ·exact aC.skip (aC.region (aB.run II 3 rfl (aB.kept (Kept.aY 3 rfl (inc (by omega)) (Kept.aJ [.s 3, .h, .s 0] rfl (by decide) (Kept.now ⟨i + 1, by omega, ou hi (by have := of_decide_eq_true hc2; omega) hI (by unfold aS.lit; grind [fW, fX]), rfl⟩))))))
   ·have hk := dE hg3
    have hS := @fW (l[i]'hi).names k n hk
    refine aB.run II 3 rfl (aB.nil (aC.aZ rfl rfl (aC.exit (aC.seq (aC.region (aB.run II 3 rfl (aB.tell (d := 62) rfl (fun hg7 => ?_) (fun hg7 => ?_))))))))
    ·exact aB.run II 9 rfl (aB.nil (aC.az rfl rfl (aC.seq (aC.region (aB.run II 1 rfl (aB.nil (aC.ret ⟨.inr rfl, (aE.r1 rfl (.tmp rfl .nil)).cast (congrArg AV.bool (mK hi (by have := of_decide_eq_true hc2; omega) hI (by unfold aS.lit; grind [fW, fX])).symm), rfl⟩)))))))
    ·refine aB.run II 6 rfl (aB.g1 rfl (aF rfl) rfl rfl (aG (aF rfl) wo rfl (xT (l[i]'hi) (hb _ (List.getElem_mem hi)).2)) (aB.run II 2 rfl (aB.nil (aC.cond rfl (fun hc8 => ?_) (fun hc8 => ?_)))))
     ·exact aC.seq (aC.region (aB.run II 1 rfl (aB.nil (aC.ret ⟨.inr rfl, (aE.r1 rfl (.tmp rfl .nil)).cast (congrArg AV.bool (mK hi (by have := of_decide_eq_true hc2; omega) hI (by unfold aS.lit; grind [fW, fX])).symm), rfl⟩))))
     ·exact aC.skip (aC.region (aB.run II 3 rfl (aB.kept (Kept.aY 3 rfl (inc (by omega)) (Kept.aJ [.s 3, .h, .s 0] rfl (by decide) (Kept.now ⟨i + 1, by omega, ou hi (by have := of_decide_eq_true hc2; omega) hI (by unfold aS.lit; grind [fW, fX]), rfl⟩))))))
  ·exact aC.exit (aC.seq (aC.region (aB.run II 4 rfl (aB.nil (aC.ret ⟨.inr rfl, (aE.r1 rfl (.tmp rfl .nil)).cast (congrArg AV.bool (ox (.inr (by have := of_decide_eq_false hc2; omega)) hI)), rfl⟩)))))
 ·have hi := dE hg1
  exact aB.run II 3 rfl (aB.nil (aC.aZ rfl rfl (aC.exit (aC.seq (aC.region (aB.run II 4 rfl (aB.nil (aC.ret ⟨.inr rfl, (aE.r1 rfl (.tmp rfl .nil)).cast (congrArg AV.bool (ox (.inl hi) hI)), rfl⟩))))))))
theorem mJ {l : List aS} (h : gv l = true) : l.length ≤ 40 ∧ ∀ x ∈ l, x.lit = true := by
 simp only [gv, Bool.and_eq_true, decide_eq_true_eq] at h
 rw [List.take_of_length_le (by omega), List.all_eq_true] at h
 exact ⟨h.2, h.1⟩
structure aS.lens (x : aS) : Prop where
 b : x.dW
 t : x.tree.dW
 n : x.names.length ≤ 140737488355328
 m : x.msg.length ≤ 140737488355328
 f : x.field.length ≤ 140737488355328
 d : x.dest.length ≤ 140737488355328
 a : x.also.length ≤ 140737488355328
 s : x.dv.s.length ≤ 140737488355328
 u : x.dv.n < 18446744073709551616
theorem zp {x : aS} (h : x.lens) (hl : x.lit = true) : x.names.length ≤ 1000 := by
 apply Classical.byContradiction
 intro hn
 simp only [aS.lit, Bool.not_eq_true', Bool.or_eq_false_iff, decide_eq_false_iff_not] at hl
 have h1 := h.n; have h2 := h.m; have h3 := h.f; have h4 := h.d; have h5 := h.a
 have e : x.zC = (x.msg.length : Int) + x.field.length + x.dest.length + x.also.length + 10 * x.names.length := by
  unfold aS.zC
  show IntKind.i64.wrap _ = _
  repeat rw [show dI = IntKind.i64.wrap from rfl]
  rw [eL (n := (x.msg.length : Int) + (x.field.length : Int)) (by omega) (by omega), eL (n := (x.msg.length : Int) + (x.field.length : Int) + (x.dest.length : Int)) (by omega) (by omega), eL (n := (x.msg.length : Int) + (x.field.length : Int) + (x.dest.length : Int) + (x.also.length : Int)) (by omega) (by omega), eL (n := 10 * (x.names.length : Int)) (by omega) (by omega), eL (by omega) (by omega)]
 have : 500 ≤ x.zC := by omega
 rw [fX this] at hl
 exact hl.1 this
structure lr (s : aN) (l : List aS) : Prop where
 s : s.lens
 n : l.length ≤ 140737488355328
 b : ∀ x ∈ l, x.lens
def iw (s : aN) (l : List aS) : AV := .agg [.sl (s.enums.map dk.av), .sl (s.msgs.map aT.av), .sl (l.map aS.av)]
def fh (s : aN) (l : List aS) (ts : List Tree) : Bool := ts.all Tree.small && (s.small && gv l)
theorem lr.steps {s : aN} {l : List aS} (h : lr s l) (hs : gv l = true) : ∀ x ∈ l, x.dW ∧ x.names.length ≤ 1000 := fun x hx => ⟨(h.b x hx).b, zp (h.b x hx) ((mJ hs).2 x hx)⟩
theorem Fx {l : List Tree} {i : Nat} (hi : i < l.length) (hI : (l.drop i).all Tree.small = l.all Tree.small) (h : l[i].small = true) : (l.drop (i + 1)).all Tree.small = l.all Tree.small := by
 rw [List.drop_eq_getElem_cons hi, List.all_cons, h, Bool.true_and] at hI; exact hI
theorem KP {s : aN} {ls : List aS} {l : List Tree} {i : Nat} (hi : i < l.length) (hI : (l.drop i).all Tree.small = l.all Tree.small) (h : l[i].small = false) : false = fh s ls l := by
 rw [List.drop_eq_getElem_cons hi, List.all_cons, h, Bool.false_and] at hI
 unfold fh; rw [← hI]; rfl
theorem Cw {s : aN} {ls : List aS} {l : List Tree} {i : Nat} (hi : l.length ≤ i) (hI : (l.drop i).all Tree.small = l.all Tree.small) : fh s ls l = (s.small && gv ls) := by
 rw [List.drop_of_length_le hi] at hI
 unfold fh; rw [← hI]; rfl
theorem BO (s : aN) (l : List aS) (ts : List Tree) (hc : lr s l) (ht : ∀ t ∈ ts, t.dW) (hn : ts.length ≤ 9223372036854775807) : Pure Tryz.prog 6 [iw s l, .sl (ts.map Tree.av)] (.bool (fh s l ts)) := by
 have e0 : iw s l = .agg [.sl (s.enums.map dk.av), .sl (s.msgs.map aT.av), .sl (l.map aS.av)] := rfl
 refine Pure.aL Tryz.func6 rfl rfl (aF rfl) fun H => (aC.seq (aC.region (aB.run II 2 rfl (aB.nil (aC.seq (aC.seq (aC.region (aB.run II 1 rfl (aB.nil (aC.blk (aC.aK (Kept.aJ [.s 5, .h, .s 1, .s 2, .b 2] rfl (by decide) (Kept.now (aC.aX (fun (i : Nat) => [(.s 5, .sv (.v (.int .i64 (i : Int))))]) _ (fun (i : Nat) => (ts.drop i).all Tree.small = ts.all Tree.small) (fun (i : Nat) => ts.length - i) 0 rfl rfl ?_))))))))))))))
 rintro i hI
 refine aC.seq (aC.seq (aC.region (aB.run II 4 rfl (aB.nil (aC.cond rfl (fun hc1 => ?_) (fun hc1 => ?_))))))
 ·have hi := dD hc1
  refine aC.skip (aC.seq (aC.blk (aC.seq (aC.region (aB.run II 2 rfl (aB.c1 rfl (aH (aF rfl) ji rfl rfl (Int.natCast_nonneg _) (cU Tree.au hi) rfl) (aB.run II 1 rfl (aB.c1 rfl (aG (aF rfl) wo rfl (tw (ts[i]'hi) (ht _ (List.getElem_mem hi)))) (aB.run II 1 rfl (aB.nil (aC.cond rfl (fun hc2 => ?_) (fun hc2 => ?_))))))))))))
  ·exact aC.seq (aC.region (aB.run II 1 rfl (aB.nil (aC.ret ⟨.inr rfl, (aE.r1 rfl (.tmp rfl .nil)).cast (congrArg AV.bool (KP hi hI (by simpa using hc2))), rfl⟩))))
  ·exact aC.skip (aC.region (aB.run II 3 rfl (aB.kept (Kept.aY 5 rfl (inc (by omega)) (Kept.aJ [.s 5, .h, .s 1, .s 2, .b 2] rfl (by decide) (Kept.now ⟨i + 1, by omega, Fx hi hI (by simpa using hc2), rfl⟩))))))
 ·have hi := dE hc1
  refine aC.exit (aC.seq (aC.region (aB.run II 2 rfl (aB.c1 rfl (aG (aF rfl) JC rfl (EG s hc.s)) (aB.run II 1 rfl (aB.tell (d := 21) rfl (fun hg3 => ?_) (fun hg3 => ?_)))))))
  ·exact aB.run II 2 rfl (aB.g1 rfl (aF rfl) rfl rfl (aG (aF rfl) JB rfl (BB l hc.n (fun x hx => ⟨(hc.b x hx).n, (hc.b x hx).t⟩))) (aB.run II 2 rfl (aB.nil (aC.ret ⟨.inr rfl, (aE.r1 rfl (.tmp rfl .nil)).cast (congrArg AV.bool ((Cw hi hI).trans (by rw [show s.small = true from (by simpa using hg3), Bool.true_and])).symm), rfl⟩))))
  ·exact aB.run II 5 rfl (aB.nil (aC.ret ⟨.inr rfl, (aE.r1 rfl (.tmp rfl .nil)).cast (congrArg AV.bool ((Cw hi hI).trans (by rw [show s.small = false from (by simpa using hg3), Bool.false_and])).symm), rfl⟩))
/- a case's program -/
theorem Ci : aa Tryz.prog 24 = true := by kernel_rfl
theorem pN {s : aN} {l : List aS} {L : List aN} (hs : s.dW) (hb : ∀ x ∈ l, x.dW ∧ x.names.length ≤ 1000) (hl : l.length ≤ 9223372036854775807) (h : s.all l = .ok L) : Pure Tryz.prog 24 [s.av, .sl (l.map aS.av)] (.tup [cH (lower s l), .int .i64 0]) := by
 have := ES s l hs hb hl
 unfold jf at this
 rw [h] at this; exact this
def E4 (s : aN) (l : List aS) : Except Int (List aN) → AV
 | .ok L => .tup [cH (lower s l), (L.getD l.length mO).av, .bool true]
 | .error _ => .tup [.agg [.sl []], mO.av, .bool false]
theorem yd : ∀ {l : List aS} {s : aN} {acc L : List aN}, aN.eA l s acc = .ok L → L.length = acc.length + l.length
 | [], _, _, _, h => by cases h; rfl
 | x :: l, s, acc, L, h => by
  unfold aN.eA at h
  split at h
  ·have := yd h; simp at this ⊢; omega
  ·cases h
theorem xG {s : aN} {l : List aS} {L : List aN} (h : s.all l = .ok L) : L.length = l.length + 1 := by
 unfold aN.all at h
 split at h
 ·cases h
 ·split at h
  ·cases h
  ·have := yd h; simpa [Nat.add_comm] using this
theorem FO {s : aN} {l : List aS} {L : List aN} (h : s.all l = .ok L) : (L.map aN.av)[(((l.map aS.av).length : Nat) : Int).toNat]? = some (.agg (L.getD l.length mO).cells) := by
 have hL := xG h
 rw [Int.toNat_natCast, List.length_map, List.getElem?_map, List.getD_eq_getElem?_getD, List.getElem?_eq_getElem (by omega)]; rfl
theorem rM (s : aN) (l : List aS) (hs : s.dW) (hb : ∀ x ∈ l, x.dW ∧ x.names.length ≤ 1000) (hl : l.length ≤ 9223372036854775807) : Pure Tryz.prog 8 [iw s l, .bool false] (E4 s l (s.all l)) := by
 have e0 : iw s l = .agg [.sl (s.enums.map dk.av), .sl (s.msgs.map aT.av), .sl (l.map aS.av)] := rfl
 refine Pure.aL Tryz.func8 rfl rfl (aF rfl) fun H => (aC.seq (aC.region (aB.run II 4 rfl (aB.nil (aC.seq (aC.region (aB.run II 4 rfl ?_)))))))
 cases hp1 : s.all l with
 | ok x1 => 
  refine aB.c1 rfl (aG (aF rfl) tD rfl (uE hs hb hl hp1)) (aB.run II 7 rfl (aB.nil (aC.seq (aC.seq (aC.region (aB.run II 2 rfl (aB.nil (aC.aZ rfl rfl (aC.skip (aC.seq (aC.region (aB.run II 4 rfl (aB.c1 rfl (aG (aF rfl) Ci rfl (pN hs hb hl hp1)) (aB.run II 6 rfl (aB.nil (aC.seq (aC.seq (aC.region (aB.run II 2 rfl ?_)))))))))))))))))))
  refine aB.nil (aC.aZ rfl rfl (aC.skip (aC.seq (aC.seq (aC.region (aB.run II 1 rfl (aB.nil (aC.aZ rfl rfl (aC.skip (aC.seq (aC.drawn mixed rfl (aD.run II 5 rfl (aD.c1 rfl (aH (aF rfl) CO rfl rfl (Int.natCast_nonneg _) (FO hp1) rfl) (aD.run II 4 rfl (aD.nil (by kernel_rfl) (Kept.now ?_))))))))))))))))
  exact aC.ret ⟨.inr rfl, (aE.r3 rfl (.cell kQ rfl rfl rfl rfl (.cell fa rfl rfl rfl rfl (.tmp rfl .nil)))).cast rfl, rfl⟩
 | error e1 => 
  exact aB.c1 rfl (aG (aF rfl) tD rfl (uF hs hb hl hp1)) (aB.run II 7 rfl (aB.nil (aC.seq (aC.seq (aC.region (aB.run II 2 rfl (aB.nil (aC.az rfl (by simpa using vL hp1) (aC.seq (aC.region (aB.run II 5 rfl (aB.nil (aC.ret ⟨.inr rfl, (aE.r3 rfl (.cell kQ rfl rfl rfl rfl (.cell fa rfl rfl rfl rfl (.tmp rfl .nil)))).cast rfl, rfl⟩)))))))))))))
open Go Go.RowKit
/- The program logic within a fence: a function that calls yield, and the rounds of a range over a function. No condition. -/

def FF (ro : Option Nat) : Fence := { Fence.wide with round := ro }
def sk (o : Oper) : Bool := match o.op with | .defer _ => false | _ => true
theorem xx {o : Oper} (h : sk o = true) : ∀ c, o.op ≠ .defer c := fun c e => by unfold sk at h; rw [e] at h; cases h
theorem oa {ro : Option Nat} {P : Program} {o : Oper} {a : Act} {w : World} {K : Act → World → Prop} {Q : Exit → Act → World → Prop} (hd : sk o = true) (h : o.wp P a w K Q) : o.wpIn (FF ro) 3 P a w K Q := by
 refine ⟨fun _ _ => trivial, ?_⟩
 rw [Oper.semAt_eq _ _ _ (xx hd)]
 unfold Oper.wp at h
 generalize (execOp a.eval o).run P w = r at h ⊢
 cases r with
 | ok x w' =>
  cases x <;> simp only [Oper.upon, Oper.uponIn] at h ⊢ <;> first | exact h | skip
  ·exact ⟨fun _ => by omega, callsIn_wide.2 h⟩
  ·exact ⟨fun _ => by omega, fun c cs _ => let ⟨v, w2, r, s⟩ := h c cs; ⟨v, w2, r, stepsIn_wide.2 s⟩⟩
 | halt x w' => cases x <;> simp only [Oper.upon, Oper.uponIn] at h ⊢ <;> exact h
def ka (E : de) (ro : Option Nat) (P : Program) (N : Nat) (ops : Array Oper) (o : Oper) (s : St) (R : List aM) (ws : St) : Prop :=
 ∀ t, Reads R s t → ∀ G L a w, Rel E N G L a w t → ∀ (K : Act → World → Prop) (Q : Exit → Act → World → Prop),
  (∀ a' w' G' L', Rel E N G' L' a' w' (ws ++ t) → K a' w') → if Region.wanted o (yielded ops a.tmps) then o.wpIn (FF ro) 3 P a w K Q else K (a.put o.dst undef) w
def L0 (E : de) (ro : Option Nat) (P : Program) (N : Nat) (o : Oper) (s : St) (R : List aM) (ws : St) : Prop :=
 ∀ t, Reads R s t → ∀ G L a w, Rel E N G L a w t → ∀ (K : Act → World → Prop) (Q : Exit → Act → World → Prop),
  (∀ v w' G' L', Rel E N G' L' (a.put o.dst v) w' (ws ++ t) → K (a.put o.dst v) w') → o.wpIn (FF ro) 3 P a w K Q
def ar (E : de) (ro : Option Nat) (P : Program) (N : Nat) (c : Code) (s : St) (Q : Exit → St → Prop) : Prop :=
 ∀ a w, Fits E N s a w → c.wpIn (FF ro) 3 P (fun e a' w' => ∃ s', Fits E N s' a' w' ∧ Q e s') a w
section
variable {P : Program} {N : Nat} {ops : Array Oper} {s : St} {E : de} {ro : Option Nat}
theorem ka.of {o : Oper} {R : List aM} {ws : St} (hd : sk o = true) (h : bY P N ops o s R ws) : ka E ro P N ops o s R ws := by
 intro t hR G L a w hr K Q hK
 have := h t hR E G L a w hr K Q hK
 split
 ·rename_i hw; rw [if_pos hw] at this; exact oa hd this
 ·rename_i hw; rw [if_neg hw] at this; exact this
theorem ka.on {o : Oper} {R : List aM} {ws : St} {d : Nat} {b : Bool} (hN : d < N) (hg : eV ops o = some (d, b)) (hc : get s (.s d) = some (.sv (.v (.bool b)))) (h : L0 E ro P N o s R ws) : ka E ro P N ops o s (.s d :: R) ws := by
 intro t hR G L a w hr K Q hK
 rw [kf hr hN hg (by rw [hR (.s d) (List.mem_cons_self ..)]; exact hc), beq_self_eq_true, if_pos rfl]
 exact h t (hR.mono fun c hc => List.mem_cons_of_mem _ hc) G L a w hr K Q fun v w' G' L' hr' => hK _ _ G' L' hr'
end
inductive lq (E : de) (ro : Option Nat) (P : Program) (N : Nat) (ops : Array Oper) : List Oper → St → List (List aM × St) → St → Prop where
 | nil (s : St) : lq E ro P N ops [] s [] s
 | cons {o : Oper} {l : List Oper} {s : St} {R : List aM} {ws : St} {rs : List (List aM × St)} {s' : St} : ka E ro P N ops o s R ws → lq E ro P N ops l (ws ++ s) rs s' → lq E ro P N ops (o :: l) s ((R, ws) :: rs) s'
section
variable {P : Program} {N : Nat} {ops : Array Oper}
theorem lq.spec {E : de} {ro : Option Nat} {l : List Oper} {s s' : St} {rs : List (List aM × St)} (h : lq E ro P N ops l s rs s') : l.length = rs.length ∧ (∀ (i : Nat) o, l[i]? = some o → ∃ R ws s1, rs[i]? = some (R, ws) ∧ ka E ro P N ops o s1 R ws ∧ ∀ (c : aM) (k : Nat), get s1 c = get (jq (fun j => decide (j < k + i)) k rs s) c) ∧ ∀ (c : aM) (k : Nat), get s' c = get (jq (fun _ => true) k rs s) c := by
 induction h with
 | nil s => exact ⟨rfl, fun i o h => by simp at h, fun c k => rfl⟩
 | @cons o l s R ws rs s' hs _ ih =>
  obtain ⟨h1, h2, h3⟩ := ih
  refine ⟨by simp [h1], fun i o' hi => ?_, fun c k => ?_⟩
  ·cases i with
   | zero =>
    simp at hi; subst hi
    refine ⟨R, ws, s, rfl, hs, fun c k => ?_⟩
    have : get (jq (fun j => decide (j < k + 0)) k ((R, ws) :: rs) s) c = get (jq (fun _ => false) k ((R, ws) :: rs) s) c := by
     refine dH c _ k _ _ _ _ rfl fun i r _ _ => ?_
     simp
    rw [this]
    have hid : ∀ (rs : List (List aM × St)) (k : Nat) (u : St), jq (fun _ => false) k rs u = u := by
     intro rs
     induction rs with
     | nil => intro k u; rfl
     | cons q rs ih => intro k u; simp only [jq]; exact ih _ _
    rw [hid]
   | succ i =>
    obtain ⟨R', ws', s1, q1, q2, q3⟩ := h2 i o' (by simpa using hi)
    refine ⟨R', ws', s1, by simpa using q1, q2, fun c k => ?_⟩
    rw [q3 c (k + 1)]
    have : decide (k < k + (i + 1)) = true := by simp
    simp only [jq, this, if_true]
    rw [show k + 1 + i = k + (i + 1) by omega]
  ·rw [h3 c (k + 1)]
   simp only [jq, if_true]
theorem qj {ro : Option Nat} {i : Nat} {o : Oper} (hi : ops[i]? = some o) {K : Act → World → Prop} {Q : Exit → Act → World → Prop} {a : Act} {w : World} (h : if Region.wanted o (yielded ops a.tmps) then o.wpIn (FF ro) 3 P a w K Q else K (a.put o.dst undef) w) : wpOpIn (FF ro) 3 P ops Q i K a w := by
 unfold wpOpIn
 simp only [hi]
 split
 ·rename_i hw; rw [if_pos hw] at h; exact h
 ·rename_i hw; rw [if_neg hw] at h; exact ⟨fun _ _ => trivial, h⟩
theorem ar.draw {E : de} {ro : Option Nat} {s s' : St} {id : Nat} {l : List Oper} {rs : List (List aM × St)} {Q : Exit → St → Prop} (hm : P.follows .mixedOrders = true) (hc : lq E ro P N l.toArray l s rs s') (hback : fz 0 (l.map dK) = true) (hord : fl 0 rs (qt [] (l.map dK)) = true) (hQ : Kept s' (Q .normal)) :
  ar E ro P N (.region id l.toArray true) s Q := by
 intro a w ⟨G, L, hr⟩
 obtain ⟨hlen, hstep, hend⟩ := hc.spec
 have hsize : l.toArray.size = l.length := by simp
 have hop : ∀ (i : Nat) o, l.toArray[i]? = some o → l[i]? = some o := fun i o h => by simpa using h
 have hbk : ∀ i o, l.toArray[i]? = some o → ∀ e ∈ dK o, e < i := fun i o h e he => by
  have := nY hback i (dK o) (by simp [hop i o h]) e he
  omega
 refine wpIn_region_any hm ?_
 have hr0 : Rel E N G L a { w with drawn := w.drawn + 1 } s := by
  obtain ⟨H0, gH, hokH, hmayH⟩ := hr.heap
  have hst := hokH.stay (w' := { w with drawn := w.drawn + 1 }) (Gh.le.refl G) rfl (fun b hb => (hokH.ab hb).2) (fun _ _ => rfl) (Nat.le_refl _)
  refine ⟨hr.size, hr.defs, hr.ge, hr.kn, hr.old, hr.obs, hr.obn, ⟨hr.fr.os, hr.fr.tape, hr.fr.output, hr.fr.size, hr.fr.block⟩, hr.slot, hr.box, hr.tok, hr.disj, ⟨H0, gH, hst.1, fun b hb => hmayH b ((hst.2 b).1 hb)⟩, fun c b hc H2 g2 e2 => ?_, hr.nobox, hr.notok⟩
  rw [gH] at g2; cases g2
  exact hr.hdisj c b hc _ gH ((hst.2 b).1 e2)
 -- whatever has come up: the state behind it
 have key : ∀ (fuel : Nat) (listed : Array Bool) (t : St) (a : Act) (w : World), listed.size = l.length →
   (∀ j o, l[j]? = some o → listed.getD j false = true → ∀ e ∈ dK o, listed.getD e false = true) → (∀ c, get t c = get (jq (fun j => listed.getD j false) 0 rs s) c) → Fits E N t a w →
   (l.length ≤ fuel + vS listed.toList) → wpAnyIn (FF ro) 3 P .any l.toArray (fun e a' w' => ∃ s', Fits E N s' a' w' ∧ Q e s') fuel listed a w := by
  have fin : ∀ (listed : Array Bool) (t : St) (a : Act) (w : World), listed.size = l.length → (∀ c, get t c = get (jq (fun j => listed.getD j false) 0 rs s) c) → Fits E N t a w → Region.ready .any l.toArray listed = [] → ∃ s', Fits E N s' a w ∧ Q .normal s' := by
   intro listed t a w hsz ht ⟨G, L, hr⟩ hnil
   have hall := rL (by rw [hsz, hsize]) hbk hnil
   refine hQ E N a w ⟨G, L, hr.ext fun c => ?_⟩
   rw [ht c, hend c 0]
   refine dH c rs 0 _ _ _ _ rfl fun i r hi _ => ?_
   have hlt : i < rs.length := (List.getElem?_eq_some_iff.1 hi).1
   simp only [Nat.zero_add]
   exact (hall i (by rw [hsize]; omega)).symm
  intro fuel
  induction fuel with
  | zero =>
   intro listed t a w hsz hcl ht hf hcount
   have hnil : Region.ready .any l.toArray listed = [] := by
    cases hrd : Region.ready .any l.toArray listed with
    | nil => rfl
    | cons i r =>
     exfalso
     have hi : i ∈ Region.ready .any l.toArray listed := by rw [hrd]; exact List.mem_cons_self ..
     unfold Region.ready at hi
     rw [List.mem_filter] at hi
     have h1 : listed.getD i true = false := by
      have := hi.2
      simp only [Bool.and_eq_true, Bool.not_eq_true'] at this
      exact this.1
     have hlt : i < listed.size := by
      rcases Nat.lt_or_ge i listed.size with h | h
      ·exact h
      ·rw [Array.getD_eq_getD_getElem?, Array.getElem?_eq_none h] at h1; cases h1
     have h2 : listed[i] = false := by
      rw [Array.getD_eq_getD_getElem?, Array.getElem?_eq_getElem hlt] at h1; simpa using h1
     have h3 := tG listed.toList i (by rw [Array.getElem?_toList, Array.getElem?_eq_getElem hlt, h2])
     have h4 : listed.toList.length = listed.size := Array.length_toList
     omega
   exact ⟨hnil, fin listed t a w hsz ht hf hnil⟩
  | succ fuel ih =>
   intro listed t a w hsz hcl ht ⟨G, L, hr⟩ hcount
   refine ⟨fun hnil => fin listed t a w hsz ht ⟨G, L, hr⟩ hnil, fun i hi => ?_⟩
   unfold Region.ready at hi
   rw [List.mem_filter] at hi
   obtain ⟨hi1, hi2⟩ := hi
   simp only [Bool.and_eq_true, Bool.not_eq_true'] at hi2
   have hlt : i < l.length := by simpa using hi1
   have hlt' : i < listed.size := by omega
   have hli : listed[i] = false := by
    have := hi2.1
    rw [Array.getD_eq_getD_getElem?, Array.getElem?_eq_getElem hlt'] at this; simpa using this
   have hlif : listed.getD i false = false := by rw [Array.getD_eq_getD_getElem?, Array.getElem?_eq_getElem hlt']; simpa using hli
   have ho : l[i]? = some l[i] := List.getElem?_eq_getElem hlt
   obtain ⟨R, ws, s1, q1, q2, q3⟩ := hstep i l[i] ho
   -- what it waits for has come up
   have hedge : ∀ e ∈ dK l[i], listed.getD e false = true := by
    intro e he
    have h2 := hi2.2
    simp only [List.getElem?_toArray, ho, Option.map_some, Option.getD_some] at h2
    rw [Array.all_eq_true'] at h2
    unfold dK at he
    obtain ⟨x, hx, rfl⟩ := List.mem_map.1 he
    obtain ⟨hx1, hx2⟩ := List.mem_filter.1 hx
    have := h2 x (Array.mem_toList_iff.1 hx1)
    simpa [hx2] using this
   -- closed under what is waited for
   have hanc : ∀ (j : Nat), (j = i ∨ listed.getD j false = true) → j < l.length → ∀ k ∈ (qt [] (l.map dK)).getD j [], listed.getD k false = true := by
    intro j
    induction j using Nat.strongRecOn with
    | _ j ihj =>
     intro hj hjl k hk
     have hoj : l[j]? = some l[j] := List.getElem?_eq_getElem hjl
     obtain ⟨x, hx1, hx2⟩ := nZ (l.map dK) [] j (dK l[j]) (by simp [hjl])
     simp only [List.length_nil, Nat.zero_add] at hx1 hx2
     have hk' : k ∈ x := by rw [List.getD_eq_getElem?_getD, hx1] at hk; exact hk
     have hej : ∀ e ∈ dK l[j], listed.getD e false = true := by
      rcases hj with rfl | hj
      ·exact hedge
      ·exact hcl j l[j] hoj hj
     rcases hx2 k hk' with h | ⟨m, hm1, y, hy, hmlt, hky⟩
     ·exact hej k h
     ·refine ihj m hmlt (.inr (hej m hm1)) (by omega) k ?_
      rw [List.getD_eq_getElem?_getD, hy]; exact hky
   have hrlt : ∀ (j : Nat) q, rs[j]? = some q → j < l.length := fun j q h => by have := (List.getElem?_eq_some_iff.1 h).1; omega
   have hreads : Reads R s1 t := by
    intro c hc
    rw [ht c, q3 c 0]
    refine dH c rs 0 _ _ _ _ rfl fun j q hj hne => ?_
    simp only [Nat.zero_add]
    have hwc := nL hne
    by_cases hji : j < i
    ·have hcf : lj q (R, ws) = true := by
      simp only [lj, Bool.or_eq_true]
      exact .inl (jK hwc (List.mem_append.2 (.inl hc)))
     have hmem := iA hord j i q (R, ws) hji hj q1 hcf
     simp only [Nat.zero_add] at hmem
     rw [hanc i (.inl rfl) hlt j hmem]
     simp [hji]
    ·by_cases hje : j = i
     ·subst hje
      rw [hlif]; simp
     ·have hcf : lj (R, ws) q = true := by
       simp only [lj, Bool.or_eq_true]
       exact .inr (jK hc hwc)
      cases hlj : listed.getD j false with
      | false => simp [hji]
      | true =>
       exfalso
       have hmem := iA hord i j (R, ws) q (by omega) q1 hj hcf
       simp only [Nat.zero_add] at hmem
       have := hanc j (.inr hlj) (hrlt j q hj) i hmem
       rw [hlif] at this; cases this
   refine qj (by simp [ho]) (q2 t hreads G L a w hr _ _ fun a' w' G' L' hr' => ?_)
   have hset : ∀ j, (listed.setIfInBounds i true).getD j false = if j = i then true else listed.getD j false := by
    intro j
    rw [Array.getD_eq_getD_getElem?, Array.getD_eq_getD_getElem?]
    by_cases hj : j = i
    ·subst hj
     rw [Array.getElem?_setIfInBounds_self_of_lt hlt']; simp
    ·rw [Array.getElem?_setIfInBounds_ne (Ne.symm hj), if_neg hj]
   refine ih (listed.setIfInBounds i true) (ws ++ t) a' w' (by simpa using hsz) ?_ ?_ ⟨G', L', hr'⟩ ?_
   ·intro j o hj hlj e he
    rw [hset] at hlj ⊢
    split
    ·rfl
    ·by_cases hji : j = i
     ·subst hji
      rw [ho] at hj; cases hj
      exact hedge e he
     ·rw [if_neg hji] at hlj
      exact hcl j o hj hlj e he
   ·intro c
    have hf : (fun j => (listed.setIfInBounds i true).getD j false) = fun j => if j = i then true else listed.getD j false := funext hset
    rw [hf, get_append]
    cases hw : get ws c with
    | none =>
     simp only
     rw [ht c]
     refine dH c rs 0 _ _ _ _ rfl fun j q hj hne => ?_
     simp only [Nat.zero_add]
     by_cases hji : j = i
     ·subst hji
      rw [q1] at hj; cases hj
      exact absurd hw hne
     ·rw [if_neg hji]
    | some v =>
     simp only
     symm
     refine oq c rs 0 _ s i (R, ws) v q1 (by simp) hw fun j q hij hj hfj => ?_
     simp only [Nat.zero_add] at hfj
     rw [if_neg (by omega)] at hfj
     cases hqc : get q.2 c with
     | none => rfl
     | some u =>
      exfalso
      have hwc : c ∈ cw (R, ws) := nL (by rw [hw]; simp)
      have hqw : c ∈ cw q := nL (by rw [hqc]; simp)
      have hcf : lj (R, ws) q = true := by
       simp only [lj, Bool.or_eq_true]
       exact .inl (jK hwc (List.mem_append.2 (.inr hqw)))
      have hmem := iA hord i j (R, ws) q hij q1 hj hcf
      simp only [Nat.zero_add] at hmem
      have := hanc j (.inr hfj) (hrlt j q hj) i hmem
      rw [hlif] at this; cases this
   ·have e1 : (listed.setIfInBounds i true).toList = listed.toList.set i true := by simp
    have hcnt := o6 listed.toList i (by rw [Array.getElem?_toList, Array.getElem?_eq_getElem hlt', hli])
    rw [e1, hcnt]
    omega
 have h0 := key l.length (Array.replicate l.length false) s a { w with drawn := w.drawn + 1 } (by simp) (fun j o hj hlj => by
  rw [Array.getD_eq_getD_getElem?] at hlj
  have hj' := (List.getElem?_eq_some_iff.1 hj).1
  simp [hj'] at hlj) (fun c => by
  have : get (jq (fun j => (Array.replicate l.length false).getD j false) 0 rs s) c = get (jq (fun _ => false) 0 rs s) c := by
   refine dH c rs 0 _ _ _ _ rfl fun j q hj _ => ?_
   have hj' := (List.getElem?_eq_some_iff.1 hj).1
   have : j < l.length := by omega
   simp [Array.getD_eq_getD_getElem?, this]
  rw [this]
  have hid : ∀ (rs : List (List aM × St)) (k : Nat) (u : St), jq (fun _ => false) k rs u = u := by
   intro rs
   induction rs with
   | nil => intro k u; rfl
   | cons q rs ih => intro k u; simp only [jq]; exact ih _ _
  rw [hid]) ⟨G, L, hr0⟩ (by omega)
 simpa using h0

end
/-! ### Code within the fence -/
section
variable {P : Program} {N : Nat} {s : St} {E : de} {ro : Option Nat} {Q : Exit → St → Prop}
theorem kA {ops : Array Oper} {QQ : Exit → Act → World → Prop} (hq : ¬ LetsOut QQ) : ∀ {l : List Oper} {a : Act} {w : World}, l.all sk = true → wpList P ops QQ l a w → wpListIn (FF ro) 3 P ops QQ l a w
 | [], a, w, _, h => h
 | o :: l, a, w, hd, h => by
  rw [List.all_cons, Bool.and_eq_true] at hd
  unfold wpList at h
  unfold wpListIn
  split
  ·rename_i hw
   rw [if_pos hw] at h
   rcases h with h | h
   ·exact oa hd.1 (Oper.wp_mono (fun a w => kA hq hd.2) h)
   ·exact absurd h.2 hq
  ·rename_i hw
   rw [if_neg hw] at h
   exact ⟨fun _ _ => trivial, kA hq hd.2 h⟩
theorem ar.mono {c : Code} {Q' : Exit → St → Prop} (h : ar E ro P N c s Q) (hq : ∀ e s', Q e s' → Q' e s') : ar E ro P N c s Q' :=
 fun a w hf => wpIn_mono (h a w hf) fun e _ _ ⟨s', h1, h2⟩ => ⟨s', h1, hq e s' h2⟩
theorem ar.region {id : Nat} {l : List Oper} (h : aB P N l.toArray l s (Q .normal)) (hd : l.all sk = true := by rfl) : ar E ro P N (.region id l.toArray false) s Q := by
 intro a w hf
 refine wpIn_mono (wpIn_region_lit (kA (QQ := fun e a' w' => e = .normal ∧ ∃ s', Fits E N s' a' w' ∧ Q .normal s') ?_ hd (h E a w hf _ fun a' w' s' h1 h2 => ⟨rfl, s', h1, h2⟩))) ?_
 ·rintro ⟨a, w, h, _⟩; cases h
 ·rintro e a' w' ⟨rfl, h⟩; exact h
theorem ar.seq {c d : Code} (h : ar E ro P N c s fun e s' => match e with | .normal => ar E ro P N d s' Q | e => Q e s') : ar E ro P N (.seq c d) s Q := by
 intro a w hf
 refine wpIn_seq (wpIn_mono (h a w hf) ?_)
 rintro e a' w' ⟨s', h1, h2⟩
 cases e with
 | normal => exact h2 a' w' h1
 | _ => exact ⟨s', h1, h2⟩
theorem ar.skip (h : Q .normal s) : ar E ro P N .skip s Q := fun a w hf => wpIn_skip ⟨s, hf, h⟩
theorem ar.exit {id : Nat} (h : Q (.exit id) s) : ar E ro P N (.exit id) s Q := fun a w hf => wpIn_exit ⟨s, hf, h⟩
theorem ar.block {id : Nat} {c : Code} (h : ar E ro P N c s fun e s' => match e with | .exit id' => if id' = id then Q .normal s' else Q (.exit id') s' | e => Q e s') : ar E ro P N (.block id c) s Q := by
 intro a w hf
 refine wpIn_block (wpIn_mono (h a w hf) ?_)
 rintro e a' w' ⟨s', h1, h2⟩
 cases e with
 | exit id' =>
  simp only [Exit.inBlock] at h2 ⊢
  split
  ·rename_i hid; rw [if_pos hid] at h2; exact ⟨s', h1, h2⟩
  ·rename_i hid; rw [if_neg hid] at h2; exact ⟨s', h1, h2⟩
 | _ => exact ⟨s', h1, h2⟩
theorem ar.cond {t : Nat} {c d : Code} {b : Bool} (hc : get s (.s t) = some (.sv (.v (.bool b)))) (h1 : b = true → ar E ro P N c s Q) (h2 : b = false → ar E ro P N d s Q) : ar E ro P N (.cond (.tmp t) c d) s Q := by
 intro a w ⟨G, L, hr⟩
 exact wpIn_cond_split (rG hr hc) (fun e => h1 e a w ⟨G, L, hr⟩) (fun e => h2 e a w ⟨G, L, hr⟩)
theorem ar.aZ {t : Nat} {c d : Code} {b : Bool} (hc : get s (.s t) = some (.sv (.v (.bool b)))) (hb : b = false) (h : ar E ro P N d s Q) : ar E ro P N (.cond (.tmp t) c d) s Q :=
 ar.cond hc (fun e => by rw [hb] at e; cases e) (fun _ => h)
theorem ar.loop {c : Code} (T : Nat → St → Prop) (hT : ∀ n s, T n s → ar E ro P N c s fun e s' => match e with | .normal => ∃ m, m < n ∧ T m s' | e => Q e s') {n : Nat} (h0 : T n s) : ar E ro P N (.loop c) s Q := by
 intro a w hf
 have key : ∀ (k n : Nat) (s : St) (a : Act) (w : World), n < k → T n s → Fits E N s a w → Code.roundsIn (FF ro) 3 P c (fun e a' w' => ∃ s', Fits E N s' a' w' ∧ Q e s') k a w := by
  intro k
  induction k with
  | zero => intro n s a w h; omega
  | succ k ih =>
   intro n s a w hk hT1 hf1
   unfold Code.roundsIn
   refine wpIn_mono (hT n s hT1 a w hf1) ?_
   rintro e a' w' ⟨s', h1, h2⟩
   cases e with
   | normal =>
    obtain ⟨m, hlt, hTm⟩ := h2
    exact ih m s' a' w' (by omega) hTm h1
   | _ => exact ⟨s', h1, h2⟩
 exact wpIn_loop_rounds (n + 1) (key (n + 1) n s a w (by omega) h0 hf)
theorem ar.aK {c : Code} (h : Kept s fun s' => ar E ro P N c s' Q) : ar E ro P N c s Q := by
 intro a w hf
 obtain ⟨s', h1, h2⟩ := h E N a w hf
 exact h2 a w h1
theorem aC.L4 {c : Code} (h : aC P N c s Q) : ar E none P N c s Q := fun a w hf => wpIn_wide.2 (h E a w hf)
end
def bQ (E : de) (ro : Option Nat) (P : Program) (N : Nat) (ops : Array Oper) (A : List (List Nat)) (Q : St → Prop) (acc : List (List aM × St)) (l : List Oper) (s : St) : Prop := ∃ rs s', lq E ro P N ops l s rs s' ∧ fl 0 (acc ++ rs) A = true ∧ Kept s' Q
section
variable {P : Program} {N : Nat} {ops : Array Oper} {l : List Oper} {s : St} {Q : St → Prop} {o : Oper} {R : List aM} {E : de} {ro : Option Nat} {A : List (List Nat)} {acc : List (List aM × St)}
theorem bQ.nil (ho : fl 0 acc A = true) (hk : Kept s Q) : bQ E ro P N ops A Q acc [] s := ⟨[], s, .nil s, by simpa using ho, hk⟩
theorem bQ.cons {ws : St} (hs : ka E ro P N ops o s R ws) (h : bQ E ro P N ops A Q (acc ++ [(R, ws)]) l (ws ++ s)) : bQ E ro P N ops A Q acc (o :: l) s := by
 obtain ⟨rs, s', h1, h2, h3⟩ := h
 exact ⟨(R, ws) :: rs, s', .cons hs h1, by simpa using h2, h3⟩
theorem bQ.c1 {c : aM} {v : CV} (hg : o.guard = none) (ho : ae P N o s R [(c, v)]) (h : bQ E ro P N ops A Q (acc ++ [(R, [(c, v)])]) l ((c, v) :: s)) (hd : sk o = true := by rfl) : bQ E ro P N ops A Q acc (o :: l) s := bQ.cons (ka.of hd (bY.free hg ho)) h
theorem bQ.g1 {c : aM} {v : CV} {d : Nat} {b b' : Bool} (hg : eV ops o = some (d, b)) (hN : d < N) (hc : get s (.s d) = some (.sv (.v (.bool b')))) (hb : b' = b) (ho : ae P N o s R [(c, v)]) (h : bQ E ro P N ops A Q (acc ++ [(.s d :: R, [(c, v)])]) l ((c, v) :: s)) (hd : sk o = true := by rfl) : bQ E ro P N ops A Q acc (o :: l) s := bQ.cons (ka.of hd (bY.on hN hg (hb ▸ hc) ho)) h
theorem bQ.h2 {c c' : aM} {v u : CV} {d : Nat} {b b' : Bool} (hg : eV ops o = some (d, b)) (hN : d < N) (hc : get s (.s d) = some (.sv (.v (.bool b')))) (hb : b' = b) (ho : L0 E ro P N o s R [(c, v), (c', u)]) (h : bQ E ro P N ops A Q (acc ++ [(.s d :: R, [(c, v), (c', u)])]) l ((c, v) :: (c', u) :: s)) : bQ E ro P N ops A Q acc (o :: l) s := bQ.cons (ka.on hN hg (hb ▸ hc) ho) h
theorem bQ.split {d : Nat} {b : Bool} (hc : get s (.s d) = some (.sv (.v (.bool b)))) (h1 : b = true → bQ E ro P N ops A Q acc l s) (h2 : b = false → bQ E ro P N ops A Q acc l s) : bQ E ro P N ops A Q acc l s := by
 cases b
 ·exact h2 rfl
 ·exact h1 rfl
end
theorem ar.drawn {P : Program} {N : Nat} {s : St} {E : de} {ro : Option Nat} {id : Nat} {l : List Oper} {Q : Exit → St → Prop} (hm : P.follows .mixedOrders = true) (hback : fz 0 (l.map dK) = true) (h : bQ E ro P N l.toArray (qt [] (l.map dK)) (Q .normal) [] l s) : ar E ro P N (.region id l.toArray true) s Q := by
 obtain ⟨rs, s', h1, h2, h3⟩ := h
 exact ar.draw hm h1 hback (by simpa using h2) h3
/- The program logic's rules for a range over a function: the iterator, the rounds, the statement. No condition. -/

theorem Dz (ro : Option Nat) (n : Nat) : (FF ro).room n := fun _ h => by cases h
theorem A8 {ro : Option Nat} {n m : Nat} {P : Program} {c : Code} {Q : Exit → Act → World → Prop} {a : Act} {w : World} (h : c.wpIn (FF ro) n P Q a w) : c.wpIn (FF ro) m P Q a w :=
 fun b k cs h1 h2 _ => h b k cs h1 h2 (Dz _ _)
def LZ (G : Gh) (w : World) (H : Hp) (r : AV) (H' : Hp) : Ending → World → Prop := fun e w' =>
 ∃ v G', e = .returned v ∧ V G' v r ∧ ln (ab G H w) G G' w ∧ ew G' w' ∧ dX G' w' H' ∧ Fr (ab G H w) w w' ∧ ∀ b, ab G' H' w' b → w.heap.size ≤ b ∨ ab G H w b
def YS (P : Program) (B : de) (l : Nat) (args : List AV) (Ha Hb : Hp) : Prop :=
 ∀ G w cargs, GE ⟨G, w, ab G Ha w, []⟩ → ew G w → dX G w Ha → VL G cargs args → Fr B.M B.w0 w → ln B.M B.G0 G B.w0 → (∀ b, ab G Ha w b → B.may b) →
  YieldAt (FF none) 2 P l cargs w (LZ G w Ha (.bool true) Hb)
section
variable {P : Program} {N : Nat} {s : St} {E : de} {d : Nat} {ty : TypeId} {pos : String} {af : Array Edge} {g : Option (Nat × Bool)}
theorem B6 {x : Operand} {l : Nat} {xs : Array Operand} {tys : Array TypeId} {«as» : List AV} {H H' : Hp} (hN : d < N) (hx : cu x s = some (.yf l)) (ha : lB xs.toList s = some «as») (hH : get s .h = some (.hp H)) (hY : YS P E l «as» H H') :
  L0 E none P N ⟨some d, .call { callee := .value x, args := xs, argTypes := tys }, ty, pos, af, g⟩ s ((rd x ++ lv xs.toList) ++ [.h]) [(.s d, .sv (.v (.bool true))), (.h, .hp H')] := by
 intro t hR G L a w hr K Q hK
 obtain ⟨h1, h2⟩ := iB hr hR.left.right ha
 have hv := aU hr hR.left.left hx
 generalize hav : a.eval x = u at hv
 cases hv
 obtain ⟨H2, hH2, hok, hmay⟩ := hr.heap
 have hHt : get t .h = some (.hp H) := by rw [hR .h (by simp)]; exact hH
 rw [hHt] at hH2; cases hH2
 obtain ⟨fn, tmps, assign, body, hy, hround⟩ := hY G w ((xs.toList.map a.eval).toArray) (hr.su hHt) hr.kn hok (DT (by simpa using h1) h2) hr.fr ⟨hr.old, hr.obs, hr.obn⟩ hmay
 have e : #[] ++ Array.map a.eval xs ++ #[] = (xs.toList.map a.eval).toArray := by apply Array.ext'; simp
 have he : (execOp a.eval ⟨some d, .call { callee := .value x, args := xs, argTypes := tys }, ty, pos, af, g⟩).run P w = .ok (.round l fn tmps assign body) w := by
  simp only [execOp, resolve, hav, Deferred.ofValue, Sem.run_bind, Sem.run_pure, Result.andThen_ok, invoke]
  first | rw [e, hy] | (rw [show #[] ++ Array.map a.eval xs = (xs.toList.map a.eval).toArray by apply Array.ext'; simp, hy])
 refine ⟨fun _ _ => trivial, ?_⟩
 rw [Oper.semAt_eq _ _ _ (xx rfl), he, Oper.uponIn_round]
 refine ⟨fun _ => by omega, hround.mono ?_⟩
 rintro e' w' ⟨v, G', rfl, hv, hx', hkn, hok', hf, hft⟩
 exact hK v w' G' L ((hr.called hHt hx' hkn hok' hf hft).put d hN v (.v _) hv)
end
def kb (P : Program) (gf : FuncId) (caps : List AV) (H : Hp) (ys : List (List AV × Hp × Hp)) (H' : Hp) : Prop :=
 ∀ G w cargs l, GE ⟨G, w, ab G H w, []⟩ → ew G w → dX G w H → VL G cargs caps → (∀ y ∈ ys, YS P ⟨G, w, ab G H w, []⟩ l y.1 y.2.1 y.2.2) →
  Calls P gf (#[.func (.yield l) #[] #[]] ++ cargs) w fun e w' => (∃ v, e = .returned v) ∧ ∃ G', ln (ab G H w) G G' w ∧ ew G' w' ∧ dX G' w' H' ∧ Fr (ab G H w) w w' ∧ ∀ b, ab G' H' w' b → w.heap.size ≤ b ∨ ab G H w b
theorem kb.aL {P : Program} {gf : FuncId} {fn : Func} {c : Code} {N : Nat} {caps : List AV} {H : Hp} {ys : List (List AV × Hp × Hp)} {H' : Hp} (hf : P.funcs[gf]? = some fn) (hb : fn.body = some c) (hN : fn.ntmps = N) (hle : caps.length + 1 ≤ N) (hres : fn.results = #[])
  (h : ∀ E l, (∀ y ∈ ys, YS P E l y.1 y.2.1 y.2.2) → ar E none P N c ((.h, .hp H) :: ep (.yf l :: caps) 0) fun e s' => (e = .normal ∨ e = .ret) ∧ get s' .h = some (.hp H')) : kb P gf caps H ys H' := by
 intro G w cargs l hg hk hH hV hY
 refine calls_of_wp hf hb ?_
 have hV' : VL G (#[.func (.yield l) #[] #[]] ++ cargs) (.yf l :: caps) := by
  refine ⟨by simp [hV.1]; omega, fun j x e => ?_⟩
  cases j with
  | zero => simp at e; subst e; simpa [Array.getD_eq_getD_getElem?, Array.getElem?_append] using V.yf l
  | succ j =>
   have := hV.2 j x (by simpa using e)
   simpa [Array.getD_eq_getD_getElem?, Array.getElem?_append] using this
 have h0 := rb hN (args := .yf l :: caps) (by simpa using hle) hg hk hH hV'
 refine wp_mono (wpIn_wide.1 (h ⟨G, w, ab G H w, []⟩ l hY _ w h0)) ?_
 rintro e a' w' ⟨s', ⟨G', L', hr⟩, he, hh⟩
 obtain ⟨v, hv, hV'⟩ := aE.r0 (P := P) (s := s') hres _ _ _ _ _ _ hr
 obtain ⟨H2, g, hok, hmay⟩ := hr.heap
 rw [hh] at g; cases g
 have hpost : (∃ v2, Ending.returned v = .returned v2) ∧ ∃ G', ln (ab G H w) G G' w ∧ ew G' w' ∧ dX G' w' H' ∧ Fr (ab G H w) w w' ∧ ∀ b, ab G' H' w' b → w.heap.size ≤ b ∨ ab G H w b :=
  ⟨⟨v, rfl⟩, G', ⟨hr.old, hr.obs, hr.obn⟩, hr.kn, hok, hr.fr, hmay⟩
 rcases he with rfl | rfl
 ·exact ⟨hr.defs, v, hv, hpost⟩
 ·exact ⟨hr.defs, v, hv, hpost⟩
/-! ### A block that is no cells turns -/
theorem Gc {w w' : World} {b : Nat} (h : w'.heap[b]? = w.heap[b]?) (o : Nat) : w'.cell? ⟨b, o, none⟩ = w.cell? ⟨b, o, none⟩ := by
 simp only [World.cell?, h]
theorem nT {G : Gh} {w : World} {b : Nat} {o o' : Obj} (hk : ew G w) (hb : w.heap[b]? = some o) (hnc : ∀ x y z, o ≠ .cells x y z) : ew G (w.putObj b o') := by
 intro b1 o1 v e
 have h1 := hk b1 o1 v e
 have hne : b1 ≠ b := by
  rintro rfl
  unfold World.cell? at h1
  rw [hb] at h1
  cases o <;> first | exact absurd rfl (hnc _ _ _) | simp at h1
 rw [Gc (World.putObj_heap_other hne)]
 exact h1
theorem Rel.GP {E : de} {N : Nat} {G : Gh} {L : Loc} {a : Act} {w : World} {s : St} {H : Hp} (h : Rel E N G L a w s) (hH : get s .h = some (.hp H)) {b : Nat} {o o' : Obj} {ds : List Deferred} (hb : w.heap[b]? = some o) (hnc : ∀ x y z, o ≠ .cells x y z) (hgn : gN ≤ b) (hlt : b < E.w0.heap.size) (hM : ¬ E.M b) :
  Rel ⟨E.G0, E.w0.putObj b o', E.M, ds⟩ N G L { a with defers := ds } (w.putObj b o') s := by
 obtain ⟨H0, g0, hok, hmay⟩ := h.heap
 rw [hH] at g0; cases g0
 obtain ⟨h1, h2, h3⟩ := h.ge
 have hnm : ¬ E.may b := fun e => by rcases e with e | e; exact absurd hlt (Nat.not_lt.2 e); exact hM e
 have hoth : ∀ k, k ≠ b → (w.putObj b o').heap[k]? = w.heap[k]? := fun k hk => World.putObj_heap_other hk
 have hne : ∀ k, ab G H w k → k ≠ b := fun k hk e => hnm (e ▸ hmay k hk)
 have hneo : ∀ c k, owns s L c k → k ≠ b := fun c k hk e => hnm (e ▸ (gZ h hk).2)
 have hst := hok.stay (w' := w.putObj b o') (Gh.le.refl G) rfl (fun b hb => (hok.ab hb).2) (fun k hk => hoth k (hne k hk)) (by simp)
 have hsz : (E.w0.putObj b o').heap.size = E.w0.heap.size := by simp
 refine ⟨h.size, rfl, ⟨FU (fun k hk => World.putObj_heap_other (by omega)) h1, by simpa using h2, h3⟩, nT h.kn hb hnc, fun b o hb => h.old b o (by simpa using hb), h.obs, fun id b e => by simpa using h.obn id b e,
  ⟨h.fr.os, h.fr.tape, h.fr.output, by simpa using h.fr.size, fun k hk hno => ?_⟩, fun n x g => h.slot n x g, fun k cv g hl => ?_, fun k m el esz xs g => ?_, h.disj,
  ⟨H, hH, hst.1, fun k hk => ?_⟩, fun c k hc H2 g2 hf => ?_, h.nobox, h.notok⟩
 ·by_cases e : k = b
  ·subst e
   rw [World.putObj_heap_same (Nat.lt_of_lt_of_le hlt h.fr.size), World.putObj_heap_same hlt]
  ·rw [hoth k e, World.putObj_heap_other e]
   exact h.fr.block k (by simpa using hk) hno
 ·have hB := (h.box k cv g hl).stay (G' := G) (w' := w.putObj b o') (Gh.le.refl G) (fun _ _ e => .inl ⟨_, e⟩) (fun q hq => hoth q (hneo (.b k) q ⟨⟨cv, g, hl⟩, hq⟩)) (fun _ _ _ => rfl)
  obtain ⟨blk, o, q1, q2, q3, q4, q5, q6⟩ := hB
  refine ⟨blk, o, q1, ?_, q3, q4, q5, ?_⟩
  ·rcases q2 with e | e
   ·exact .inl (by simpa using e)
   ·exact .inr e
  ·cases hk : cv.link with
   | some id => rw [hk] at q6; exact q6
   | none => rw [hk] at q6; exact ⟨by simpa using q6.1, q6.2⟩
 ·have hT := (h.tok k m el esz xs g).stay (G' := G) (w' := w.putObj b o') (Gh.le.refl G) (fun _ _ e => .inl ⟨_, e⟩) (fun v q hv hq => hoth q (hneo (.t k) q ⟨⟨m, el, esz, xs, g⟩, v, hv, hq⟩)) (fun _ _ _ _ _ => rfl)
  obtain ⟨v, q1, q2, q3⟩ := hT
  refine ⟨v, q1, q2, fun blk hb => ⟨?_, (q3 blk hb).2⟩⟩
  rcases (q3 blk hb).1 with e | e
  ·exact .inl (by simpa using e)
  ·exact .inr e
 ·rcases hmay k ((hst.2 k).1 hk) with e | e
  ·exact .inl (by simpa using e)
  ·exact .inr e
 ·rw [hH] at g2; cases g2
  exact h.hdisj c k hc H hH ((hst.2 k).1 hf)
theorem Rel.LX {E : de} {N : Nat} {G : Gh} {L : Loc} {a : Act} {w : World} {s : St} {H : Hp} (h : Rel E N G L a w s) (hH : get s .h = some (.hp H)) (hbx : ∀ k, get s (.b k) = none) (htk : ∀ k, get s (.t k) = none) {b : Nat} {o o' : Obj} {ds : List Deferred} (hb : w.heap[b]? = some o) (hnc : ∀ x y z, o ≠ .cells x y z) (hgn : gN ≤ b) (hnf : ¬ ab G H w b) :
  Rel ⟨G, w.putObj b o', ab G H w, ds⟩ N G L { a with defers := ds } (w.putObj b o') s := by
 obtain ⟨H0, g0, hok, hmay⟩ := h.heap
 rw [hH] at g0; cases g0
 obtain ⟨h1, h2, h3⟩ := h.su hH
 have hoth : ∀ k, k ≠ b → (w.putObj b o').heap[k]? = w.heap[k]? := fun k hk => World.putObj_heap_other hk
 have hne : ∀ k, ab G H w k → k ≠ b := fun k hk e => hnf (e ▸ hk)
 have hst := hok.stay (w' := w.putObj b o') (Gh.le.refl G) rfl (fun b hb => (hok.ab hb).2) (fun k hk => hoth k (hne k hk)) (by simp)
 exact ⟨h.size, rfl, ⟨FU (fun k hk => hoth k (by omega)) h1, by simpa using h2, h3⟩, nT h.kn hb hnc, fun _ _ _ _ => rfl, fun _ _ e => ⟨e, rfl⟩, fun _ _ e => .inl ⟨_, e⟩, Fr.refl _ _, fun n x g => h.slot n x g,
  fun k cv g hl => (by rw [hbx k] at g; cases g), fun k m el esz xs g => (by rw [htk k] at g; cases g), h.disj,
  ⟨H, hH, hst.1, fun k hk => .inr ((hst.2 k).1 hk)⟩, fun c k hc => (by
   cases c with
   | b k => obtain ⟨⟨cv, g, _⟩, _⟩ := hc; rw [hbx] at g; cases g
   | t k => obtain ⟨⟨m, el, esz, xs, g⟩, _⟩ := hc; rw [htk] at g; cases g
   | s n => exact hc.elim
   | h => exact hc.elim), h.nobox, h.notok⟩
/- The program logic's rule for the statement 'for .. := range f'. No condition. -/

/-! ### The parameters of a round -/
def E3 : List Nat → List AV → St
 | p :: ps, a :: l => (.s p, .sv (.v a)) :: E3 ps l
 | _, _ => []
def j7 (s : St) (ps : List Nat) (args : List AV) (H : Hp) : St := E3 ps args ++ ((.h, .hp H) :: s)
theorem rO : ∀ (ps : List Nat) (l : List AV) (c : aM), (∀ n, c ≠ .s n) → get (E3 ps l) c = none
 | [], _, _, _ => rfl
 | _ :: _, [], _, _ => rfl
 | p :: ps, a :: l, c, h => by
  simp only [E3, get]
  rw [if_neg (fun e => h p e.symm)]
  exact rO ps l c h
theorem uG : ∀ (ps : List Nat) (l : List AV) (n : Nat) (v : CV), get (E3 ps l) (.s n) = some v → ∃ (i : Nat) (a : AV), ps[i]? = some n ∧ l[i]? = some a ∧ v = .sv (.v a)
 | [], _, _, _, h => by cases h
 | _ :: _, [], _, _, h => by cases h
 | p :: ps, a :: l, n, v, h => by
  simp only [E3, get] at h
  split at h
  ·rename_i e
   injection e with e
   cases h
   exact ⟨0, a, by simp [e], rfl, rfl⟩
  ·obtain ⟨i, b, h1, h2, h3⟩ := uG ps l n v h
   exact ⟨i + 1, b, by simpa using h1, by simpa using h2, h3⟩
theorem uH : ∀ (ps : List Nat) (l : List AV) (n : Nat), ps.length = l.length → get (E3 ps l) (.s n) = none → n ∉ ps
 | [], _, _, _, _ => by simp
 | p :: ps, [], n, hl, h => by simp at hl
 | p :: ps, a :: l, n, hl, h => by
  simp only [E3, get] at h
  split at h
  ·cases h
  ·rename_i e
   have := uH ps l n (by simpa using hl) h
   simp only [List.mem_cons, not_or]
   exact ⟨fun e2 => e (by rw [e2]), this⟩
theorem uf : ∀ (ps : List Nat) (vs : List Value) (tm : Array Value), ps.length = vs.length → ps.Nodup → (∀ p ∈ ps, p < tm.size) →
  let t' := (ps.zip vs).foldl (fun (t : Array Value) (x : Nat × Value) => t.setIfInBounds x.1 x.2) tm
  t'.size = tm.size ∧ (∀ n, n ∉ ps → t'.getD n undef = tm.getD n undef) ∧ ∀ i p, ps[i]? = some p → t'.getD p undef = vs.getD i undef
 | [], vs, tm, _, _, _ => ⟨by simp, fun _ _ => by simp, fun i p h => by simp at h⟩
 | p :: ps, [], tm, hl, _, _ => by simp at hl
 | p :: ps, v :: vs, tm, hl, hn, hs => by
  obtain ⟨hn1, hn2⟩ := List.nodup_cons.1 hn
  obtain ⟨h1, h2, h3⟩ := uf ps vs (tm.setIfInBounds p v) (by simpa using hl) hn2 (fun q hq => by simpa using hs q (List.mem_cons_of_mem _ hq))
  have hp := hs p (List.mem_cons_self ..)
  simp only [List.zip_cons_cons, List.foldl_cons]
  refine ⟨by simpa using h1, fun n hn' => ?_, fun i q hq => ?_⟩
  ·simp only [List.mem_cons, not_or] at hn'
   rw [h2 n hn'.2]
   simp only [Array.getD_eq_getD_getElem?]
   rw [Array.getElem?_setIfInBounds_ne (Ne.symm hn'.1)]
  ·cases i with
   | zero =>
    simp at hq; subst hq
    rw [h2 p hn1]
    simp [Array.getD_eq_getD_getElem?, Array.getElem?_setIfInBounds_self_of_lt hp]
   | succ i => exact h3 i q (by simpa using hq)
theorem zG {E : de} {N : Nat} {G0 G : Gh} {L : Loc} {a : Act} {w0 w : World} {s : St} (h : Rel E N G0 L a w0 s) (hbx : ∀ k, get s (.b k) = none) (htk : ∀ k, get s (.t k) = none) (hle : G0.le G) {Ha : Hp} (hge : GE ⟨G, w, ab G Ha w, []⟩) (hkn : ew G w) (hok : dX G w Ha)
  {ps : List Nat} {args : List AV} {cargs : Array Value} (hv : VL G cargs args) (hl : ps.length = args.length) (hn : ps.Nodup) (hs : ∀ p ∈ ps, p < N) :
  Rel ⟨G, w, ab G Ha w, []⟩ N G L { tmps := (ps.toArray.zip cargs).foldl (fun t (p, v) => t.setIfInBounds p v) a.tmps, defers := [] } w (j7 s ps args Ha) := by
 have hz : (ps.toArray.zip cargs).foldl (fun t (p, v) => t.setIfInBounds p v) a.tmps = (ps.zip cargs.toList).foldl (fun (t : Array Value) (x : Nat × Value) => t.setIfInBounds x.1 x.2) a.tmps := by
  rw [← Array.foldl_toList]
  simp
 obtain ⟨f1, f2, f3⟩ := uf ps cargs.toList a.tmps (by rw [hl]; simpa using hv.1.symm) hn (fun p hp => by rw [h.size]; exact hs p hp)
 have hg : ∀ c, (∀ n, c ≠ .s n) → get (j7 s ps args Ha) c = get ((.h, .hp Ha) :: s) c := fun c hc => by
  unfold j7; rw [get_append, rO _ _ _ hc]
 have hgb : ∀ k, get (j7 s ps args Ha) (.b k) = none := fun k => by rw [hg _ (by simp)]; simpa [get] using hbx k
 have hgt : ∀ k, get (j7 s ps args Ha) (.t k) = none := fun k => by rw [hg _ (by simp)]; simpa [get] using htk k
 have hgh : get (j7 s ps args Ha) .h = some (.hp Ha) := by rw [hg _ (by simp)]; simp [get]
 have hno : ∀ c blk, ¬ owns (j7 s ps args Ha) L c blk := fun c blk hc => by
  cases c with
  | b k => obtain ⟨⟨cv, g, _⟩, _⟩ := hc; rw [hgb] at g; cases g
  | t k => obtain ⟨⟨m, el, esz, xs, g⟩, _⟩ := hc; rw [hgt] at g; cases g
  | s n => exact hc.elim
  | h => exact hc.elim
 refine ⟨by show Array.size _ = N; rw [hz, f1]; exact h.size, rfl, hge, hkn, fun _ _ _ _ => rfl, fun _ _ e => ⟨e, rfl⟩, fun _ _ e => .inl ⟨_, e⟩, Fr.refl _ _, fun n x g => ?_, fun k cv g => (by rw [hgb] at g; cases g), fun k m el esz xs g => (by rw [hgt] at g; cases g),
  fun c d blk hc => (hno c blk hc).elim, ⟨Ha, hgh, hok, fun b hb => .inr hb⟩, fun c blk hc => (hno c blk hc).elim, fun k _ => h.nobox k (hbx k), fun k _ => h.notok k (htk k)⟩
 show SV G L (Array.getD _ n undef) x
 rw [hz]
 unfold j7 at g
 rw [get_append] at g
 cases hp : get (E3 ps args) (.s n) with
 | some v =>
  rw [hp] at g
  obtain ⟨i, b, h1, h2, h3⟩ := uG _ _ _ _ hp
  subst h3
  cases g
  rw [f3 i n h1]
  have := hv.2 i b h2
  show V G _ b
  simpa [Array.getD_eq_getD_getElem?, List.getD_eq_getElem?_getD] using this
 | none =>
  rw [hp] at g
  rw [f2 n (uH _ _ _ hl hp)]
  exact (h.slot n x (by simpa [get] using g)).mono hle
def tO (P : Program) (N : Nat) (s : St) (ps : List Nat) (assign body : Code) (args : List AV) (Ha Hb : Hp) : Prop :=
 ∀ E l, ar E (some l) P N assign (j7 s ps args Ha) fun e s1 => e = .normal ∧ ∀ E', ar E' (some l) P N body s1 fun e s2 => e = .normal ∧ get s2 .h = some (.hp Hb)
theorem u9 {G : Gh} {w : World} (o : Obj) (hk : ew G w) : ew G (w.alloc o) := fun b o1 v e => by
 have h1 := hk b o1 v e
 rw [Gc (w := w.alloc o) (w' := w) (show w.heap[b]? = (w.alloc o).heap[b]? from ?_)] at h1
 ·exact h1
 ·have := World.block_lt_of_cell? w _ (hk b o1 v e)
  show _ = (w.heap.push o)[b]?
  rw [Array.getElem?_push_lt this, Array.getElem?_eq_getElem this]
theorem heap_alloc {w : World} {o : Obj} {b : Nat} (h : b < w.heap.size) : (w.alloc o).heap[b]? = w.heap[b]? := by
 show (w.heap.push o)[b]? = _
 rw [Array.getElem?_push_lt h, Array.getElem?_eq_getElem h]
theorem iN {w : World} {o : Obj} : (w.alloc o).heap.size = w.heap.size + 1 := by show (w.heap.push o).size = _; simp
theorem YS.Bm {P : Program} {E : de} {N : Nat} {G0 : Gh} {L : Loc} {a : Act} {w0 w2 : World} {s : St} {H Ha Hb : Hp} {l fn D : Nat} {ps : List Nat} {assign body : Code} {args : List AV} (h : Rel E N G0 L a w0 s) (hbx : ∀ k, get s (.b k) = none) (htk : ∀ k, get s (.t k) = none) (hk2 : ew G0 w2) (hok2 : dX G0 w2 H)
  (hl2 : w2.heap[l]? = some (.loop { state := .ready, pending := none, fn, tmps := a.tmps, params := ps.toArray, assign, body, defers := D })) (hlf : ¬ ab G0 H w2 l) (hgn : gN ≤ l)
  (hl : ps.length = args.length) (hn : ps.Nodup) (hs : ∀ p ∈ ps, p < N) (hR : tO P N s ps assign body args Ha Hb) : YS P ⟨G0, w2, ab G0 H w2, []⟩ l args Ha Hb := by
 intro G w cargs hge hkn hok hv hfr hx hmay
 have hlt2 : l < w2.heap.size := (Array.getElem?_eq_some_iff.1 hl2).1
 have hlt : l < w.heap.size := Nat.lt_of_lt_of_le hlt2 hfr.size
 have hl0 := (hfr.block l hlt2 hlf).trans hl2
 have hnf : ¬ ab G Ha w l := fun e => by
  rcases hmay l e with e | e
  ·exact absurd hlt2 (Nat.not_lt.2 e)
  ·exact hlf e
 have hle : G0.le G := hx.le hk2 (fun b hb => (hok2.ab hb).2)
 have hr := zG h hbx htk hle hge hkn hok hv hl hn hs
 refine ⟨fn, _, assign, body, run_yield hl0 (by simpa using hv.1.trans hl.symm), roundIn_of_wpIn trivial ?_⟩
 show assign.wpIn (FF (some l)) 2 P _ _ _
 refine A8 (wpIn_mono (hR ⟨G, w, ab G Ha w, []⟩ l _ _ ⟨G, L, hr⟩) ?_)
 rintro e a1 w1 ⟨s1, ⟨G1, L1, hr1⟩, rfl, hbody⟩
 have hl1 := (hr1.fr.block l hlt hnf).trans hl0
 obtain ⟨H1, gH1, _, _⟩ := hr1.heap
 refine ⟨_, run_beginRound hl1 rfl, ?_⟩
 have hr2 := hr1.GP gH1 (o' := .loop { state := .busy, pending := none, fn, tmps := a.tmps, params := ps.toArray, assign, body, defers := D }) (ds := []) hl1 (by intro x y z e; cases e) hgn hlt hnf
 have ha1 : ({ a1 with defers := [] } : Act) = a1 := by
  have := hr1.defs
  cases a1; simp at this; subst this; rfl
 rw [ha1] at hr2
 show body.wpIn (FF (some l)) 2 P _ a1 _
 refine A8 (wpIn_mono (hbody _ a1 _ ⟨G1, L1, hr2⟩) ?_)
 rintro e a3 w3 ⟨s3, ⟨G3, L3, hr3⟩, rfl, hH3⟩
 have hl3 := (hr3.fr.block l (by simpa using hlt) hnf).trans (World.putObj_heap_same hlt)
 obtain ⟨H3, gH3, hok3, hmay3⟩ := hr3.heap
 rw [hH3] at gH3; cases gH3
 have hm3 : ∀ b, ab G3 Hb w3 b → w.heap.size ≤ b ∨ ab G Ha w b := fun b hb => by
  rcases hmay3 b hb with e | e
  ·exact .inl (by simpa using e)
  ·exact .inr e
 have hne : ∀ b, ab G3 Hb w3 b → b ≠ l := fun b hb e => by
  subst e
  rcases hm3 b hb with e | e
  ·exact absurd hlt (Nat.not_lt.2 e)
  ·exact hnf e
 have hlt3 : l < w3.heap.size := (Array.getElem?_eq_some_iff.1 hl3).1
 refine ⟨_, _, run_endRound none hl3, .bool true, G3, rfl, .bool true, ⟨fun b o hb hm => hr3.old b o (by simpa using hb) hm, hr3.obs, fun id b e => by simpa using hr3.obn id b e⟩, nT hr3.kn hl3 (by intro x y z e; cases e), ?_⟩
 have hst := fun o' => hok3.stay (w' := w3.putObj l o') (Gh.le.refl G3) rfl (fun b hb => (hok3.ab hb).2) (fun k hk => World.putObj_heap_other (hne k hk)) (by simp)
 refine ⟨(hst _).1, ⟨hr3.fr.os, hr3.fr.tape, hr3.fr.output, by simpa using hr3.fr.size, fun k hk hno => ?_⟩, fun b hb => hm3 b (((hst _).2 b).1 hb)⟩
 by_cases e : k = l
 ·subst e
  rw [World.putObj_heap_same hlt3, hl0]; rfl
 ·rw [World.putObj_heap_other e]
  exact (hr3.fr.block k (by simpa using hk) hno).trans (World.putObj_heap_other e)
/-! ### The statement -/
def oJ (P : Program) (N : Nat) (fn : Func) (c : Code) (s : St) (r : AV) (H' : Hp) : Prop :=
 ∀ E a w, Fits E N s a w → E.ds = [] → c.wpIn (FF none) 3 P (bodyPostM (FF none) 3 P fn (o7 E r H')) a w
theorem oJ.seq {P : Program} {N : Nat} {fn : Func} {s : St} {r : AV} {H' : Hp} {c d : Code} (h : aC P N c s fun e s' => e = .normal ∧ oJ P N fn d s' r H') : oJ P N fn (.seq c d) s r H' := by
 intro E a w hf hd
 refine wpIn_seq (wpIn_mono (h.L4 a w hf) ?_)
 rintro e a' w' ⟨s', h1, rfl, h2⟩
 exact h2 E a' w' h1 hd
def DU (P : Program) (N : Nat) (fn : Func) (b d : Code) (s : St) (r : AV) (H' : Hp) : Prop :=
 ∀ E a w, Fits E N s a w → E.ds = [] → b.wpIn (FF none) 3 P (Exit.then (d.wpIn (FF none) 3 P (bodyPostM (FF none) 3 P fn (o7 E r H'))) (bodyPostM (FF none) 3 P fn (o7 E r H'))) a w
theorem oJ.J9 {P : Program} {N : Nat} {fn : Func} {s : St} {r : AV} {H' : Hp} {c b d : Code} (h : aC P N c s fun e s' => e = .normal ∧ DU P N fn b d s' r H') : oJ P N fn (.seq (.seq c b) d) s r H' := by
 intro E a w hf hd
 refine wpIn_seq (wpIn_seq (wpIn_mono (h.L4 a w hf) ?_))
 rintro e a' w' ⟨s', h1, rfl, h2⟩
 exact h2 E a' w' h1 hd
theorem DU.range {P : Program} {N : Nat} {fn : Func} {s : St} {r : AV} {H H2 H' : Hp} {id t : Nat} {ps : List Nat} {assign body d : Code} {gf : FuncId} {caps : List AV} {ys : List (List AV × Hp × Hp)} (hbx : ∀ k, get s (.b k) = none) (htk : ∀ k, get s (.t k) = none)
  (hH : get s .h = some (.hp H)) (hc : get s (.s t) = some (.sv (.v (.fn gf caps)))) (hgf : aa P gf = true) (hI : kb P gf caps H ys H2) (hn : ps.Nodup) (hs : ∀ p ∈ ps, p < N) (hl : ∀ y ∈ ys, ps.length = y.1.length)
  (hR : ∀ y ∈ ys, tO P N s ps assign body y.1 y.2.1 y.2.2) (hd : aC P N d ((.h, .hp H2) :: s) fun e s' => (e = .normal ∨ e = .ret) ∧ aE P fn s' r ∧ get s' .h = some (.hp H')) :
  DU P N fn (.block id (.rangeFunc (.tmp t) ps.toArray assign body)) d s r H' := by
 intro E a w ⟨G, L, hr⟩ hds
 refine wpIn_block (wpIn_rangeFunc ?_)
 intro fid hfn
 obtain ⟨H0, g0, hok, hmay⟩ := hr.heap
 rw [hH] at g0; cases g0
 have hv : V G (a.eval (.tmp t)) (.fn gf caps) := hr.slot t _ hc
 generalize hav : a.eval (.tmp t) = u at hv
 cases hv
 rename_i vs hvl hvv
 obtain ⟨w2, hw2⟩ : ∃ w2, w2 = (w.alloc (.deferred (some []))).alloc (.loop { state := .ready, pending := none, fn := fid, tmps := a.tmps, params := ps.toArray, assign, body, defers := w.heap.size }) := ⟨_, rfl⟩
 have hsz2 : w2.heap.size = w.heap.size + 2 := by rw [hw2, iN, iN]
 have hlow : ∀ b, b < w.heap.size → w2.heap[b]? = w.heap[b]? := fun b hb => by rw [hw2, heap_alloc (by rw [iN]; omega), heap_alloc hb]
 have hD2 : w2.heap[w.heap.size]? = some (.deferred (some [])) := by rw [hw2, heap_alloc (by rw [iN]; omega)]; exact World.alloc_heap_new w _
 have hl2 : w2.heap[w.heap.size + 1]? = some (.loop { state := .ready, pending := none, fn := fid, tmps := a.tmps, params := ps.toArray, assign, body, defers := w.heap.size }) := by
  rw [hw2]
  have := World.alloc_heap_new (w.alloc (.deferred (some []))) (.loop { state := .ready, pending := none, fn := fid, tmps := a.tmps, params := ps.toArray, assign, body, defers := w.heap.size })
  rwa [iN] at this
 have hk2 : ew G w2 := by rw [hw2]; exact u9 _ (u9 _ hr.kn)
 have hst := hok.stay (w' := w2) (Gh.le.refl G) rfl (fun b hb => (hok.ab hb).2) (fun b hb => hlow b (hok.ab hb).1) (by omega)
 have hfl : ∀ b, ab G H w2 b → b < w.heap.size := fun b hb => (hok.ab ((hst.2 b).1 hb)).1
 obtain ⟨ge1, ge2, ge3⟩ := hr.su hH
 have hge2 : GE ⟨G, w2, ab G H w2, []⟩ := ⟨FU (fun k hk => hlow k (Nat.lt_of_lt_of_le hk ge2)) ge1, Nat.le_trans ge2 (by show w.heap.size ≤ w2.heap.size; omega), fun g hg hf => ge3 g hg ((hst.2 g).1 hf)⟩
 refine ⟨w.heap.size + 1, [{ target := .collected w.heap.size, args := #[] }], w2, { target := .fn (.func gf) vs, args := #[.func (.yield (w.heap.size + 1)) #[] #[]] }, w2, gf, #[.func (.yield (w.heap.size + 1)) #[] #[]] ++ vs, w2, ?_, ?_, fun _ _ => trivial, ?_, fun _ => by omega, ?_⟩
 ·rw [hw2]; exact run_enterLoop_outer _ _ _ _ _
 ·simp only [resolve, hav]
  simp [go_sem]
 ·simp only [invoke]; exact j5 hgf _ _
 ·refine callsIn_wide.2 ((hI G w2 vs (w.heap.size + 1) hge2 hk2 hst.1 ⟨hvl, hvv⟩ fun y hy => ?_).mono ?_)
  ·refine YS.Bm hr hbx htk hk2 hst.1 hl2 (fun e => by have := hfl _ e; omega) (Nat.le_trans ge2 (by show w.heap.size ≤ _; omega)) (hl y hy) hn hs (hR y hy)
  ·rintro e w3 ⟨⟨v, rfl⟩, G3, hx, hkn, hok3, hfr, hft⟩
   have hl3 : w3.heap[w.heap.size + 1]? = some (.loop { state := .ready, pending := none, fn := fid, tmps := a.tmps, params := ps.toArray, assign, body, defers := w.heap.size }) := (hfr.block _ (by omega) (fun e => by have := hfl _ e; omega)).trans hl2
   have hD3 : w3.heap[w.heap.size]? = some (.deferred (some [])) := (hfr.block _ (by omega) (fun e => by have := hfl _ e; omega)).trans hD2
   have hr3 : Rel E N G3 L a w3 ((.h, .hp H2) :: s) := by
    refine hr.called hH ⟨fun b o hb hm => hx.kn b o (by omega) (fun e => hm ((hst.2 b).1 e)), hx.ob, fun id b e => ?_⟩ hkn hok3 ⟨?_, ?_, ?_, by have := hfr.size; omega, fun k hk hno => (hfr.block k (by omega) (fun e => hno ((hst.2 k).1 e))).trans (hlow k hk)⟩ (fun b hb => ?_)
    ·rcases hx.obn id b e with e | e
     ·exact .inl e
     ·exact .inr (by omega)
    ·exact hfr.os.trans (by rw [hw2]; rfl)
    ·exact hfr.tape.trans (by rw [hw2]; rfl)
    ·exact hfr.output.trans (by rw [hw2]; rfl)
    ·rcases hft b hb with e | e
     ·exact .inl (by omega)
     ·exact .inr ((hst.2 b).1 e)
   have hnf3 : ∀ b, b = w.heap.size ∨ b = w.heap.size + 1 → ¬ ab G3 H2 w3 b := fun b hb e => by
    rcases hft b e with e | e
    ·omega
    ·have := hfl b e; omega
   have hgh : get ((aM.h, CV.hp H2) :: s) .h = some (.hp H2) := by simp [get]
   have hr4 := hr3.LX hgh (fun k => by simpa [get] using hbx k) (fun k => by simpa [get] using htk k) (o' := .loop { state := .exhausted, pending := none, fn := fid, tmps := a.tmps, params := ps.toArray, assign, body, defers := w.heap.size }) (ds := [{ target := .collected w.heap.size, args := #[] }] ++ a.defers) hl3 (by intro x y z e; cases e) (by show gN ≤ w.heap.size + 1; exact Nat.le_trans ge2 (by show w.heap.size ≤ _; omega)) (hnf3 _ (.inr rfl))
   refine ⟨none, _, run_endLoop (P := P) hl3 (by simp), ?_⟩
   show d.wpIn (FF none) 3 P _ _ _
   refine wpIn_mono (wpIn_wide.2 (hd _ _ _ ⟨G3, L, hr4⟩)) ?_
   rintro e a5 w5 ⟨s5, ⟨G5, L5, hr5⟩, he, hres, hH5⟩
   have hsz3 : w.heap.size + 1 < w3.heap.size := (Array.getElem?_eq_some_iff.1 hl3).1
   have hD5 : w5.heap[w.heap.size]? = some (.deferred (some [])) := (hr5.fr.block _ (by simpa using Nat.lt_of_succ_lt hsz3) (hnf3 _ (.inl rfl))).trans ((World.putObj_heap_other (by omega)).trans hD3)
   have hr6 := hr5.GP hH5 (o' := .deferred none) (ds := []) hD5 (by intro x y z e; cases e) ge2 (by simpa using Nat.lt_of_succ_lt hsz3) (hnf3 _ (.inl rfl))
   obtain ⟨v6, hv6, hV6⟩ := hres _ _ _ _ _ _ hr6
   obtain ⟨H6, g6, hok6, hmay6⟩ := hr6.heap
   rw [hH5] at g6; cases g6
   have hdf : a5.defers = [{ target := .collected w.heap.size, args := #[] }] := by rw [hr5.defs, hr.defs, hds]; rfl
   have hpost : LeavesInM (FF none) 3 P fn a5.tmps (o7 E r H') a5.defers .returning w5 := by
    rw [hdf]
    refine ⟨by simp, .inl ⟨w.heap.size, _, rfl, run_takeDeferred hD5, v6, hv6, v6, G5, rfl, hV6, ⟨fun b o hb hm => ?_, fun id b e => ?_, fun id b e => ?_⟩, hr6.kn, hok6, ⟨?_, ?_, ?_, ?_, fun k hk hno => ?_⟩, fun b hb => ?_⟩⟩
    ·have hnf : ¬ ab G3 H2 w3 b := fun e => by
      obtain ⟨_, g, _, hm3⟩ := hr3.heap
      rw [hgh] at g; cases g
      rcases hm3 b e with e | e
      ·exact absurd hb (Nat.not_lt.2 e)
      ·exact hm e
     exact (hr5.old b o (by have := hr3.fr.size; simp; omega) hnf).trans (hr3.old b o hb hm)
    ·exact ⟨(hr5.obs id b (hr3.obs id b e).1).1, (hr5.obs id b (hr3.obs id b e).1).2.trans (hr3.obs id b e).2⟩
    ·rcases hr5.obn id b e with ⟨i, e⟩ | e
     ·exact hr3.obn i b e
     ·exact .inr (by have := hr3.fr.size; simp at e; omega)
    ·exact hr5.fr.os.trans hr3.fr.os
    ·exact hr5.fr.tape.trans hr3.fr.tape
    ·exact hr5.fr.output.trans hr3.fr.output
    ·have h1 := hr5.fr.size; have h2 := hr3.fr.size; simp at h1 ⊢; omega
    ·have hsz := hr.fr.size
     have hnf : ¬ ab G3 H2 w3 k := fun e => by
      obtain ⟨_, g, _, hm3⟩ := hr3.heap
      rw [hgh] at g; cases g
      rcases hm3 k e with e | e
      ·exact absurd hk (Nat.not_lt.2 e)
      ·exact hno e
     rw [World.putObj_heap_other (by omega)]
     refine (hr5.fr.block k (by have := hr3.fr.size; simp; omega) hnf).trans ?_
     rw [World.putObj_heap_other (by omega)]
     exact hr3.fr.block k hk hno
    ·obtain ⟨_, g, _, hm3⟩ := hr3.heap
     rw [hgh] at g; cases g
     rcases hmay6 b hb with e | e
     ·exact .inl (by have := hr3.fr.size; simp at e; omega)
     ·exact hm3 b e
   rcases he with rfl | rfl
   ·exact hpost
   ·exact hpost
theorem cc.xr {P : Program} {f : FuncId} {fn : Func} {c : Code} {N : Nat} {args : List AV} {H : Hp} {r : AV} {H' : Hp} (hf : P.funcs[f]? = some fn) (hb : fn.body = some c) (hN : fn.ntmps = N) (hle : args.length ≤ N)
  (h : oJ P N fn c ((.h, .hp H) :: ep args 0) r H') : cc P f args H r H' := by
 intro G w cargs hg hk hH hV
 exact callsIn_wide.1 (callsIn_of_wp_marks (F := FF none) (n := 3) hf hb trivial (h ⟨G, w, ab G H w, []⟩ _ w (rb hN hle hg hk hH hV) rfl))
/- The program logic's rules: make([]T, n) as an object. No condition. -/
section
variable {P : Program} {N : Nat} {s : St} {d : Nat} {ty : TypeId} {pos : String} {af : Array Edge} {g : Option (Nat × Bool)}
theorem Hy {t1 el esz by_ : Nat} {x : Operand} {kl : IntKind} {c : Int} {zs : List AV} {H : Hp} (hN : d < N) (ht : se P t1 = some (el, esz, by_)) (hz : bf P el = some zs) (h1 : esz = 1) (hx : cu x s = some (.int kl c)) (h0 : 0 ≤ c) (hc : c.toNat * by_ ≤ 281474976710656) (hc2 : c.toNat ≤ maxLen) (hH : get s .h = some (.hp H)) (hd : get s (.b d) = none) :
  ae P N ⟨some d, .makeSlice t1 x x, ty, pos, af, g⟩ s (rd x ++ [.h, .b d]) [(.s d, .sv (.v (.os H.next c.toNat 1))), (.h, .hp (H.new ((List.replicate c.toNat zs).flatten.map .v))), (.b d, .gone)] := by
 intro t hR E G L a w hr K Q hK
 obtain ⟨i, z, hu, hi, hzz, hzs, hsz, hby, hpos⟩ := lR ht
 subst h1
 have hv := jw (aU hr hR.left hx)
 have hcc : c = (c.toNat : Int) := by omega
 unfold bf at hz
 rw [hi] at hz
 simp only [hzz] at hz
 obtain ⟨q1, q2⟩ := iM G hz
 have hzl : zs.length = 1 := by rw [← q1]; simpa using hzs
 obtain ⟨z0, rfl⟩ : ∃ z0, zs = [z0] := by
  match zs, hzl with
  | [z0], _ => exact ⟨z0, rfl⟩
 have hflat : (List.replicate c.toNat [z0]).flatten = List.replicate c.toNat z0 := by
  induction c.toNat with
  | zero => rfl
  | succ n ih => simp [List.replicate_succ, ih]
 have hrun := run_make (P := P) w t1 el i z hu hi hzz kl kl c c h0 (Int.le_refl _) (by
  have h : ((i.bytes * c.toNat : Nat) : Int) ≤ 281474976710656 := by rw [hby, Nat.mul_comm]; omega
  rw [Int.natCast_mul] at h; rwa [← hcc] at h) (by simp only [maxLen] at hc2; omega)
 rw [hsz, Nat.mul_one] at hrun
 have hsize : (madeCells z.cells c.toNat).size = c.toNat := by simp [size_madeCells, hzs]
 obtain ⟨G', L', hob, hsz', hr2⟩ := hr.sj (d := d) (w1 := w) ⟨rfl, rfl, rfl, Nat.le_refl _, fun _ _ _ => rfl⟩ rfl (show get t .h = some (.hp H) by rw [hR .h (by simp)]; exact hH) (show get t (.b d) = none by rw [hR (.b d) (by simp)]; exact hd) (arr := madeCells z.cells c.toNat) (el := el) (zs := (List.replicate c.toNat [z0]).flatten)
  (by rw [hflat, hsize]; simp) (fun j y e => by
   rw [hflat] at e
   have hj : j < c.toNat := by have := (List.getElem?_eq_some_iff.1 e).1; simpa using this
   simp only [List.getElem?_replicate, if_pos hj, Option.some.injEq] at e
   subst e
   obtain ⟨r1, r2⟩ := q2 0 z0 rfl
   refine ⟨r1, ?_⟩
   have hj2 : j < (madeCells z.cells c.toNat).size := by rw [hsize]; exact hj
   have hz0 : 0 < z.cells.size := by omega
   have e1 : (madeCells z.cells c.toNat)[j] = z.cells[0] := by
    simp only [madeCells, Array.getElem_map, Array.getElem_range, hzs, Nat.mod_one]
    exact getElem!_pos z.cells 0 hz0
   rw [Array.getD_eq_getD_getElem?, Array.getElem?_eq_getElem hj2, e1]
   rw [List.getD_eq_getElem?_getD, Array.getElem?_toList, Array.getElem?_eq_getElem hz0] at r2
   exact r2) (fun j h1 h2 => by rw [hflat] at h1; rw [hsize] at h2; simp at h1; omega)
 unfold Oper.wp
 have he : (execOp a.eval ⟨some d, .makeSlice t1 x x, ty, pos, af, g⟩).run P w = .ok (.value (.slice (some ⟨w.heap.size, 0, none⟩) c.toNat c.toNat)) (w.alloc (.cells (madeCells z.cells c.toNat) el)) := by
  simp only [execOp, Sem.run_bind, hv, hrun, Result.andThen_ok, Sem.run_pure]
 rw [he]
 exact hK _ _ G' L' (hr2.put d hN _ (.v (.os H.next c.toNat 1)) (V.os H.next _ _ _ _ hob (Nat.le_refl _) (by rw [hsz', hsize]; omega)))
end
theorem ar.blk {E : de} {ro : Option Nat} {P : Program} {N : Nat} {s : St} {Q : Exit → St → Prop} {id : Nat} {c : Code} (h : ar E ro P N c s fun e s' => match e with | .exit id' => bif Nat.beq id' id then Q .normal s' else Q (.exit id') s' | e => Q e s') : ar E ro P N (.block id c) s Q := by
 refine ar.block (h.mono ?_)
 intro e s' hq
 cases e with
 | exit id' =>
  by_cases hid : id' = id
  ·subst hid
   have hb : Nat.beq id' id' = true := Nat.beq_refl id'
   simp only [hb, cond_true] at hq
   simp only [if_true]
   exact hq
  ·have : Nat.beq id' id = false := by
    cases hb : Nat.beq id' id with
    | false => rfl
    | true => exact absurd (Nat.eq_of_beq_eq_true hb) hid
   simp only [this, cond_false] at hq
   simp only [hid, if_false]
   exact hq
 | _ => exact hq
theorem ar.aX {E : de} {ro : Option Nat} {P : Program} {N : Nat} {s : St} {Q : Exit → St → Prop} {c : Code} {α : Type} (upd : α → St) (rest : St) (I : α → Prop) (m : α → Nat) (a0 : α) (hs : s = upd a0 ++ rest) (h0 : I a0)
  (hb : ∀ a, I a → ar E ro P N c (upd a ++ rest) fun e s' => match e with | .normal => ∃ b, m b < m a ∧ I b ∧ s' = upd b ++ rest | e => Q e s') : ar E ro P N (.loop c) s Q := by
 refine ar.loop (fun n t => ∃ a, m a = n ∧ I a ∧ t = upd a ++ rest) ?_ (n := m a0) ⟨a0, rfl, h0, hs⟩
 rintro n t ⟨a, rfl, ha, rfl⟩
 refine (hb a ha).mono fun e s' h => ?_
 cases e with
 | normal => obtain ⟨b, h1, h2, h3⟩ := h; exact ⟨m b, h1, b, rfl, h2, h3⟩
 | _ => exact h
theorem bQ.gw {E : de} {ro : Option Nat} {P : Program} {N : Nat} {ops : Array Oper} {l : List Oper} {s : St} {Q : St → Prop} {o : Oper} {A : List (List Nat)} {acc : List (List aM × St)} {e d : Nat} {b b' : Bool} (hd : o.dst = some e) (hg : eV ops o = some (d, b)) (hN : d < N) (he : e < N) (hc : get s (.s d) = some (.sv (.v (.bool b')))) (hb : b' = !b) (h : bQ E ro P N ops A Q (acc ++ [([.s d], [(.s e, .sv (.v (.tup [])))])]) l ((.s e, .sv (.v (.tup []))) :: s)) (hn : sk o = true := by rfl) : bQ E ro P N ops A Q acc (o :: l) s :=
 bQ.cons (ka.of hn (bY.Ez hN he hd hg (hb ▸ hc))) h
/- frames: ports -/
theorem tC : aa Tryz.prog 30 = true := by kernel_rfl
theorem sP : se Tryz.prog 30 = some (102, 4, 40) := by kernel_rfl
theorem Gx : se Tryz.prog 49 = some (86, 1, 24) := by kernel_rfl
theorem xK : bf Tryz.prog 102 = some [AV.int IntKind.i64 (0), AV.int IntKind.i64 (0), AV.int IntKind.u64 (0), AV.str []] := by kernel_rfl
theorem D8 : bf Tryz.prog 86 = some [AV.sl []] := by kernel_rfl
theorem nr (l : List Port) (hl : l.length ≤ 1000000) : Pure Tryz.prog 30 [.sl (l.map Port.av)] (.sl (l.map Port.av)) := by
 refine Pure.aL Tryz.func30 rfl rfl (aF rfl) fun H => (aC.seq (aC.region (aB.run II 1 rfl (aB.nil (aC.seq (aC.seq (aC.region (aB.run II 1 rfl (aB.Cs (aF rfl) Tryz.underlying44 rfl (fun b hb => (aB.nil (aC.cond rfl (fun hc1 => ?_) (fun hc1 => ?_)))))))))))))
 ·exact aC.seq (aC.region (aB.run II 1 rfl (aB.nil (aC.ret ⟨.inr rfl, (aE.r1 rfl (.tmp rfl .nil)).cast (by rw [hb hc1]), rfl⟩))))
 ·refine aC.skip (aC.seq (aC.region (aB.c2 rfl (bF («as» := []) (aF rfl) dZ gS rfl rfl rfl (gI rfl) rfl) (aB.run II 1 rfl (aB.c3 rfl (aV (aF rfl) dZ rfl rfl rfl (bn Port.cells (fun _ => rfl) _) rfl (by rw [List.length_map]; simp only [List.length_nil]; omega) (by rw [List.length_map]; simp only [List.length_nil]; omega)) ?_)))))
  exact aB.run II 1 rfl (aB.nil (aC.ret ⟨.inr rfl, (aE.r1 rfl (.tmp rfl .nil)).cast (by rfl), rfl⟩))
theorem lT (l : List Rw) (hl : l.length ≤ 1000000) : Pure Tryz.prog 33 [.sl (l.map Rw.av)] (.sl (l.map Rw.av)) := by
 refine Pure.aL Tryz.func33 rfl rfl (aF rfl) fun H => (aC.seq (aC.region (aB.run II 1 rfl (aB.nil (aC.seq (aC.seq (aC.region (aB.run II 1 rfl (aB.Cs (aF rfl) Tryz.underlying30 rfl (fun b hb => (aB.nil (aC.cond rfl (fun hc1 => ?_) (fun hc1 => ?_)))))))))))))
 ·exact aC.seq (aC.region (aB.run II 1 rfl (aB.nil (aC.ret ⟨.inr rfl, (aE.r1 rfl (.tmp rfl .nil)).cast (by rw [hb hc1]), rfl⟩))))
 ·refine aC.skip (aC.seq (aC.region (aB.c2 rfl (bF («as» := []) (aF rfl) sP xK rfl rfl rfl (gI rfl) rfl) (aB.run II 1 rfl (aB.c3 rfl (aV (aF rfl) sP rfl rfl rfl (bn Rw.cells (fun _ => rfl) _) rfl (by rw [List.length_map]; simp only [List.length_nil]; omega) (by rw [List.length_map]; simp only [List.length_nil]; omega)) ?_)))))
  exact aB.run II 1 rfl (aB.nil (aC.ret ⟨.inr rfl, (aE.r1 rfl (.tmp rfl .nil)).cast (by rfl), rfl⟩))
def ak.side (q : ak) (bh : Bool) : List Port := if bh then q.outs else q.ins
theorem sN (q : ak) : q.side false = q.ins := rfl
theorem pP {ps : List ak} {k : Nat} {q : ak} (hq : ps[k]? = some q) : (ps.map ak.av)[((k : Nat) : Int).toNat]? = some (.agg q.cells) := by rw [Int.toNat_natCast, List.getElem?_map, hq]; rfl
theorem x9 (ps : List ak) (bh : Bool) (k : Nat) (q : ak) (hq : ps[k]? = some q) (hb : q.ins.length ≤ 1000000 ∧ q.outs.length ≤ 1000000) : Pure Tryz.prog 12 [cH ps, .bool bh, .int .i64 k] (.sl ((q.side bh).map Port.av)) := by
 have e0 : cH ps = .agg [.sl (ps.map ak.av)] := rfl
 refine Pure.aL Tryz.func12 rfl rfl (aF rfl) fun H => (aC.seq (aC.region (aB.run II 2 rfl (aB.nil (aC.seq (aC.seq (aC.region (aB.run II 1 rfl (aB.nil (aC.cond rfl (fun hc1 => ?_) (fun hc1 => ?_)))))))))))
 ·exact aC.seq (aC.region (aB.run II 3 rfl (aB.c1 rfl (aH (aF rfl) eN rfl rfl (Int.natCast_nonneg _) (pP hq) rfl) (aB.run II 2 rfl (aB.c1 rfl (aG (aF rfl) tC rfl (nr _ hb.2)) (aB.run II 1 rfl (aB.nil (aC.ret ⟨.inr rfl, (aE.r1 rfl (.tmp rfl .nil)).cast (by cases bh <;> first | rfl | cases hc1), rfl⟩))))))))
 ·exact aC.skip (aC.seq (aC.region (aB.run II 3 rfl (aB.c1 rfl (aH (aF rfl) eN rfl rfl (Int.natCast_nonneg _) (pP hq) rfl) (aB.run II 2 rfl (aB.c1 rfl (aG (aF rfl) tC rfl (nr _ hb.1)) (aB.run II 1 rfl (aB.nil (aC.ret ⟨.inr rfl, (aE.r1 rfl (.tmp rfl .nil)).cast (by cases bh <;> first | rfl | cases hc1), rfl⟩)))))))))
def dz (q : ak) (k : Nat) (bh : Bool) (H : Hp) : Hp := (H.new ((List.replicate q.aI.toNat [AV.sl []]).flatten.map .v)).new [.v (.int .i64 k), .v (.os H.next q.aI.toNat 1), .v (.sl []), .v (.bool !bh)]
theorem EW (ps : List ak) (bh : Bool) (k : Nat) (q : ak) (hq : ps[k]? = some q) (h0 : 0 ≤ q.aI) (h1 : q.aI ≤ 100000) (H : Hp) : cc Tryz.prog 10 [cH ps, .bool bh, .int .i64 k] H (.op (H.next + 1) 0) (dz q k bh H) := by
 have e0 : cH ps = .agg [.sl (ps.map ak.av)] := rfl
 refine cc.aL Tryz.func10 rfl rfl (aF rfl) (aC.seq (aC.region (aB.run II 2 rfl (aB.nil (aC.seq (aC.region (aB.run II 4 rfl (aB.c1 rfl (aH (aF rfl) eN rfl rfl (Int.natCast_nonneg _) (pP hq) rfl) (aB.run II 2 rfl (aB.c3 rfl (Hy (aF rfl) Gx D8 rfl rfl h0 (by omega) (by simp only [maxLen]; omega) rfl rfl) ?_))))))))))
 exact aB.run II 5 rfl (aB.kept (Kept.qi 18 rfl rfl (Kept.op 6 rfl rfl (Kept.cls 18 rfl rfl rfl rfl (Kept.now (aC.ret ⟨.inr rfl, (aE.r1 rfl (.tmp rfl .nil)).cast rfl, rfl⟩))))))
/- frames: what is in registers; its size -/
theorem Cm : aa Tryz.prog 13 = true := by kernel_rfl
theorem ld : ie Tryz.prog 49 = some 1 := by kernel_rfl
theorem w8 : ie Tryz.prog 86 = some 3 := by kernel_rfl
theorem kO : lk Tryz.prog 49 = some (false, 1) := by kernel_rfl
theorem l7 : lk Tryz.prog 86 = some (false, 1) := by kernel_rfl
theorem nB : Tryz.prog.underlying 42 = some (.pointer (Tryz.prog.pointee 42)) := by kernel_rfl
mutual
inductive Fm where
 | mk (r part : Nat) (aI : List (List cA)) (rest : List Rw) (done : Bool)
inductive cA where
 | mk (n : Nat) (s : aw) (f : Option Fm)
end
def Fm.r : Fm → Nat | .mk r _ _ _ _ => r
def Fm.part : Fm → Nat | .mk _ p _ _ _ => p
def Fm.aI : Fm → List (List cA) | .mk _ _ g _ _ => g
def Fm.rest : Fm → List Rw | .mk _ _ _ x _ => x
def Fm.done : Fm → Bool | .mk _ _ _ _ d => d
def cA.n : cA → Nat | .mk n _ _ => n
def cA.s : cA → aw | .mk _ s _ => s
def cA.f : cA → Option Fm | .mk _ _ f => f
def Fm.ptr (f : Fm) : AV := .op (f.r + 1) 0
def E2 : Option Fm → AV | none => .nilp | some f => f.ptr
def cA.cells (c : cA) : List AV := [.int .u64 (c.n : Int), .str c.s, E2 c.f]
def cA.av (c : cA) : AV := .agg c.cells
def iJ (l : List cA) : AV := .sl (l.map cA.av)
def Fm.uY (f : Fm) : List Hc := [.v (.int .i64 (f.part : Int)), .v (.os f.r f.aI.length 1), .v (.sl (f.rest.map Rw.av)), .v (.bool f.done)]
def dT (g : List (List cA)) : List Hc := g.map fun l => .v (iJ l)
inductive Fm.At (H : Hp) : Fm → Prop where
 | mk (f : Fm) (h1 : H.obj (f.r + 1) = some f.uY) (h2 : H.obj f.r = some (dT f.aI)) (hb : f.aI.length ≤ 9000000000000000000 ∧ ∀ l ∈ f.aI, l.length ≤ 9000000000000000000) (h3 : ∀ l ∈ f.aI, ∀ c ∈ l, ∀ g, c.f = some g → Fm.At H g) : Fm.At H f
theorem Fm.At.o1 {H : Hp} {f : Fm} (h : f.At H) : H.obj (f.r + 1) = some f.uY := by cases h; assumption
theorem Fm.At.o2 {H : Hp} {f : Fm} (h : f.At H) : H.obj f.r = some (dT f.aI) := by cases h; assumption
theorem Fm.At.dW {H : Hp} {f : Fm} (h : f.At H) : f.aI.length ≤ 9000000000000000000 ∧ ∀ l ∈ f.aI, l.length ≤ 9000000000000000000 := by cases h; assumption
theorem Fm.At.o3 {H : Hp} {f : Fm} (h : f.At H) : ∀ l ∈ f.aI, ∀ c ∈ l, ∀ g, c.f = some g → g.At H := by cases h; assumption
mutual
def Fm.ms : Fm → Nat
 | .mk _ _ g _ _ => 1 + cM g
def cM : List (List cA) → Nat
 | [] => 0
 | l :: g => cT l + cM g
def cT : List cA → Nat
 | [] => 0
 | c :: l => cA.ms c + cT l
def cA.ms : cA → Nat
 | .mk _ _ none => 0
 | .mk _ _ (some f) => f.ms
end
mutual
def Fm.vs : Fm → Nat
 | .mk _ _ g _ _ => cL g
def cL : List (List cA) → Nat
 | [] => 0
 | l :: g => l.length + cS l + cL g
def cS : List cA → Nat
 | [] => 0
 | c :: l => cA.vs c + cS l
def cA.vs : cA → Nat
 | .mk _ _ none => 0
 | .mk _ _ (some f) => f.vs
end
def Kb : Option Fm → Nat | none => 0 | some f => f.ms
def KY : Option Fm → Nat | none => 0 | some f => f.vs
theorem cA.gM (c : cA) : c.ms = Kb c.f := by cases c with | mk n s f => cases f <;> simp [cA.ms, Kb, cA.f]
theorem cA.gL (c : cA) : c.vs = KY c.f := by cases c with | mk n s f => cases f <;> simp [cA.vs, KY, cA.f]
theorem Fm.gM (f : Fm) : f.ms = 1 + cM f.aI := by cases f; rw [Fm.ms]; rfl
theorem Fm.gL (f : Fm) : f.vs = cL f.aI := by cases f; rw [Fm.vs]; rfl
theorem pH : ∀ (a b : List (List cA)), cM (a ++ b) = cM a + cM b
 | [], b => by rw [cM]; simp
 | x :: a, b => by rw [List.cons_append, cM, cM, pH a b]; omega
theorem pE : ∀ (a b : List (List cA)), cL (a ++ b) = cL a + cL b
 | [], b => by rw [cL]; simp
 | x :: a, b => by rw [List.cons_append, cL, cL, pE a b]; omega
theorem qX : ∀ (a b : List cA), cT (a ++ b) = cT a + cT b
 | [], b => by rw [cT]; simp
 | x :: a, b => by rw [List.cons_append, cT, cT, qX a b]; omega
theorem qW : ∀ (a b : List cA), cS (a ++ b) = cS a + cS b
 | [], b => by rw [cS]; simp
 | x :: a, b => by rw [List.cons_append, cS, cS, qW a b]; omega
theorem cq {α : Type} {l : List α} {i : Nat} (hi : i < l.length) : l.take (i + 1) = l.take i ++ [l[i]] := by
 rw [List.take_add_one, List.getElem?_eq_getElem hi]; rfl
theorem tr {g : List (List cA)} {i : Nat} (hi : i < g.length) : cM (g.take (i + 1)) = cM (g.take i) + cT g[i] := by rw [cq hi, pH, cM, cM]; rfl
theorem tq {g : List (List cA)} {i : Nat} (hi : i < g.length) : cL (g.take (i + 1)) = cL (g.take i) + (g[i].length + cS g[i]) := by rw [cq hi, pE, cL, cL]; rfl
theorem uu {g : List cA} {i : Nat} (hi : i < g.length) : cT (g.take (i + 1)) = cT (g.take i) + Kb g[i].f := by rw [cq hi, qX, cT, cT, cA.gM]; rfl
theorem ur {g : List cA} {i : Nat} (hi : i < g.length) : cS (g.take (i + 1)) = cS (g.take i) + KY g[i].f := by rw [cq hi, qW, cS, cS, cA.gL]; rfl
theorem xQ (a k : Int) : dI (a + k * 18446744073709551616) = dI a := by
 show IntKind.i64.wrap _ = IntKind.i64.wrap _
 simp only [IntKind.wrap, IntKind.bits, IntKind.signed, Bool.true_and, decide_eq_true_eq, Int.reducePow, Nat.reduceSub, Int.add_mul_emod_self_right]
 by_cases h : a % 18446744073709551616 ≥ 9223372036854775808 <;> simp [h]
theorem oc (a : Int) : ∃ k, dI a = a + k * 18446744073709551616 := by
 show ∃ k, IntKind.i64.wrap a = _
 simp only [IntKind.wrap, IntKind.bits, IntKind.signed, Bool.true_and, decide_eq_true_eq, Int.reducePow, Nat.reduceSub]
 split
 ·exact ⟨-(a / 18446744073709551616) - 1, by omega⟩
 ·exact ⟨-(a / 18446744073709551616), by omega⟩
theorem De (a b : Int) : dI (dI a + dI b) = dI (a + b) := by
 obtain ⟨k, hk⟩ := oc a
 obtain ⟨j, hj⟩ := oc b
 rw [hk, hj, show a + k * 18446744073709551616 + (b + j * 18446744073709551616) = a + b + (k + j) * 18446744073709551616 by omega, xQ]
theorem J3 (a b : Int) : dI (dI a + b) = dI (a + b) := by
 obtain ⟨k, hk⟩ := oc a
 rw [hk, show a + k * 18446744073709551616 + b = a + b + k * 18446744073709551616 by omega, xQ]
theorem x7 {g : List (List cA)} {i : Nat} (hi : i < g.length) : vQ false 1 (((dT g).map fun c => Sv.v (qn c)).drop (((i : Nat) : Int).toNat * 1)) = some (.v (iJ g[i])) := by
 show (List.drop _ _)[0]? = _
 rw [List.getElem?_drop, Int.toNat_natCast, Nat.mul_one, Nat.add_zero, List.getElem?_map]
 unfold dT
 rw [List.getElem?_map, List.getElem?_eq_getElem hi]; rfl
def oz (f : Option Fm) : AV := .tup [.int .i64 (dI (Kb f : Int)), .int .i64 (dI (KY f : Int))]
theorem Ee (f : Fm) (H : Hp) (hA : f.At H) (hsub : ∀ l ∈ f.aI, ∀ c ∈ l, cc Tryz.prog 13 [E2 c.f] H (oz c.f) H) : cc Tryz.prog 13 [f.ptr] H (oz (some f)) H := by
 have hb1 := hA.dW.1
 have hb2 := fun (i : Nat) (hi : i < f.aI.length) => hA.dW.2 _ (List.getElem_mem hi)
 refine cc.aL Tryz.func13 rfl rfl (aF rfl) (aC.seq (aC.region (aB.run II 2 rfl (aB.nil (aC.seq (aC.seq (aC.region (aB.run II 1 rfl (aB.c1 rfl (Be (aF rfl) nB rfl rfl) (aB.nil (aC.aZ rfl rfl (aC.skip (aC.seq (aC.region (aB.run II 2 rfl (aB.nil (aC.seq (aC.seq (aC.region (aB.run II 3 rfl ?_))))))))))))))))))))
 refine aB.c1 rfl (bR (aF rfl) kO rfl rfl hA.o1 rfl) (aB.run II 2 rfl (aB.nil (aC.blk (aC.aK (Kept.aJ [.s 19, .s 4, .s 5, .h, .s 17, .s 18] rfl (by decide) (Kept.now (aC.aX (fun ((i, m, v) : Nat × Int × Int) => [(.s 19, .sv (.v (.int .i64 (i : Int)))), (.s 4, .sv (.v (.int .i64 m))), (.s 5, .sv (.v (.int .i64 v)))]) _ (fun ((i, m, v) : Nat × Int × Int) => m = dI (1 + cM (f.aI.take i)) ∧ v = dI (cL (f.aI.take i))) (fun ((i, m, v) : Nat × Int × Int) => f.aI.length - i) (0, 1, 0) rfl ⟨(by rw [List.take_zero, cM]; rfl), (by rw [List.take_zero, cL]; rfl)⟩ ?_)))))))
 rintro ⟨i, m, v⟩ hI
 refine aC.seq (aC.region (aB.run II 1 rfl (aB.nil (aC.seq (aC.cond rfl (fun hc1 => ?_) (fun hc1 => ?_))))))
 ·have hi := Jy hc1
  refine aC.skip (aC.seq (aC.blk (aC.seq (aC.region (aB.c1 rfl (bV (aF rfl) ld rfl rfl (Int.natCast_nonneg _) (by omega)) (aB.c1 rfl (bR (aF rfl) l7 rfl rfl hA.o2 (x7 hi)) (aB.run II 1 rfl (aB.nil (aC.seq (aC.region (aB.run II 5 rfl (aB.nil (aC.seq (aC.region (aB.run II 3 rfl (aB.nil (aC.blk (aC.aK (Kept.aJ [.s 29, .s 4, .s 5, .h, .s 17, .s 18, .s 19, .s 27, .s 28] rfl (by decide) (Kept.now (aC.aX (fun ((k, m, v) : Nat × Int × Int) => [(.s 29, .sv (.v (.int .i64 (k : Int)))), (.s 4, .sv (.v (.int .i64 m))), (.s 5, .sv (.v (.int .i64 v)))]) _ (fun ((k, m, v) : Nat × Int × Int) => m = dI (1 + cM (f.aI.take i) + cT ((f.aI[i]'hi).take k)) ∧ v = dI (cL (f.aI.take i) + (f.aI[i]'hi).length + cS ((f.aI[i]'hi).take k))) (fun ((k, m, v) : Nat × Int × Int) => (f.aI[i]'hi).length - k) (0, m, _) rfl ⟨hI.1.trans (by simp [cT]), (by rw [hI.2, List.length_map]; exact (J3 _ _).trans (by simp [cS]))⟩ ?_)))))))))))))))))))))
  rintro ⟨k, m, v⟩ hK
  dsimp only at hI hK
  have hb3 := hb2 i hi
  refine aC.seq (aC.region (aB.run II 1 rfl (aB.nil (aC.seq (aC.cond rfl (fun hc2 => ?_) (fun hc2 => ?_))))))
  ·have hk := dD hc2
   refine aC.skip (aC.seq (aC.blk (aC.seq (aC.region (aB.c1 rfl (aH (aF rfl) w8 rfl rfl (Int.natCast_nonneg _) (cF hk) rfl) (aB.run II 3 rfl (aB.nil (aC.seq (aC.region (aB.run II 2 rfl (aB.c1 rfl (dJ (aF rfl) Cm rfl rfl (hsub _ (List.getElem_mem hi) _ (List.getElem_mem hk))) (aB.run II 5 rfl (aB.nil (aC.seq (aC.region (aB.run II 4 rfl (aB.nil (aC.region (aB.run II 4 rfl (aB.nil (aC.region ?_)))))))))))))))))))))
   exact aB.run II 2 rfl (aB.kept (Kept.aY 29 rfl (inc (by omega)) (Kept.aJ [.s 29, .s 4, .s 5, .h, .s 17, .s 18, .s 19, .s 27, .s 28] rfl (by decide) (Kept.now (⟨(k + 1, _, _), by dsimp only; omega, ⟨(by rw [hK.1, uu hk]; exact (De _ _).trans (congrArg dI (by omega))), (by rw [hK.2, ur hk]; exact (De _ _).trans (congrArg dI (by omega)))⟩, rfl⟩)))))
  ·have hk := dE hc2
   exact aC.exit (aC.region (aB.run II 2 rfl (aB.kept (Kept.aY 19 rfl (inc (by omega)) (Kept.aJ [.s 19, .s 4, .s 5, .h, .s 17, .s 18] rfl (by decide) (Kept.now (⟨(i + 1, _, _), by dsimp only; omega, ⟨(by rw [hK.1, tr hi, List.take_of_length_le hk]; exact congrArg dI (by omega)), (by rw [hK.2, tq hi, List.take_of_length_le hk]; exact congrArg dI (by omega))⟩, rfl⟩)))))))
 ·have hi := CT hc1
  exact aC.exit (aC.seq (aC.region (aB.run II 4 rfl (aB.nil (aC.ret ⟨.inr rfl, (aE.r2 rfl (.tmp rfl (.tmp rfl .nil))).cast (by dsimp only at hI; rw [hI.1, hI.2, List.take_of_length_le hi]; show _ = AV.tup [.int .i64 (dI (f.ms : Int)), .int .i64 (dI (f.vs : Int))]; rw [Fm.gM, Fm.gL]; simp), rfl⟩)))))
theorem xh (H : Hp) : cc Tryz.prog 13 [.nilp] H (oz none) H := by
 exact cc.aL Tryz.func13 rfl rfl (aF rfl) (aC.seq (aC.region (aB.run II 2 rfl (aB.nil (aC.seq (aC.seq (aC.region (aB.run II 1 rfl (aB.c1 rfl (Be (aF rfl) nB rfl rfl) (aB.nil (aC.az rfl rfl (aC.seq (aC.region (aB.run II 2 rfl (aB.nil (aC.ret ⟨.inr rfl, (aE.r2 rfl (.tmp rfl (.tmp rfl .nil))).cast (by rfl), rfl⟩))))))))))))))))
theorem Hh (H : Hp) : ∀ (f : Option Fm), (∀ g, f = some g → g.At H) → cc Tryz.prog 13 [E2 f] H (oz f) H
 | none, _ => xh H
 | some f, h => by
  have h1 := h f rfl
  induction h1 with
  | mk f h1 h2 hb h3 ih =>
   refine Ee f H (.mk f h1 h2 hb h3) fun l hl c hc => ?_
   cases e : c.f with
   | none => exact xh H
   | some g => exact ih l hl c hc g e (fun g' e' => by cases e'; exact h3 l hl c hc g e)
/- ports sorted -/
theorem Iv : aa Tryz.prog 54 = true := by kernel_rfl
theorem C1 : aa Tryz.prog 97 = true := by kernel_rfl
def uo (a b : Int) : Int := if a < b then -1 else if a > b then 1 else 0
theorem GS (a : Int) : Pure Tryz.prog 97 [.int .i64 a] (.bool false) := by
 exact Pure.aL Tryz.func97 rfl rfl (aF rfl) fun H => (aC.seq (aC.region (aB.run II 1 rfl (aB.nil (aC.seq (aC.region (aB.run II 4 rfl (aB.nil (aC.ret ⟨.inr rfl, (aE.r1 rfl (.tmp rfl .nil)).cast (by simp), rfl⟩)))))))))
theorem HV (a b : Int) : Pure Tryz.prog 54 [.int .i64 a, .int .i64 b] (.int .i64 (uo a b)) := by
 refine Pure.aL Tryz.func54 rfl rfl (aF rfl) fun H => (aC.seq (aC.region (aB.run II 1 rfl (aB.nil (aC.seq (aC.region (aB.run II 1 rfl (aB.c1 rfl (aG (aF rfl) C1 rfl (GS _)) (aB.run II 1 rfl (aB.nil (aC.seq (aC.region (aB.run II 1 rfl (aB.c1 rfl (aG (aF rfl) C1 rfl (GS _)) (aB.run II 1 rfl (aB.nil (aC.seq (aC.seq (aC.region ?_)))))))))))))))))))
 refine aB.run II 1 rfl (aB.nil (aC.aZ rfl rfl (aC.skip (aC.seq (aC.seq (aC.region (aB.run II 1 rfl (aB.nil (aC.aZ rfl rfl (aC.skip (aC.seq (aC.seq (aC.region (aB.run II 3 rfl (aB.nil (aC.cond rfl (fun hc1 => ?_) (fun hc1 => ?_)))))))))))))))))
 ·exact aC.seq (aC.region (aB.run II 1 rfl (aB.nil (aC.ret ⟨.inr rfl, (aE.r1 rfl (.tmp rfl .nil)).cast (by have := of_decide_eq_true hc1; unfold uo; rw [if_pos this]), rfl⟩))))
 ·refine aC.skip (aC.seq (aC.seq (aC.region (aB.run II 3 rfl (aB.nil (aC.cond rfl (fun hc2 => ?_) (fun hc2 => ?_)))))))
  ·exact aC.seq (aC.region (aB.run II 1 rfl (aB.nil (aC.ret ⟨.inr rfl, (aE.r1 rfl (.tmp rfl .nil)).cast (by have h1 := of_decide_eq_false hc1; have h2 := of_decide_eq_true hc2; unfold uo; rw [if_neg h1, if_pos h2]), rfl⟩))))
  ·exact aC.skip (aC.seq (aC.region (aB.run II 1 rfl (aB.nil (aC.ret ⟨.inr rfl, (aE.r1 rfl (.tmp rfl .nil)).cast (by have h1 := of_decide_eq_false hc1; have h2 := of_decide_eq_false hc2; unfold uo; rw [if_neg h1, if_neg h2]), rfl⟩)))))
theorem HU (x y : Port) : Pure Tryz.prog 53 [x.av, y.av] (.int .i64 (uo x.f.num y.f.num)) := by
 exact Pure.aL Tryz.func53 rfl rfl (aF rfl) fun H => (aC.seq (aC.region (aB.run II 3 rfl (aB.nil (aC.seq (aC.region (aB.run II 6 rfl (aB.c1 rfl (aG (aF rfl) Iv rfl (HV _ _)) (aB.run II 1 rfl (aB.nil (aC.ret ⟨.inr rfl, (aE.r1 rfl (.tmp rfl .nil)).cast rfl, rfl⟩)))))))))))
theorem zX : Pure Tryz.prog 149 [.int .u64 0] (.int .i64 0) := by
 refine Pure.aL Tryz.func149 rfl rfl (aF rfl) fun H => (aC.seq (aC.region (aB.run II 1 rfl (aB.nil (aC.seq (aC.seq (aC.region (aB.run II 2 rfl (aB.nil (aC.aZ rfl rfl (aC.skip (aC.seq (aC.seq (aC.region (aB.run II 2 rfl (aB.nil (aC.aZ rfl rfl (aC.skip (aC.seq (aC.seq (aC.region ?_)))))))))))))))))))))
 exact aB.run II 2 rfl (aB.nil (aC.aZ rfl rfl (aC.skip (aC.seq (aC.region (aB.run II 3 rfl (aB.c1 rfl (da (aF rfl) eH rfl rfl (by decide) rfl) (aB.run II 3 rfl (aB.nil (aC.ret ⟨.inr rfl, (aE.r1 rfl (.tmp rfl .nil)).cast rfl, rfl⟩))))))))))
theorem zW : Pure Tryz.prog 149 [.int .u64 1] (.int .i64 1) := by
 refine Pure.aL Tryz.func149 rfl rfl (aF rfl) fun H => (aC.seq (aC.region (aB.run II 1 rfl (aB.nil (aC.seq (aC.seq (aC.region (aB.run II 2 rfl (aB.nil (aC.aZ rfl rfl (aC.skip (aC.seq (aC.seq (aC.region (aB.run II 2 rfl (aB.nil (aC.aZ rfl rfl (aC.skip (aC.seq (aC.seq (aC.region ?_)))))))))))))))))))))
 exact aB.run II 2 rfl (aB.nil (aC.aZ rfl rfl (aC.skip (aC.seq (aC.region (aB.run II 3 rfl (aB.c1 rfl (da (aF rfl) eH rfl rfl (by decide) rfl) (aB.run II 3 rfl (aB.nil (aC.ret ⟨.inr rfl, (aE.r1 rfl (.tmp rfl .nil)).cast rfl, rfl⟩))))))))))
theorem zV : Pure Tryz.prog 149 [.int .u64 2] (.int .i64 2) := by
 refine Pure.aL Tryz.func149 rfl rfl (aF rfl) fun H => (aC.seq (aC.region (aB.run II 1 rfl (aB.nil (aC.seq (aC.seq (aC.region (aB.run II 2 rfl (aB.nil (aC.aZ rfl rfl (aC.skip (aC.seq (aC.seq (aC.region (aB.run II 2 rfl (aB.nil (aC.aZ rfl rfl (aC.skip (aC.seq (aC.seq (aC.region ?_)))))))))))))))))))))
 exact aB.run II 2 rfl (aB.nil (aC.aZ rfl rfl (aC.skip (aC.seq (aC.region (aB.run II 3 rfl (aB.c1 rfl (da (aF rfl) eH rfl rfl (by decide) rfl) (aB.run II 3 rfl (aB.nil (aC.ret ⟨.inr rfl, (aE.r1 rfl (.tmp rfl .nil)).cast rfl, rfl⟩))))))))))
theorem zU : Pure Tryz.prog 149 [.int .u64 3] (.int .i64 2) := by
 refine Pure.aL Tryz.func149 rfl rfl (aF rfl) fun H => (aC.seq (aC.region (aB.run II 1 rfl (aB.nil (aC.seq (aC.seq (aC.region (aB.run II 2 rfl (aB.nil (aC.aZ rfl rfl (aC.skip (aC.seq (aC.seq (aC.region (aB.run II 2 rfl (aB.nil (aC.aZ rfl rfl (aC.skip (aC.seq (aC.seq (aC.region ?_)))))))))))))))))))))
 exact aB.run II 2 rfl (aB.nil (aC.aZ rfl rfl (aC.skip (aC.seq (aC.region (aB.run II 3 rfl (aB.c1 rfl (da (aF rfl) eH rfl rfl (by decide) rfl) (aB.run II 3 rfl (aB.nil (aC.ret ⟨.inr rfl, (aE.r1 rfl (.tmp rfl .nil)).cast rfl, rfl⟩))))))))))
theorem zT : Pure Tryz.prog 149 [.int .u64 4] (.int .i64 3) := by
 refine Pure.aL Tryz.func149 rfl rfl (aF rfl) fun H => (aC.seq (aC.region (aB.run II 1 rfl (aB.nil (aC.seq (aC.seq (aC.region (aB.run II 2 rfl (aB.nil (aC.aZ rfl rfl (aC.skip (aC.seq (aC.seq (aC.region (aB.run II 2 rfl (aB.nil (aC.aZ rfl rfl (aC.skip (aC.seq (aC.seq (aC.region ?_)))))))))))))))))))))
 exact aB.run II 2 rfl (aB.nil (aC.aZ rfl rfl (aC.skip (aC.seq (aC.region (aB.run II 3 rfl (aB.c1 rfl (da (aF rfl) eH rfl rfl (by decide) rfl) (aB.run II 3 rfl (aB.nil (aC.ret ⟨.inr rfl, (aE.r1 rfl (.tmp rfl .nil)).cast rfl, rfl⟩))))))))))
theorem zS : Pure Tryz.prog 149 [.int .u64 5] (.int .i64 3) := by
 refine Pure.aL Tryz.func149 rfl rfl (aF rfl) fun H => (aC.seq (aC.region (aB.run II 1 rfl (aB.nil (aC.seq (aC.seq (aC.region (aB.run II 2 rfl (aB.nil (aC.aZ rfl rfl (aC.skip (aC.seq (aC.seq (aC.region (aB.run II 2 rfl (aB.nil (aC.aZ rfl rfl (aC.skip (aC.seq (aC.seq (aC.region ?_)))))))))))))))))))))
 exact aB.run II 2 rfl (aB.nil (aC.aZ rfl rfl (aC.skip (aC.seq (aC.region (aB.run II 3 rfl (aB.c1 rfl (da (aF rfl) eH rfl rfl (by decide) rfl) (aB.run II 3 rfl (aB.nil (aC.ret ⟨.inr rfl, (aE.r1 rfl (.tmp rfl .nil)).cast rfl, rfl⟩))))))))))
theorem zR : Pure Tryz.prog 149 [.int .u64 6] (.int .i64 3) := by
 refine Pure.aL Tryz.func149 rfl rfl (aF rfl) fun H => (aC.seq (aC.region (aB.run II 1 rfl (aB.nil (aC.seq (aC.seq (aC.region (aB.run II 2 rfl (aB.nil (aC.aZ rfl rfl (aC.skip (aC.seq (aC.seq (aC.region (aB.run II 2 rfl (aB.nil (aC.aZ rfl rfl (aC.skip (aC.seq (aC.seq (aC.region ?_)))))))))))))))))))))
 exact aB.run II 2 rfl (aB.nil (aC.aZ rfl rfl (aC.skip (aC.seq (aC.region (aB.run II 3 rfl (aB.c1 rfl (da (aF rfl) eH rfl rfl (by decide) rfl) (aB.run II 3 rfl (aB.nil (aC.ret ⟨.inr rfl, (aE.r1 rfl (.tmp rfl .nil)).cast rfl, rfl⟩))))))))))
theorem zQ : Pure Tryz.prog 149 [.int .u64 7] (.int .i64 3) := by
 refine Pure.aL Tryz.func149 rfl rfl (aF rfl) fun H => (aC.seq (aC.region (aB.run II 1 rfl (aB.nil (aC.seq (aC.seq (aC.region (aB.run II 2 rfl (aB.nil (aC.aZ rfl rfl (aC.skip (aC.seq (aC.seq (aC.region (aB.run II 2 rfl (aB.nil (aC.aZ rfl rfl (aC.skip (aC.seq (aC.seq (aC.region ?_)))))))))))))))))))))
 exact aB.run II 2 rfl (aB.nil (aC.aZ rfl rfl (aC.skip (aC.seq (aC.region (aB.run II 3 rfl (aB.c1 rfl (da (aF rfl) eH rfl rfl (by decide) rfl) (aB.run II 3 rfl (aB.nil (aC.ret ⟨.inr rfl, (aE.r1 rfl (.tmp rfl .nil)).cast rfl, rfl⟩))))))))))
theorem zP : Pure Tryz.prog 149 [.int .u64 8] (.int .i64 4) := by
 refine Pure.aL Tryz.func149 rfl rfl (aF rfl) fun H => (aC.seq (aC.region (aB.run II 1 rfl (aB.nil (aC.seq (aC.seq (aC.region (aB.run II 2 rfl (aB.nil (aC.aZ rfl rfl (aC.skip (aC.seq (aC.seq (aC.region (aB.run II 2 rfl (aB.nil (aC.aZ rfl rfl (aC.skip (aC.seq (aC.seq (aC.region ?_)))))))))))))))))))))
 exact aB.run II 2 rfl (aB.nil (aC.aZ rfl rfl (aC.skip (aC.seq (aC.region (aB.run II 3 rfl (aB.c1 rfl (da (aF rfl) eH rfl rfl (by decide) rfl) (aB.run II 3 rfl (aB.nil (aC.ret ⟨.inr rfl, (aE.r1 rfl (.tmp rfl .nil)).cast rfl, rfl⟩))))))))))
theorem zO : Pure Tryz.prog 149 [.int .u64 9] (.int .i64 4) := by
 refine Pure.aL Tryz.func149 rfl rfl (aF rfl) fun H => (aC.seq (aC.region (aB.run II 1 rfl (aB.nil (aC.seq (aC.seq (aC.region (aB.run II 2 rfl (aB.nil (aC.aZ rfl rfl (aC.skip (aC.seq (aC.seq (aC.region (aB.run II 2 rfl (aB.nil (aC.aZ rfl rfl (aC.skip (aC.seq (aC.seq (aC.region ?_)))))))))))))))))))))
 exact aB.run II 2 rfl (aB.nil (aC.aZ rfl rfl (aC.skip (aC.seq (aC.region (aB.run II 3 rfl (aB.c1 rfl (da (aF rfl) eH rfl rfl (by decide) rfl) (aB.run II 3 rfl (aB.nil (aC.ret ⟨.inr rfl, (aE.r1 rfl (.tmp rfl .nil)).cast rfl, rfl⟩))))))))))
theorem vz : Pure Tryz.prog 149 [.int .u64 10] (.int .i64 4) := by
 refine Pure.aL Tryz.func149 rfl rfl (aF rfl) fun H => (aC.seq (aC.region (aB.run II 1 rfl (aB.nil (aC.seq (aC.seq (aC.region (aB.run II 2 rfl (aB.nil (aC.aZ rfl rfl (aC.skip (aC.seq (aC.seq (aC.region (aB.run II 2 rfl (aB.nil (aC.aZ rfl rfl (aC.skip (aC.seq (aC.seq (aC.region ?_)))))))))))))))))))))
 exact aB.run II 2 rfl (aB.nil (aC.aZ rfl rfl (aC.skip (aC.seq (aC.region (aB.run II 3 rfl (aB.c1 rfl (da (aF rfl) eH rfl rfl (by decide) rfl) (aB.run II 3 rfl (aB.nil (aC.ret ⟨.inr rfl, (aE.r1 rfl (.tmp rfl .nil)).cast rfl, rfl⟩))))))))))
theorem vy : Pure Tryz.prog 149 [.int .u64 11] (.int .i64 4) := by
 refine Pure.aL Tryz.func149 rfl rfl (aF rfl) fun H => (aC.seq (aC.region (aB.run II 1 rfl (aB.nil (aC.seq (aC.seq (aC.region (aB.run II 2 rfl (aB.nil (aC.aZ rfl rfl (aC.skip (aC.seq (aC.seq (aC.region (aB.run II 2 rfl (aB.nil (aC.aZ rfl rfl (aC.skip (aC.seq (aC.seq (aC.region ?_)))))))))))))))))))))
 exact aB.run II 2 rfl (aB.nil (aC.aZ rfl rfl (aC.skip (aC.seq (aC.region (aB.run II 3 rfl (aB.c1 rfl (da (aF rfl) eH rfl rfl (by decide) rfl) (aB.run II 3 rfl (aB.nil (aC.ret ⟨.inr rfl, (aE.r1 rfl (.tmp rfl .nil)).cast rfl, rfl⟩))))))))))
theorem vx : Pure Tryz.prog 149 [.int .u64 12] (.int .i64 4) := by
 refine Pure.aL Tryz.func149 rfl rfl (aF rfl) fun H => (aC.seq (aC.region (aB.run II 1 rfl (aB.nil (aC.seq (aC.seq (aC.region (aB.run II 2 rfl (aB.nil (aC.aZ rfl rfl (aC.skip (aC.seq (aC.seq (aC.region (aB.run II 2 rfl (aB.nil (aC.aZ rfl rfl (aC.skip (aC.seq (aC.seq (aC.region ?_)))))))))))))))))))))
 exact aB.run II 2 rfl (aB.nil (aC.aZ rfl rfl (aC.skip (aC.seq (aC.region (aB.run II 3 rfl (aB.c1 rfl (da (aF rfl) eH rfl rfl (by decide) rfl) (aB.run II 3 rfl (aB.nil (aC.ret ⟨.inr rfl, (aE.r1 rfl (.tmp rfl .nil)).cast rfl, rfl⟩))))))))))
def IW (n : Nat) : Int := ([0, 1, 2, 2, 3, 3, 3, 3, 4, 4, 4, 4, 4] : List Int).getD n 0
theorem ET (n : Nat) (hn : n ≤ 12) : Pure Tryz.prog 149 [.int .u64 (n : Int)] (.int .i64 (IW n)) := by
 match n, hn with
 | 0, _ => exact zX
 | 1, _ => exact zW
 | 2, _ => exact zV
 | 3, _ => exact zU
 | 4, _ => exact zT
 | 5, _ => exact zS
 | 6, _ => exact zR
 | 7, _ => exact zQ
 | 8, _ => exact zP
 | 9, _ => exact zO
 | 10, _ => exact vz
 | 11, _ => exact vy
 | 12, _ => exact vx
 | n + 13, hn => omega
theorem Kh (n : Nat) (hn : n ≤ 12) : IntKind.u64.wrap (n : Int) = n := by simp only [IntKind.wrap, IntKind.bits, IntKind.signed]; simp; omega
theorem HM (n : Nat) (hn : n ≤ 12) : Pure Tryz.prog 96 [.int .u64 (n : Int)] (.int .i64 (IW n)) := by
 exact Pure.aL Tryz.func96 rfl rfl (aF rfl) fun H => (aC.seq (aC.region (aB.run II 1 rfl (aB.nil (aC.seq (aC.KQ (fun h => by cases h) (fun _ => (aC.skip (aC.seq (aC.region (aB.run II 1 rfl (aB.c1 rfl (aG (aF rfl) (by kernel_rfl) rfl (ET n hn)) (aB.run II 1 rfl (aB.nil (aC.ret ⟨.inr rfl, (aE.r1 rfl (.tmp rfl .nil)).cast rfl, rfl⟩)))))))))))))))
end Go.Proofs.YtlijgcifhhcfaaaGreatDoor.X
