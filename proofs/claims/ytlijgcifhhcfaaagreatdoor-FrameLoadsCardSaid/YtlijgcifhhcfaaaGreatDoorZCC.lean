/- What is known of the program's types. No condition. -/
import Derived.Test.YtlijgcifhhcfaaaGreatDoorZCB
import Derived.Test.YtlijgcifhhcfaaaGreatDoorProg
import Derived.Lib.AppendStr
import Derived.Test.YtlijgcifhhcfaaaGreatDoorRows
import Derived.WalkKit
import Derived.ProofKit
import Derived.OpenShut
import Derived.Carry
import Derived.JoinedCond
import Derived.Deep.Strs
import Derived.Deep.Slices
import Derived.Lib.SmallJoins
import Derived.SizedLaws
import Derived.Maps.Own
import Derived.Maps.OwnSet
import Derived.Maps.Views
import Derived.Defers
import Derived.Recover
import Derived.Lib.Bytealg
import Derived.Lib.Strings
import Derived.Lib.ParseIntB
import Derived.Lib.ItoaNum
import Derived.KernelRfl
set_option maxRecDepth 100000
namespace Go.Proofs.YtlijgcifhhcfaaaGreatDoor.X
open Go
def L2 : TT := (.node (.node (.node (.node (.node (.node .nil ⟨2, some (false, 1), some [.int .i64 0], none, none, [], 4, some .i64⟩ .nil) ⟨3, some (false, 1), some [.int .i64 0], none, none, [], 4, some .i64⟩ .nil) ⟨4, some (false, 1), some [.bool false], none, none, [], 3, none⟩ (.node (.node .nil ⟨5, some (false, 1), some [.int .u8 0], none, none, [], 4, some .u8⟩ .nil) ⟨9, some (false, 1), some [.str []], none, none, [], 2, none⟩ .nil)) ⟨21, some (false, 1), some [.int .i32 0], none, none, [], 4, some .i32⟩ (.node (.node (.node .nil ⟨22, some (false, 1), some [.sl []], none, some (115, 2, 40), [], 1, none⟩ .nil) ⟨23, some (false, 1), some [.sl []], none, some (75, 3, 64), [], 1, none⟩ .nil) ⟨25, some (true, 2), some [.sl [], .sl []], some [(0, 1), (1, 1)], none, [some 0, some 1], 4, none⟩ (.node (.node .nil ⟨26, some (false, 1), some [.sl []], none, some (108, 12, 168), [], 1, none⟩ .nil) ⟨28, some (true, 3), some [.sl [], .sl [], .sl []], some [(0, 2), (2, 1)], none, [some 0, some 2], 4, none⟩ .nil))) ⟨29, some (false, 1), some [.sl []], none, some (85, 2, 32), [], 1, none⟩ (.node (.node (.node (.node .nil ⟨30, some (false, 1), some [.sl []], none, some (102, 4, 40), [], 1, none⟩ .nil) ⟨32, some (true, 2), some [.sl [], .sl []], some [(0, 1), (1, 1)], none, [some 0, some 1], 4, none⟩ .nil) ⟨35, some (false, 1), some [.sl []], none, some (48, 7, 128), [], 1, none⟩ (.node (.node .nil ⟨37, some (true, 1), some [.sl []], some [(0, 1)], none, [some 0], 4, none⟩ .nil) ⟨42, some (false, 1), some [.nilp], none, none, [], 4, none⟩ .nil)) ⟨44, some (false, 1), some [.sl []], none, some (96, 9, 88), [], 1, none⟩ (.node (.node (.node .nil ⟨45, some (false, 1), some [.sl []], none, some (149, 13, 144), [], 1, none⟩ .nil) ⟨46, some (false, 1), some [.sl []], none, some (3, 1, 8), [], 1, none⟩ .nil) ⟨48, some (true, 7), some [.str [], .sl [], .sl [], .sl [], .int .i64 0, .sl [], .bool false], some [(0, 1), (1, 1), (2, 1), (3, 1), (4, 1), (5, 1), (6, 1)], none, [some 0, some 1, some 2, some 3, some 4, some 5, some 6], 4, none⟩ (.node (.node .nil ⟨49, some (false, 1), some [.sl []], none, some (86, 1, 24), [], 1, none⟩ .nil) ⟨51, some (true, 4), some [.int .i64 0, .sl [], .sl [], .bool false], some [(0, 1), (1, 1), (2, 1), (3, 1)], none, [some 0, some 1, some 2, some 3], 4, none⟩ .nil)))) ⟨67, some (false, 1), some [.sl []], none, some (32, 2, 48), [], 1, none⟩ (.node (.node (.node (.node (.node .nil ⟨72, some (true, 7), some [.str [], .int .i64 0, .int .i64 0, .str [], .bool false, .bool false, .str []], some [(0, 1), (1, 1), (2, 1), (3, 1), (4, 1), (5, 1), (6, 1)], none, [some 0, some 1, some 2, some 3, some 4, some 5, some 6], 4, none⟩ .nil) ⟨73, some (false, 1), some [.sl []], none, some (72, 7, 72), [], 1, none⟩ .nil) ⟨75, some (true, 3), some [.str [], .sl [], .sl []], some [(0, 1), (1, 1), (2, 1)], none, [some 0, some 1, some 2], 4, none⟩ (.node (.node .nil ⟨80, some (false, 1), some [.int .u64 0], none, none, [], 4, some .u64⟩ .nil) ⟨82, some (true, 3), some [.int .u64 0, .str [], .sl []], some [(0, 1), (1, 1), (2, 1)], none, [some 0, some 1, some 2], 4, none⟩ .nil)) ⟨83, some (false, 1), some [.sl []], none, some (82, 3, 48), [], 1, none⟩ (.node (.node (.node .nil ⟨85, some (true, 2), some [.int .i64 0, .sl []], some [(0, 1), (1, 1)], none, [some 0, some 1], 4, none⟩ .nil) ⟨86, some (false, 1), some [.sl []], none, some (88, 3, 32), [], 1, none⟩ .nil) ⟨88, some (true, 3), some [.int .u64 0, .str [], .nilp], some [(0, 1), (1, 1), (2, 1)], none, [some 0, some 1, some 2], 4, none⟩ (.node (.node .nil ⟨89, some (false, 1), some [.sl []], none, some (25, 2, 48), [], 1, none⟩ .nil) ⟨96, some (true, 9), some [.str [], .int .i64 0, .int .i64 0, .str [], .bool false, .bool false, .str [], .int .i64 0, .int .i64 0], some [(0, 7), (7, 1), (8, 1)], none, [some 0, some 7, some 8], 4, none⟩ .nil))) ⟨102, some (true, 4), some [.int .i64 0, .int .i64 0, .int .u64 0, .str []], some [(0, 1), (1, 1), (2, 1), (3, 1)], none, [some 0, some 1, some 2, some 3], 4, none⟩ (.node (.node (.node (.node .nil ⟨106, some (false, 1), some [.sl []], none, some (9, 1, 16), [], 1, none⟩ .nil) ⟨108, some (true, 12), some [.int .i64 0, .str [], .str [], .str [], .str [], .int .i64 0, .int .i64 0, .int .i64 0, .sl [], .int .u64 0, .str [], .sl []], some [(0, 1), (1, 1), (2, 1), (3, 1), (4, 1), (5, 1), (6, 1), (7, 1), (8, 1), (9, 3)], none, [some 0, some 1, some 2, some 3, some 4, some 5, some 6, some 7, some 8, some 9], 4, none⟩ .nil) ⟨113, some (false, 1), some [.sl []], none, some (117, 2, 24), [], 1, none⟩ (.node (.node .nil ⟨115, some (true, 2), some [.str [], .sl []], some [(0, 1), (1, 1)], none, [some 0, some 1], 4, none⟩ .nil) ⟨117, some (true, 2), some [.str [], .int .i64 0], some [(0, 1), (1, 1)], none, [some 0, some 1], 4, none⟩ .nil)) ⟨123, some (true, 2), some [.sl [], .bool false], some [(0, 1), (1, 1)], none, [some 0, some 1], 4, none⟩ (.node (.node (.node .nil ⟨149, some (true, 13), some [.int .i64 0, .int .i64 0, .int .i64 0, .int .i64 0, .int .i64 0, .int .i64 0, .int .i64 0, .int .u64 0, .int .i64 0, .sl [], .int .u64 0, .str [], .sl []], some [(0, 1), (1, 1), (2, 1), (3, 1), (4, 1), (5, 1), (6, 1), (7, 1), (8, 1), (9, 1), (10, 3)], none, [some 0, some 1, some 2, some 3, some 4, some 5, some 6, some 7, some 8, some 9, some 10], 4, none⟩ .nil) ⟨178, some (false, 1), some [.int .u64 0], none, none, [], 4, some .u64⟩ .nil) ⟨277, some (true, 16), some [.int .i64 0, .int .i64 0, .int .i64 0, .int .i64 0, .int .i64 0, .int .i64 0, .int .i64 0, .int .i64 0, .int .i64 0, .int .i64 0, .int .i64 0, .int .i64 0, .int .i64 0, .int .i64 0, .int .i64 0, .int .i64 0], none, none, [], 4, none⟩ (.node .nil ⟨280, some (false, 1), none, none, none, [], 4, none⟩ .nil)))))
theorem II : L2.ok Tryz.prog := by unfold TT.ok; kernel_rfl
set_option linter.unusedVariables false
set_option linter.unusedSimpArgs false
open Go Go.RowKit
/- The program logic's rules: a text appended to a row; to a fresh conversion. No condition. -/
section
variable {P : Program} {N : Nat} {s : St} {d : Nat} {ty : TypeId} {pos : String} {af : Array Edge} {g : Option (Nat × Bool)}
end
open Go Go.RowKit Go.ChangeShapes Go.WideShapes Go.ChangeAt
/- The law frame: from a call in the program logic to what a statement asks. No condition. -/
open Go.ChangeMaps (open_string shut_string)

def A4 (W : World) : Gh := ⟨fun b o => W.cell? ⟨b, o, none⟩, fun _ => none, fun _ => 0⟩
def KC : Hp := ⟨0, fun _ => none⟩
theorem qI (G : Gh) (W : World) (b : Nat) : ¬ ab G KC W b := by
 rintro (⟨id, ⟨cs, h⟩, _⟩ | ⟨id, j, cs, el, esz, xs, b0, arr, t, fr, h, _⟩) <;> cases h
theorem I4 (G : Gh) (W : World) (h : ∀ i, G.ob i = none) : dX G W KC := by
 refine ⟨fun id b e => ?_, fun id id' b e => ?_, fun id cs e => (by cases e), fun id j blk hr => ?_⟩
 ·rw [h] at e; cases e
 ·rw [h] at e; cases e
 ·exact absurd (.inr ⟨id, j, hr⟩) (qI G W blk)
section
variable {H : Type} {enc : TypeId × Value → H} {P : Program} {W W' : World}
theorem lL (hl : laidOutB P = true) (hb : Below W.heap.size W W') : ∀ {ts : List TypeId} {vs : List Value} {ds : List (DataW H)} {ps : List MemPlace},
  ts.all (fun t => P.readableRec t && decide (t < P.types.size)) = true → DataW.TrodAll enc P W 0 (fun _ => true) true ts vs ds ps → DataW.TrodAll enc P W' 0 (fun b => decide (b < W.heap.size)) true ts vs ds ps
 | [], vs, ds, ps, _, h => by
  obtain ⟨rfl, rfl, rfl⟩ := trodAll_nil h
  exact trodAll_mk0
 | t :: ts, vs, ds, ps, hr, h => by
  have hlt := h.lt
  obtain ⟨v, vs1, d, ds1, a, b, rfl, rfl, rfl, h1, h2⟩ := trodAll_cons h
  simp only [List.all_cons, Bool.and_eq_true, decide_eq_true_eq] at hr
  exact trodAll_cons_mk (Below.trod hl hr.1.1 hr.1.2 h1 hb fun x hx => hlt x (by simp [hx])) (lL hl hb hr.2 h2)
theorem z1 {f : Func} {s : ChangeSpec} {t : TypeId} {args : Array Value} {ds gs : List (DataW H)} {before : List MemPlace} (hl : laidOutB P = true)
  (hr : f.params.toList.all (fun t => P.readableRec t && decide (t < P.types.size)) = true) (hvr : s.vars = []) (hW : DataW.Whole enc P f.params.toList s.vars false W args.toList ds gs before) (hb : Below W.heap.size W W')
  (hs : s.fn H (ds ++ gs) = { results := [.lit (.bool true)], args := ds, vars := gs }) (ht : f.resultTypes = #[t]) (hu : P.underlying t = some .bool) :
  s.post enc P f false true false false W args (.bool true) W' := by
 have hW' := hW
 obtain ⟨p, q, hA, hV, rfl, hfz, hnd⟩ := hW
 refine ⟨ds, gs, p ++ q, [], p, q, hW', ?_, ?_, ?_, ?_, fun h => by cases h⟩
 ·rw [hs, ht]
  exact trodAll_cons_mk (shut_bool hu true) trodAll_mk0
 ·rw [hs]; exact lL hl hb hr hA
 ·rw [hvr] at hV ⊢
  obtain ⟨rfl, rfl⟩ := trodVars_none hV
  rw [hs]; rfl
 ·exact hb.frame _

end
/- The program logic's rules: a call of which only the answer is told. No condition. -/
def DW (P : Program) (f : FuncId) (args : List AV) (H : Hp) (r : AV) : Prop :=
 ∀ G w cargs, GE ⟨G, w, ab G H w, []⟩ → ew G w → dX G w H → VL G cargs args → Calls P f cargs w fun e w' => ∃ v G', e = .returned v ∧ V G' v r ∧ Fr (ab G H w) w w'
theorem DW.aL {P : Program} {f : FuncId} {fn : Func} {c : Code} {N : Nat} {args : List AV} {H : Hp} {r : AV} (hf : P.funcs[f]? = some fn) (hb : fn.body = some c) (hN : fn.ntmps = N) (hle : args.length ≤ N)
  (h : aC P N c ((.h, .hp H) :: ep args 0) fun e s' => (e = .normal ∨ e = .ret) ∧ aE P fn s' r) : DW P f args H r := by
 intro G w cargs hg hk hH hV
 refine calls_of_wp hf hb ?_
 have h0 := rb hN hle hg hk hH hV
 refine wp_mono (h ⟨G, w, ab G H w, []⟩ _ w h0) ?_
 rintro e a' w' ⟨s', ⟨G', L', hr⟩, he, hres⟩
 obtain ⟨v, hv, hV'⟩ := hres _ _ _ _ _ _ hr
 have hpost : ∃ v2 G', Ending.returned v = .returned v2 ∧ V G' v2 r ∧ Fr (ab G H w) w w' := ⟨v, G', rfl, hV', hr.fr⟩
 rcases he with rfl | rfl
 ·exact ⟨hr.defs, v, hv, hpost⟩
 ·exact ⟨hr.defs, v, hv, hpost⟩
theorem CG {P : Program} {f : FuncId} {xs : List AV} (h : DW P f xs KC (.bool true)) {W : World} {args : Array Value} (hg : Ga W ∧ gN ≤ W.heap.size) (hv : VL (A4 W) args xs) :
  Calls P f args W fun e w' => e = .returned (.bool true) ∧ Below W.heap.size W w' := by
 refine (h (A4 W) W args ⟨hg.1, hg.2, fun g _ => qI _ _ g⟩ (fun b o v e => e) (I4 _ _ fun _ => rfl) hv).mono fun e w' ⟨v, G', he, hV, hf⟩ => ?_
 cases hV
 exact ⟨he, hf.os, hf.tape, hf.output, hf.size, fun k hk => hf.block k hk (qI _ _ k)⟩
/- The law frame: lists of texts, numbers. No condition. -/
section
variable {H : Type} {enc : TypeId × Value → H} {P : Program} {W W' : World}
theorem cell_spot {a : Addr} {v : Value} (h : W.cell? a = some v) : a.spot = none := by
 unfold World.cell? at h
 split at h
 ·split at h
  ·cases h
  ·rename_i hns; simpa using hns
 ·cases h
theorem Dq (s : ByteArray) : s = ⟨s.data.toList.toArray⟩ := by cases s; simp
end
/- The law frame: slices of whatever. No condition. -/
section
variable {H : Type} {enc : TypeId × Value → H} {P : Program} {W W' : World}
end
/- The program logic's rules: contracts of the library, said of worlds, as calls of the logic. No condition. -/
theorem Pure.Bn {P : Program} {f : FuncId} {args : List AV} {r : AV}
  (h : ∀ G w cargs, Ga w → gN ≤ w.heap.size → ew G w → VL G cargs args → Calls P f cargs w fun e w' => ∃ v, e = .returned v ∧ V G v r ∧ Below w.heap.size w w') : Pure P f args r := by
 intro H G w cargs hg hk hH hV
 refine (h G w cargs hg.1 hg.2.1 hk hV).mono ?_
 rintro e w' ⟨v, he, hv, hb⟩
 obtain ⟨h1, h2⟩ := hH.stay (G' := G) (Gh.le.refl G) rfl (fun b hb' o => (hH.ab hb').2 o) (fun b hb' => hb.block b (hH.ab hb').1) hb.size
 refine ⟨v, G, he, hv, ⟨fun _ _ _ _ => rfl, fun _ _ h => ⟨h, rfl⟩, fun _ _ h => .inl ⟨_, h⟩⟩, fun b o u e2 => ?_, h1, ⟨hb.os, hb.tape, hb.output, hb.size, fun k hk' _ => hb.block k hk'⟩, fun b hb' => .inr ((h2 b).1 hb')⟩
 rw [World.cell?_of_block (w := w) (hb.block b (hk.lt e2))]
 exact hk b o u e2
theorem VL.one {G : Gh} {c : Array Value} {a : AV} (h : VL G c [a]) : ∃ x, c = #[x] ∧ V G x a := by
 obtain ⟨h1, h2⟩ := h
 obtain ⟨l⟩ := c
 match l, h1 with
 | [x], _ => exact ⟨x, rfl, h2 0 a rfl⟩
theorem V.vc {G : Gh} {v : Value} {s : List UInt8} (h : V G v (.str s)) : v = .string ⟨s.toArray⟩ := by cases h; rfl
theorem V.int_eq {G : Gh} {v : Value} {k : IntKind} {n : Int} (h : V G v (.int k n)) : v = .int k n := by cases h; rfl
section
variable {P : Program} {N : Nat} {s : St} {d : Nat} {ty : TypeId} {pos : String} {af : Array Edge} {g : Option (Nat × Bool)}
end
/- The law frame: whatever comes in of plain types, opened at once. No condition. -/
def pack (P : Program) (t : TypeId) (cs : List AV) : AV :=
 match P.underlying t with
 | some (.struct _) | some (.array _ _) => .agg cs
 | _ => cs.headD .junk
def GJ (P : Program) (R : TypeId → List AV → Prop) : List TypeId → List AV → Prop
 | [], cs => cs = []
 | t :: ts, cs => ∃ a b, cs = a ++ b ∧ a.length = P.cellsOf t ∧ R t a ∧ GJ P R ts b
def Ty (P : Program) : Nat → TypeId → List AV → Prop
 | 0, _, _ => False
 | n + 1, t, cs =>
  match P.underlying t with
  | some .bool => ∃ b, cs = [.bool b]
  | some (.int k) => ∃ m, cs = [.int k m] ∧ (Lit.int k m).wf = true
  | some .string => ∃ s : List UInt8, cs = [.str s] ∧ s.length ≤ reachBytes
  | some (.slice e) => ∃ css : List (List AV), cs = [.sl (css.map (pack P e))] ∧ css.length * P.bytesOf e ≤ reachBytes ∧ ∀ c ∈ css, Ty P n e c
  | some (.struct fs) => GJ P (Ty P n) (fs.toList.map (·.type)) cs
  | some (.array m e) => GJ P (Ty P n) (List.replicate m e) cs
  | _ => False
def oj (P : Program) : List Field → Nat → Nat → Bool
 | [], o, n => o == n
 | f :: fs, o, n => f.offset == o && oj P fs (o + P.cellsOf f.type) n
def lV (P : Program) (S : List TypeId) (t : TypeId) : Bool :=
 match P.underlying t with
 | some .bool | some (.int _) | some .string => P.cellsOf t == 1
 | some (.slice e) => P.cellsOf t == 1 && S.contains e && decide (0 < P.cellsOf e)
 | some (.struct fs) => (fs.toList.all fun f => S.contains f.type) && oj P fs.toList 0 (P.cellsOf t)
 | some (.array n e) => S.contains e && P.cellsOf t == n * P.cellsOf e
 | _ => false
section
variable {H : Type} {enc : TypeId × Value → H} {P : Program} {W : World}
def eB (W : World) (cs : List Value) (acs : List AV) : Prop := acs.length = cs.length ∧ ∀ (j : Nat) c, acs[j]? = some c → c.flat = true ∧ V (A4 W) (cs.getD j undef) c
theorem eB.one {v : Value} {a : AV} (hf : a.flat = true) (h : V (A4 W) v a) : eB W [v] [a] :=
 ⟨rfl, fun j c hc => by
  match j, hc with
  | 0, hc => cases hc; exact ⟨hf, h⟩⟩
theorem eB.app {a b : List Value} {x y : List AV} (h1 : eB W a x) (h2 : eB W b y) : eB W (a ++ b) (x ++ y) := by
 refine ⟨by simp [h1.1, h2.1], fun j c hc => ?_⟩
 by_cases hj : j < x.length
 ·rw [List.getElem?_append_left hj] at hc
  have := h1.2 j c hc
  rwa [List.getD_eq_getElem?_getD, List.getElem?_append_left (by rw [← h1.1]; exact hj), ← List.getD_eq_getElem?_getD]
 ·rw [List.getElem?_append_right (by omega)] at hc
  have := h2.2 _ c hc
  rwa [List.getD_eq_getElem?_getD, List.getElem?_append_right (by rw [← h1.1]; omega), ← List.getD_eq_getElem?_getD, ← h1.1]
theorem pack_cells {S : List TypeId} {t : TypeId} {cs : List Value} {acs : List AV} (h : eB W cs acs) (hc : cs.length = P.cellsOf t) (hp : lV P S t = true) : (pack P t acs).cells = acs ∧ ∀ vs, pack P t acs ≠ .tup vs := by
 unfold pack
 unfold lV at hp
 split
 ·exact ⟨rfl, fun _ h => by cases h⟩
 ·exact ⟨rfl, fun _ h => by cases h⟩
 ·have h1 : P.cellsOf t = 1 := by
   split at hp <;> simp_all
  obtain ⟨h2, h3⟩ := h
  match acs, h2 with
  | [a], _ =>
   have hf := (h3 0 a rfl).1
   exact ⟨AV.iK hf, fun vs e => by simp at e; subst e; simp [AV.flat] at hf⟩
  | [], h2 => simp at h2; omega
  | _ :: _ :: _, h2 => simp at h2; omega
theorem gn {P : Program} {e : TypeId} : ∀ {l : List (DataW H)} {d : DataW H} {n : Nat}, d ∈ l → n ∈ d.weights P e → n ∈ DataW.weightsAll P e l
 | x :: l, d, n, hd, hn => by
  simp only [DataW.weightsAll, List.mem_append]
  rcases List.mem_cons.1 hd with rfl | hd
  ·exact .inl hn
  ·exact .inr (gn hd hn)
theorem km (S : List TypeId) (hS : S.all (lV P S) = true) : ∀ (n : Nat) (t : TypeId) (cs : List Value) (y : DataW H × List MemPlace), t ∈ S → DataW.trod enc P W 0 (fun _ => true) true n t cs = some y → (∀ k ∈ y.1.weights P t, k ≤ reachBytes) →
  cs.length = P.cellsOf t ∧ ∃ acs, eB W cs acs ∧ Ty P n t acs
 | 0, _, _, _, _, h, _ => by simp [DataW.trod] at h
 | n + 1, t, cs, y, ht, h, hw => by
  have hp := List.all_eq_true.1 hS t ht
  have KC := hp
  unfold lV at hp
  split at hp
  ·rename_i hu
   obtain ⟨b, rfl, _⟩ := DataW.trod_bool hu h
   exact ⟨by simpa using (eq_of_beq hp).symm, [.bool b], eB.one rfl (.bool b), by unfold Ty; rw [hu]; exact ⟨b, rfl⟩⟩
  ·rename_i k hu
   obtain ⟨m, rfl, _, hwf⟩ := DataW.trod_int hu h
   exact ⟨by simpa using (eq_of_beq hp).symm, [.int k m], eB.one rfl (.int k m), by unfold Ty; rw [hu]; exact ⟨m, rfl, hwf⟩⟩
  ·rename_i hu
   obtain ⟨s, rfl, rfl, _⟩ := DataW.trod_string hu h
   have hw' : s.data.toList.length ≤ reachBytes := hw _ (by simp [DataW.weights])
   refine ⟨by simpa using (eq_of_beq hp).symm, [.str s.data.toList], eB.one rfl ?_, by unfold Ty; rw [hu]; exact ⟨_, rfl, hw'⟩⟩
   have := V.str (G := A4 W) s.data.toList
   rwa [← Dq] at this
  ·rename_i e hu
   simp only [Bool.and_eq_true, decide_eq_true_eq, List.contains_iff_mem] at hp
   obtain ⟨⟨hp1, hp2⟩, hp3⟩ := hp
   rcases DataW.trod_slice hu h with ⟨rfl, _⟩ | ⟨a, len, cap, elems, rest, n', hn, rfl, hy, _, hl, hm, hlen, hel, _, _⟩
   ·exact ⟨by simpa using (eq_of_beq hp1).symm, [.sl []], eB.one rfl (.slE _ _), by unfold Ty; rw [hu]; exact ⟨[], rfl, by simp, by simp⟩⟩
   ·cases hn
    rw [hy] at hw
    simp only [DataW.weights, hu] at hw
    have hwl := hw _ (List.mem_cons_self ..)
    have each : ∀ i, i < len → ∃ q : List AV × List Value, q.2.length = P.cellsOf e ∧ eB W q.2 q.1 ∧ Ty P n e q.1 ∧ ∀ j, j < P.cellsOf e → W.cell? ((a.add (i * P.cellsOf e)).add j) = q.2[j]? := by
     intro i hi
     have h1 := hel i hi
     rw [List.getElem?_eq_getElem (by omega)] at h1
     obtain ⟨cs', h2, h3⟩ := Option.bind_eq_some_iff.1 h1
     obtain ⟨_, h4, h5⟩ := World.cells?_some h2
     obtain ⟨_, acs, h6, h7⟩ := km S hS n e cs' _ hp2 h3 (fun k hk => hw k (List.mem_cons_of_mem _ (List.mem_append.2 (.inl (gn (List.mem_map.2 ⟨_, List.getElem_mem (show i < elems.length by omega), rfl⟩) hk)))))
     exact ⟨(acs, cs'), h4, h6, h7, h5⟩
    obtain ⟨q, hq⟩ : ∃ q : Nat → List AV × List Value, ∀ i, i < len → (q i).2.length = P.cellsOf e ∧ eB W (q i).2 (q i).1 ∧ Ty P n e (q i).1 ∧ ∀ j, j < P.cellsOf e → W.cell? ((a.add (i * P.cellsOf e)).add j) = (q i).2[j]? :=
     ⟨fun i => if h : i < len then (each i h).choose else ([], []), fun i hi => by simp only [dif_pos hi]; exact (each i hi).choose_spec⟩
    let css : List (List AV) := (List.range len).map fun i => (q i).1
    let l : List AV := css.map (pack P e)
    have hll : l.length = len := by simp [l, css]
    have hg : ∀ (i : Nat) x, l[i]? = some x → i < len ∧ x = pack P e (q i).1 := by
     intro i x hx
     have hi : i < len := by have := (List.getElem?_eq_some_iff.1 hx).1; omega
     simp only [l, css, List.map_map, List.getElem?_map, List.getElem?_range hi, Option.map_some, Function.comp] at hx
     cases hx; exact ⟨hi, rfl⟩
    have hpk : ∀ i, i < len → (pack P e (q i).1).cells = (q i).1 := fun i hi => (pack_cells (hq i hi).2.1 (hq i hi).1 (List.all_eq_true.1 hS e hp2)).1
    refine ⟨by simpa using (eq_of_beq hp1).symm, [.sl l], eB.one rfl ?_, ?_⟩
    ·by_cases h0 : len = 0
     ·have : l = [] := List.length_eq_zero_iff.1 (by omega)
      rw [this, h0]; exact .slE _ _
     ·have hsp : a.spot = none := by
       obtain ⟨h1, h2, _, h4⟩ := hq 0 (by omega)
       have := h4 0 hp3
       rw [List.getElem?_eq_getElem (by omega)] at this
       have := cell_spot this
       simpa [Addr.add] using this
      obtain ⟨b, o, sp⟩ := a
      simp only at hsp
      subst hsp
      have key : V (A4 W) (.slice (some ⟨b, o, none⟩) l.length cap) (.sl l) := by
       refine V.slN b o cap (P.cellsOf e) l (fun i j => (q i).2.getD j undef) (by omega) ?_ ?_ ?_ ?_
       ·intro i x hx
        obtain ⟨hi, rfl⟩ := hg i x hx
        rw [hpk i hi, (hq i hi).2.1.1, (hq i hi).1]
       ·intro i x j c hx hj
        obtain ⟨hi, rfl⟩ := hg i x hx
        rw [hpk i hi] at hj
        have hj' : j < P.cellsOf e := by have := (List.getElem?_eq_some_iff.1 hj).1; rw [(hq i hi).2.1.1, (hq i hi).1] at this; exact this
        have := (hq i hi).2.2.2 j hj'
        rw [Addr.add_lit, Addr.add_lit] at this
        rw [List.getElem?_eq_getElem (by rw [(hq i hi).1]; exact hj')] at this
        rw [List.getD_eq_getElem?_getD, List.getElem?_eq_getElem (by rw [(hq i hi).1]; exact hj')]
        simpa [A4] using this
       ·intro i x j c hx hj
        obtain ⟨hi, rfl⟩ := hg i x hx
        rw [hpk i hi] at hj
        exact ((hq i hi).2.1.2 j c hj).1
       ·intro i x j c hx hj
        obtain ⟨hi, rfl⟩ := hg i x hx
        rw [hpk i hi] at hj
        exact ((hq i hi).2.1.2 j c hj).2
      rw [hll] at key
      exact key
    ·unfold Ty
     rw [hu]
     refine ⟨css, rfl, ?_, fun c hc => ?_⟩
     ·have hcl : css.length = len := by simp [css]
      rw [hcl]
      refine Nat.le_trans (Nat.mul_le_mul_right _ ?_) hwl
      rw [List.length_map, List.length_map, hlen]; omega
     obtain ⟨i, hi, rfl⟩ := List.mem_map.1 hc
     exact (hq i (by simpa using hi)).2.2.1
  ·rename_i fs hu
   simp only [Bool.and_eq_true, List.all_eq_true, List.contains_iff_mem] at hp
   obtain ⟨hp1, hp2⟩ := hp
   obtain ⟨xs, n', hn, hy, hl, hlen, hf⟩ := DataW.trod_struct hu h
   cases hn
   rw [hy] at hw
   simp only [DataW.weights, hu] at hw
   have key : ∀ (l : List Field) (o : Nat) (cs : List Value), (∀ f ∈ l, f.type ∈ S) → oj P l o (o + cs.length) = true → (∀ f ∈ l, o ≤ f.offset → ∃ y, DataW.trod enc P W 0 (fun _ => true) true n f.type ((cs.drop (f.offset - o)).take (P.cellsOf f.type)) = some y ∧ ∀ k ∈ y.1.weights P f.type, k ≤ reachBytes) →
     ∃ acs, eB W cs acs ∧ GJ P (Ty P n) (l.map (·.type)) acs := by
    intro l
    induction l with
    | nil =>
     intro o cs _ ht _
     have : cs = [] := List.length_eq_zero_iff.1 (by simp only [oj, beq_iff_eq] at ht; omega)
     subst this
     exact ⟨[], ⟨rfl, by simp⟩, rfl⟩
    | cons f l ih =>
     intro o cs hin ht hx
     simp only [oj, Bool.and_eq_true, beq_iff_eq] at ht
     obtain ⟨ho, ht⟩ := ht
     obtain ⟨y, hy, hyw⟩ := hx f (by simp) (by omega)
     rw [ho, Nat.sub_self, List.drop_zero] at hy
     obtain ⟨h1, a, h2, h3⟩ := km S hS n f.type _ y (hin f (by simp)) hy hyw
     rw [List.length_take] at h1
     have hle : ∀ (l : List Field) (o m : Nat), oj P l o m = true → (∀ g ∈ l, o ≤ g.offset) := by
      intro l
      induction l with
      | nil => intro o m _ g hg; cases hg
      | cons g' l ih2 =>
       intro o m hm g hg
       simp only [oj, Bool.and_eq_true, beq_iff_eq] at hm
       rcases List.mem_cons.1 hg with rfl | hg
       ·omega
       ·have := ih2 _ _ hm.2 g hg; omega
     obtain ⟨b, h4, h5⟩ := ih (o + P.cellsOf f.type) (cs.drop (P.cellsOf f.type)) (fun g hg => hin g (by simp [hg])) (by rw [List.length_drop, show o + P.cellsOf f.type + (cs.length - P.cellsOf f.type) = o + cs.length by omega]; exact ht) (fun g hg hog => by
      obtain ⟨y2, hy2, hyw2⟩ := hx g (by simp [hg]) (by omega)
      refine ⟨y2, ?_, hyw2⟩
      rw [List.drop_drop, show P.cellsOf f.type + (g.offset - (o + P.cellsOf f.type)) = g.offset - o by omega]
      exact hy2)
     refine ⟨a ++ b, ?_, a, b, rfl, by rw [h2.1, List.length_take]; exact h1, h3, h5⟩
     have := h2.app h4
     rwa [List.take_append_drop] at this
   refine ⟨hl, ?_⟩
   obtain ⟨acs, h1, h2⟩ := key fs.toList 0 cs (fun f hf => hp1 f hf) (by rw [Nat.zero_add, hl]; exact hp2) (fun f hf' _ => by
    obtain ⟨i, hi⟩ := List.mem_iff_getElem?.1 hf'
    have hi' : fs[i]? = some f := by simpa using hi
    have h3 := hf i f hi'
    have hlt : i < xs.length := by rw [hlen]; exact (Array.getElem?_eq_some_iff.1 hi').1
    refine ⟨xs[i], by rw [Nat.sub_zero, h3, List.getElem?_eq_getElem hlt], fun k hk => hw k (DataW.weights_mem_each (j := i) (t := f.type) (d := xs[i].1) ?_ ?_ k hk)⟩
    ·rw [List.getElem?_map, hi]; rfl
    ·rw [List.getElem?_map, List.getElem?_eq_getElem hlt]; rfl)
   exact ⟨acs, h1, by unfold Ty; rw [hu]; exact h2⟩
  ·rename_i m e hu
   simp only [Bool.and_eq_true, List.contains_iff_mem, beq_iff_eq] at hp
   obtain ⟨hp1, hp2⟩ := hp
   obtain ⟨xs, n', hn, hy, hl, hlen, hf⟩ := DataW.trod_array hu h
   cases hn
   rw [hy] at hw
   simp only [DataW.weights, hu] at hw
   have key : ∀ (k : Nat) (cs : List Value), cs.length = k * P.cellsOf e → (∀ i, i < k → ∃ y, DataW.trod enc P W 0 (fun _ => true) true n e ((cs.drop (i * P.cellsOf e)).take (P.cellsOf e)) = some y ∧ ∀ k ∈ y.1.weights P e, k ≤ reachBytes) →
     ∃ acs, eB W cs acs ∧ GJ P (Ty P n) (List.replicate k e) acs := by
    intro k
    induction k with
    | zero =>
     intro cs hc _
     have : cs = [] := List.length_eq_zero_iff.1 (by omega)
     subst this
     exact ⟨[], ⟨rfl, by simp⟩, rfl⟩
    | succ k ih =>
     intro cs hc hx
     obtain ⟨y, hy, hyw⟩ := hx 0 (by omega)
     rw [Nat.zero_mul, List.drop_zero] at hy
     obtain ⟨h1, a, h2, h3⟩ := km S hS n e _ y hp1 hy hyw
     obtain ⟨b, h4, h5⟩ := ih (cs.drop (P.cellsOf e)) (by rw [List.length_drop, hc, Nat.succ_mul]; omega) (fun i hi => by
      obtain ⟨y2, hy2, hyw2⟩ := hx (i + 1) (by omega)
      refine ⟨y2, ?_, hyw2⟩
      rw [List.drop_drop, show P.cellsOf e + i * P.cellsOf e = (i + 1) * P.cellsOf e by rw [Nat.succ_mul]; omega]
      exact hy2)
     refine ⟨a ++ b, ?_, a, b, rfl, by rw [h2.1]; exact h1, h3, h5⟩
     have := h2.app h4
     rwa [List.take_append_drop] at this
   obtain ⟨acs, h1, h2⟩ := key m cs (by rw [hl]; exact hp2) (fun i hi => by
    have h3 := hf i hi
    exact ⟨xs[i], by rw [h3, List.getElem?_eq_getElem (by omega)], fun k hk => hw k (gn (List.mem_map.2 ⟨_, List.getElem_mem (show i < xs.length by omega), rfl⟩) hk)⟩)
   exact ⟨hl, acs, h1, by unfold Ty; rw [hu]; exact h2⟩
  ·cases hp
theorem uS (S : List TypeId) (hS : S.all (lV P S) = true) {r : Reach} {b0 : Nat} {t : TypeId} {v : Value} {d : DataW H} {ps : List MemPlace} (ht : t ∈ S) (hval : Value.okWide P W r b0 t v)
  (hd : DataW.Trod enc P W 0 (fun _ => true) true t v d ps) (hw : ∀ k ∈ d.weights P t, k ≤ reachBytes) : ∃ acs n, V (A4 W) v (pack P t acs) ∧ Ty P n t acs := by
 obtain ⟨n, hd⟩ := hd
 obtain ⟨hl, acs, h1, h2⟩ := km S hS n t _ _ ht hd hw
 refine ⟨acs, n, ?_, h2⟩
 have hp := List.all_eq_true.1 hS t ht
 have agg : ∀ cs, v = .agg cs → V (A4 W) v (.agg acs) := by
  rintro cs rfl
  exact .agg cs acs (by have := h1.1; simpa [Value.cells] using this.symm) (fun j c hc => (h1.2 j c hc).1) fun j c hc => by
   have := (h1.2 j c hc).2
   simpa [Value.cells, List.getD_eq_getElem?_getD] using this
 unfold pack
 split
 ·rename_i fs hu
  obtain ⟨cs, rfl, _⟩ := okWide_struct hu hval
  exact agg cs rfl
 ·rename_i m e hu
  have : ∃ cs, v = .agg cs := by unfold Value.okWide at hval; rw [hu] at hval; obtain ⟨cs, h, _⟩ := hval; exact ⟨cs, h⟩
  obtain ⟨cs, rfl⟩ := this
  exact agg cs rfl
 ·rename_i hn1 hn2
  have hone : ∀ u, v.cells.toList = [u] → u = v → V (A4 W) v (acs.headD .junk) := by
   intro u hu e
   subst e
   obtain ⟨h3, h4⟩ := h1
   rw [hu] at h3 h4
   match acs, h3 with
   | [a], _ => exact (h4 0 a rfl).2
  unfold lV at hp
  split at hp
  ·rename_i hu
   obtain ⟨b, h3, _⟩ := DataW.trod_bool hu hd
   refine hone _ h3 ?_
   cases v <;> simp_all [Value.cells]
   all_goals first | (rename_i x; obtain ⟨l⟩ := x; simp_all [Value.okWide]; done) | skip
   all_goals (unfold Value.okWide at hval; rw [hu] at hval; simp [Cell.okWide, hu, Cell.ok] at hval)
  ·rename_i k hu
   obtain ⟨m, h3, _⟩ := DataW.trod_int hu hd
   refine hone _ h3 ?_
   cases v <;> simp_all [Value.cells]
   all_goals (unfold Value.okWide at hval; rw [hu] at hval; simp [Cell.okWide, hu, Cell.ok] at hval)
  ·rename_i hu
   obtain ⟨s, rfl⟩ := okWide_string hu hval
   exact hone _ rfl rfl
  ·rename_i e hu
   obtain ⟨a, len, cap, rfl⟩ := okWide_slice hu hval
   exact hone _ rfl rfl
  ·rename_i fs hu; exact absurd hu (hn1 fs)
  ·rename_i m e hu; exact absurd hu (hn2 m e)
  ·cases hp
end
/- The program logic's rules: loops that change a few slots; what a loop over a slice is told by. No condition. -/
section
variable {P : Program} {N : Nat} {s : St} {Q : Exit → St → Prop}
theorem aC.aX {c : Code} {α : Type} (upd : α → St) (rest : St) (I : α → Prop) (m : α → Nat) (a0 : α) (hs : s = upd a0 ++ rest) (h0 : I a0)
  (hb : ∀ a, I a → aC P N c (upd a ++ rest) fun e s' => match e with | .normal => ∃ b, m b < m a ∧ I b ∧ s' = upd b ++ rest | e => Q e s') : aC P N (.loop c) s Q := by
 refine aC.loop (fun n t => ∃ a, m a = n ∧ I a ∧ t = upd a ++ rest) ?_ (n := m a0) ⟨a0, rfl, h0, hs⟩
 rintro n t ⟨a, rfl, ha, rfl⟩
 refine (hb a ha).mono fun e s' h => ?_
 cases e with
 | normal => obtain ⟨b, h1, h2, h3⟩ := h; exact ⟨m b, h1, b, rfl, h2, h3⟩
 | _ => exact h
theorem aC.cI {c d : Code} {α : Type} (cs : List aM) (upd : α → St) (F : α → Prop) {rest : St} (hr : X.aJ cs s cs = some rest) (h1 : aC P N c s fun e s' => match e with | .normal => ∃ a, F a ∧ s' = upd a ++ rest | e => Q e s')
  (h2 : ∀ a, F a → aC P N d (upd a ++ rest) Q) : aC P N (.seq c d) s Q :=
 aC.join (fun s' => ∃ a, F a ∧ s' = upd a ++ rest) h1 fun s' ⟨a, ha, e⟩ => e ▸ h2 a ha
theorem Kept.aY {Q : St → Prop} (n : Nat) {k : IntKind} {v v' : Int} (h : get s (.s n) = some (.sv (.v (.int k v)))) (e : v = v') (hq : Kept ((.s n, .sv (.v (.int k v'))) :: s) Q) : Kept s Q := fun E N a w ⟨G, L, hr⟩ => by
 subst e
 refine hq E N a w ⟨G, L, hr.ext fun c => ?_⟩
 simp only [get]
 split
 ·rename_i hc; subst hc; exact h.symm
 ·rfl
theorem Kept.oD {Q : St → Prop} {H H' : Hp} (h : get s .h = some (.hp H)) (e : H = H') (hq : Kept ((.h, .hp H') :: s) Q) : Kept s Q := fun E N a w ⟨G, L, hr⟩ => by
 subst e
 refine hq E N a w ⟨G, L, hr.ext fun c => ?_⟩
 simp only [get]
 split
 ·rename_i hc; subst hc; exact h.symm
 ·rfl
theorem Kept.Ks {Q : St → Prop} (n : Nat) {v v' : AV} (h : get s (.s n) = some (.sv (.v v))) (e : v = v') (hq : Kept ((.s n, .sv (.v v')) :: s) Q) : Kept s Q := fun E N a w ⟨G, L, hr⟩ => by
 subst e
 refine hq E N a w ⟨G, L, hr.ext fun c => ?_⟩
 simp only [get]
 split
 ·rename_i hc; subst hc; exact h.symm
 ·rfl
end
theorem aD.g3 {P : Program} {N : Nat} {ops : Array Oper} {l : List Oper} {s : St} {Q : St → Prop} {o : Oper} {R : List aM} {A : List (List Nat)} {acc : List (List aM × St)} {c c' c2 : aM} {v u y : CV} {d : Nat} {b b' : Bool} (hg : eV ops o = some (d, b)) (hN : d < N) (hc : get s (.s d) = some (.sv (.v (.bool b')))) (hb : b' = b) (ho : ae P N o s R [(c, v), (c', u), (c2, y)]) (h : aD P N ops A Q (acc ++ [(.s d :: R, [(c, v), (c', u), (c2, y)])]) l ((c, v) :: (c', u) :: (c2, y) :: s)) : aD P N ops A Q acc (o :: l) s := aD.cons (bY.on hN hg (hb ▸ hc) ho) h
theorem Cn (a k : Nat) : ((a : Nat) : Int).fdiv (2 ^ k) = ((a / 2 ^ k : Nat) : Int) := by
 rw [Int.fdiv_eq_ediv_of_nonneg _ (by exact Int.le_of_lt (Int.pow_pos (by decide)))]
 norm_cast
section
variable {P : Program} {N : Nat} {s : St} {d : Nat} {ty : TypeId} {pos : String} {af : Array Edge} {g : Option (Nat × Bool)}
theorem B7 {t1 t2 : TypeId} {x y : Operand} {k k' : IntKind} {a : Nat} {b : Int} (hN : d < N) (hx : cu x s = some (.int k (a : Int))) (hy : cu y s = some (.int k' b)) (hb : 0 ≤ b) :
  ae P N ⟨some d, .binOp .shr t1 x y t2, ty, pos, af, g⟩ s (rd x ++ rd y) [(.s d, .sv (.v (.int k ((a / 2 ^ (min b.toNat k.bits) : Nat) : Int))))] :=
 db hN hx hy (by
  show (if b < 0 then none else some (AV.int k (((a : Nat) : Int).fdiv (2 ^ (min b.toNat k.bits))))) = _
  rw [if_neg (by omega), Cn])
theorem Ep {ts : Array TypeId} {x y : Operand} {k k' : IntKind} {m n : Int} (hN : d < N) (hx : cu x s = some (.int k m)) (hy : cu y s = some (.int k' n)) :
  ae P N ⟨some d, .call { callee := .builtin .max, args := #[x, y], argTypes := ts }, ty, pos, af, g⟩ s (rd x ++ rd y) [(.s d, .sv (.v (.int k (if n > m then n else m))))] :=
 ae.val rfl hN fun _ G _ a w _ hr hR => by
  refine ⟨.int k (if n > m then n else m), ?_, .int _ _⟩
  have h1 := (aU hr hR.left hx).int_eq
  have h2 := (aU hr hR.right hy).int_eq
  simp [execOp, resolve, invoke, builtin, h1, h2, run_max_int2]
theorem Eo {ts : Array TypeId} {x y : Operand} {k k' : IntKind} {m n : Int} (hN : d < N) (hx : cu x s = some (.int k m)) (hy : cu y s = some (.int k' n)) :
  ae P N ⟨some d, .call { callee := .builtin .min, args := #[x, y], argTypes := ts }, ty, pos, af, g⟩ s (rd x ++ rd y) [(.s d, .sv (.v (.int k (if n < m then n else m))))] :=
 ae.val rfl hN fun _ G _ a w _ hr hR => by
  refine ⟨.int k (if n < m then n else m), ?_, .int _ _⟩
  have h1 := (aU hr hR.left hx).int_eq
  have h2 := (aU hr hR.right hy).int_eq
  simp [execOp, resolve, invoke, builtin, h1, h2, run_min_int2]
end
theorem Hp.set_set {H : Hp} {id : Nat} {a b : List Hc} : (H.set id a).set id b = H.set id b := by
 simp only [Hp.set]
 congr 1
 funext i
 split <;> rfl
theorem Hp.bk {H : Hp} {id : Nat} {hs : List Hc} : (H.set id hs).obj id = some hs := by simp [Hp.set]
theorem Hp.Aw {H : Hp} {id : Nat} {hs : List Hc} (h : H.obj id = some hs) : H.set id hs = H := by
 obtain ⟨n, o⟩ := H
 simp only [Hp.set]
 congr 1
 funext i
 split
 ·rename_i e; subst e; exact h.symm
 ·rfl
theorem inc {n : Nat} (h : n < 9223372036854775807) : IntKind.i64.wrap ((n : Int) + 1) = ((n + 1 : Nat) : Int) := by
 simp only [IntKind.wrap, IntKind.bits, IntKind.signed]; simp; omega
theorem dD {α β : Type} {f : α → β} {xs : List α} {i : Nat} (h : decide ((i : Int) < ((xs.map f).length : Int)) = true) : i < xs.length := by
 have := of_decide_eq_true h; rw [List.length_map] at this; omega
theorem dE {α β : Type} {f : α → β} {xs : List α} {i : Nat} (h : decide ((i : Int) < ((xs.map f).length : Int)) = false) : xs.length ≤ i := by
 have := of_decide_eq_false h; rw [List.length_map] at this; omega
theorem cF {α β : Type} {f : α → β} {xs : List α} {i : Nat} (h : i < xs.length) : (xs.map f)[((i : Nat) : Int).toNat]? = some (f xs[i]) := by
 simp [h]
theorem Lh {xs : List UInt8} {i : Nat} (h : decide ((i : Int) < (xs.length : Int)) = true) : i < xs.length := by
 have := of_decide_eq_true h; omega
theorem Lj {xs : List UInt8} {i : Nat} (h : decide ((i : Int) < (xs.length : Int)) = false) : xs.length ≤ i := by
 have := of_decide_eq_false h; omega
theorem KA {xs : List UInt8} {i : Nat} (h : i < xs.length) : xs[((i : Nat) : Int).toNat]? = some xs[i] := by
 simp [h]
theorem Lg {i n : Nat} (h : decide ((i : Int) < (n : Int)) = true) : i < n := by
 have := of_decide_eq_true h; omega
theorem Li {i n : Nat} (h : decide ((i : Int) < (n : Int)) = false) : n ≤ i := by
 have := of_decide_eq_false h; omega
theorem qF {α β : Type} {f : α → β} {xs : List α} {i : Nat} {j : Int} (hj : j = (i : Int)) (h : i < xs.length) : (xs.map f)[j.toNat]? = some (f xs[i]) := by
 subst hj; simp [h]
theorem oI {i : Nat} (h : 0 < i) (h2 : i ≤ 9223372036854775807) : IntKind.i64.wrap ((i : Int) - 1) = ((i - 1 : Nat) : Int) := by
 simp only [IntKind.wrap, IntKind.bits, IntKind.signed]; simp; omega
/- The program logic's rules: a local box is known for ever from now on; maps of one's own. No condition. -/
section
variable {N : Nat} {s : St}
def CU (k : Nat) (cs : List AV) : Sv → Sv
 | .lp j o => if j = k then .v (.kp (cs.drop o)) else .lp j o
 | x => x
def me (k : Nat) (cs : List AV) : CV → CV
 | .sv x => .sv (CU k cs x)
 | v => v
def wa (k : Nat) (cs : List AV) : St → St
 | [] => []
 | (c, v) :: s => (c, (if c = .b k then .gone else me k cs v)) :: wa k cs s
theorem yG {k : Nat} {cs : List AV} : ∀ {s : St} (c : aM), get (wa k cs s) c = (get s c).map (fun v => if c = .b k then .gone else me k cs v)
 | [], c => by simp [wa, get]
 | (d, v) :: s, c => by
  simp only [wa, get]
  split
  ·rename_i e; subst e; rfl
  ·exact yG c
theorem Rel.wa {E : de} {G : Gh} {L : Loc} {a : Act} {w : World} (h : Rel E N G L a w s) {k : Nat} {l : List Sv} {cs : List AV} (hk : get s (.b k) = some (.bx l)) (hcs : mE l = some cs) : ∃ G', Rel E N G' L a w (wa k cs s) := by
 obtain ⟨blk, o, hb, hbase, hh, ⟨arr, el, rfl, hsz, hc⟩, hno, _⟩ := h.box k _ hk rfl
 have hmine : owns s L (.b k) blk := ⟨⟨_, hk, rfl⟩, hb⟩
 obtain ⟨hl1, hl2⟩ := rA hcs
 let G' := G.add blk arr.toList
 have hle : G.le G' := Gh.qf (fun o v e => by rw [hno o] at e; cases e)
 have hcell : ∀ (j : Nat) c, cs[j]? = some c → c.flat = true ∧ V G (arr.getD j undef) c := fun j c e => by
  obtain ⟨y, hy, hav⟩ := hl2 j c e
  exact ⟨ya (hc j y hy).1 hav, (hc j y hy).2.av hav⟩
 have hkn2 : ∀ c j, c ≠ blk → G'.kn c j = G.kn c j := fun c j e => by simp [G', Gh.add, e]
 have hg := fun c => yG (k := k) (cs := cs) (s := s) c
 have hsv : ∀ v x, SV G L v x → SV G' L v (CU k cs x) := by
  intro v x hv
  cases x with
  | lp j n =>
   simp only [CU]
   split
   ·rename_i e; subst e
    obtain ⟨b2, h1, rfl⟩ := hv
    rw [hb] at h1; cases h1
    refine V.kp blk n (cs.drop n) (fun j => arr.getD (n + j) undef) (fun j c e => ?_) (fun j c e => ?_) (fun j c e => ?_)
    ·rw [List.getElem?_drop] at e
     have hlt : n + j < arr.size := by have := (List.getElem?_eq_some_iff.1 e).1; omega
     rw [n0, Array.getElem?_toList, Array.getElem?_eq_getElem hlt, Array.getD_eq_getD_getElem?, Array.getElem?_eq_getElem hlt]; rfl
    ·rw [List.getElem?_drop] at e; exact (hcell _ c e).1
    ·rw [List.getElem?_drop] at e; exact ((hcell _ c e).2).mono hle
   ·exact hv
  | v a => exact SV.mono hle hv
  | mv j o => exact hv
  | ow j ys => exact SV.mono hle hv
  | om j n => exact hv
  | ov j z l n => exact hv
  | ta j o => exact hv
  | mp j => exact hv
  | cd g b a => exact SV.mono hle hv
 have hlive : ∀ v, (me k cs v).live = v.live := by intro v; cases v <;> rfl
 have hown : ∀ c b, owns (X.wa k cs s) L c b → c ≠ .b k ∧ owns s L c b := by
  intro c b hc
  cases c with
  | b j =>
   obtain ⟨⟨cv, g, hl⟩, hb'⟩ := hc
   rw [hg] at g
   obtain ⟨v, q1, q2⟩ := Option.map_eq_some_iff.1 g
   split at q2
   ·subst q2; cases hl
   ·rename_i e
    subst q2
    exact ⟨e, ⟨v, q1, by rw [← hlive]; exact hl⟩, hb'⟩
  | t j =>
   obtain ⟨⟨m, el, esz, ys, g⟩, v, hv, hb'⟩ := hc
   rw [hg] at g
   obtain ⟨v2, q1, q2⟩ := Option.map_eq_some_iff.1 g
   simp only [reduceCtorEq, if_false] at q2
   have hv2 : v2 = .tk m el esz ys := by cases v2 <;> simp [me] at q2 <;> first | exact q2 | (obtain ⟨rfl, rfl, rfl, rfl⟩ := q2; rfl)
   subst hv2
   exact ⟨by simp, ⟨_, _, _, _, q1⟩, v, hv, hb'⟩
  | s n => exact hc.elim
  | h => exact hc.elim
 have hneb : ∀ c b, owns (X.wa k cs s) L c b → b ≠ blk := by
  rintro c b hc rfl
  obtain ⟨h1, h2⟩ := hown c _ hc
  exact h1 (h.disj c (.b k) _ h2 hmine)
 obtain ⟨H0, gH, hokH, hmayH⟩ := h.heap
 have hfb : ∀ c, ab G H0 w c → c ≠ blk := fun c hc e => h.hdisj _ _ hmine H0 gH (e ▸ hc)
 have hst := hokH.stay (w' := w) hle rfl (fun c hc o => (hkn2 c o (hfb c hc)).trans ((hokH.ab hc).2 o)) (fun c hc => rfl) (Nat.le_refl _)
 have hgh : ∀ H2, get (X.wa k cs s) .h = some (.hp H2) → get s .h = some (.hp H2) := by
  intro H2 g2
  rw [hg] at g2
  obtain ⟨v, q1, q2⟩ := Option.map_eq_some_iff.1 g2
  simp only [reduceCtorEq, if_false] at q2
  have hv2 : v = .hp H2 := by cases v <;> simp [me] at q2; exact congrArg _ q2
  rw [hv2] at q1; exact q1
 refine ⟨G', h.size, h.defs, h.ge, ?_, ?_, h.obs, h.obn, h.fr, ?_, ?_, ?_, fun c d b hc hd => h.disj c d b (hown _ _ hc).2 (hown _ _ hd).2, ⟨H0, by rw [hg]; simp [gH, me], hst.1, fun b hb => hmayH b ((hst.2 b).1 hb)⟩, fun c b hc H2 g2 e2 => ?_, ?_, ?_⟩
 ·intro b j v e
  by_cases eb : b = blk
  ·subst eb
   rw [n0] at e
   rw [cell_of_row w b j arr el (0, 0) hh]
   simpa using e
  ·rw [hkn2 b j eb] at e; exact h.kn b j v e
 ·intro b j hlt hm
  rw [hkn2 b j (fun e => by
   subst e
   rcases hbase with e | e
   ·omega
   ·exact hm e)]
  exact h.old b j hlt hm
 ·intro n x g
  rw [hg] at g
  obtain ⟨v, q1, q2⟩ := Option.map_eq_some_iff.1 g
  simp only [reduceCtorEq, if_false] at q2
  cases v <;> simp [me] at q2
  subst q2
  exact hsv _ _ (h.slot n _ q1)
 ·intro j cv g hl
  rw [hg] at g
  obtain ⟨v, q1, q2⟩ := Option.map_eq_some_iff.1 g
  split at q2
  ·subst q2; cases hl
  ·rename_i e
   subst q2
   rw [hlive] at hl
   have hne : ∀ b2, L.box j = some b2 → b2 ≠ blk := by
    rintro b2 p1 rfl
    exact e (h.disj (.b j) (.b k) _ ⟨⟨v, q1, hl⟩, p1⟩ hmine)
   have e1 : me k cs v = v := by cases v <;> first | rfl | cases hl
   rw [e1]
   exact (h.box j v q1 hl).stay hle (fun _ _ e => .inl ⟨_, e⟩) (fun _ _ => rfl) (fun b2 p1 o => hkn2 b2 o (hne b2 p1))
 ·intro j m el' esz' ys g
  rw [hg] at g
  obtain ⟨v2, q1, q2⟩ := Option.map_eq_some_iff.1 g
  simp only [reduceCtorEq, if_false] at q2
  have hv2 : v2 = .tk m el' esz' ys := by cases v2 <;> simp [me] at q2 <;> first | exact q2 | (obtain ⟨rfl, rfl, rfl, rfl⟩ := q2; rfl)
  subst hv2
  refine (h.tok j m el' esz' ys q1).stay hle (fun _ _ e => .inl ⟨_, e⟩) (fun _ _ _ _ => rfl) (fun v b2 hv hb2 o => hkn2 b2 o ?_)
  rintro rfl
  have := h.disj (.t j) (.b k) _ ⟨⟨_, _, _, _, q1⟩, v, hv, hb2⟩ hmine
  cases this
 ·have := hgh H2 g2
  rw [gH] at this; cases this
  have e3 := (hst.2 b).1 e2
  exact h.hdisj c b (hown _ _ hc).2 _ gH e3
 ·intro j g
  rw [hg] at g
  exact h.nobox j (by simpa using g)
 ·intro j g
  rw [hg] at g
  exact h.notok j (by simpa using g)
theorem Kept.wa {Q : St → Prop} (k : Nat) {l : List Sv} {cs : List AV} (hk : get s (.b k) = some (.bx l)) (hcs : mE l = some cs) (h : Kept (X.wa k cs s) Q) : Kept s Q := fun E N a w ⟨G, L, hr⟩ => by
 obtain ⟨G', hr'⟩ := hr.wa hk hcs
 exact h E N a w ⟨G', L, hr'⟩
end
/-! ### arrays as values -/
section
variable {P : Program} {N : Nat} {s : St} {d : Nat} {ty : TypeId} {pos : String} {af : Array Edge} {g : Option (Nat × Bool)}
def KR (P : Program) (t : TypeId) : Option (Nat × TypeId × Nat) :=
 match P.underlying t with
 | some (.array n e) => (P.info? e).map fun i => (n, e, i.size)
 | _ => none
theorem Et {t1 : TypeId} {ps : List (Nat × Operand)} {n sz : Nat} {e : TypeId} {zs : List AV} {qs : List (Nat × AV)} {r : List AV} (hN : d < N) (ht : KR P t1 = some (n, e, sz)) (hz : bf P t1 = some zs) (hq : jy ps s = some qs) (hf : iO (fun i => some (i * sz, sz)) zs qs = some r) :
  ae P N ⟨some d, .build t1 ps.toArray, ty, pos, af, g⟩ s (lv (ps.map (·.2))) [(.s d, .sv (.v (.agg r)))] :=
 ae.val rfl hN fun E G L a w t hr hR => by
  have hparts := j9 hr hR hq
  obtain ⟨i, z, hi, hzz, hrow0⟩ := qv hz
  have bj := hrow0 G
  obtain ⟨arr', hfill, hrow'⟩ := qS hparts bj hf
  unfold KR at ht
  split at ht
  ·rename_i n' e' hu
   obtain ⟨ie, hie, e2⟩ := Option.map_eq_some_iff.1 ht
   cases e2
   refine ⟨.agg arr', ?_, V.agg _ _ hrow'.1 (fun j c e => (hrow'.2 j c e).1) (fun j c e => (hrow'.2 j c e).2)⟩
   have hfill' : Instr.fill (fun i => some (i * ie.size, ie.size)) z.cells (List.map (fun (x : Nat × Operand) => (x.1, a.eval x.2)) ps) = some arr' := by
    simpa using hfill
   simp only [execOp, Instr.build, Sem.run_bind, zeroValue, sizeOf, typeInfo, run_program, Result.andThen_ok, hi, hie, Sem.run_pure, hzz, run_underlying hu, List.map_toArray]
   rw [hfill']
   rfl
  ·cases ht
theorem IB {t1 : TypeId} {x i : Operand} {n : Nat} {e : TypeId} {cs : List AV} {k : IntKind} {j : Int} {c : AV} (hN : d < N) (ht : KR P t1 = some (n, e, 1)) (hl : lk P e = some (false, 1)) (hx : cu x s = some (.agg cs)) (hi : cu i s = some (.int k j)) (h0 : 0 ≤ j) (h1 : j < n) (hc : cs[j.toNat]? = some c) :
  ae P N ⟨some d, .index t1 x i, ty, pos, af, g⟩ s (rd x ++ rd i) [(.s d, .sv (.v c))] :=
 ae.val rfl hN fun E G L a w t hr hR => by
  have hv := aU hr hR.left hx
  have hn := jw (aU hr hR.right hi)
  unfold KR at ht
  split at ht
  ·rename_i n' e' hu
   obtain ⟨ie, hie, e2⟩ := Option.map_eq_some_iff.1 ht
   simp only [Prod.mk.injEq] at e2
   obtain ⟨rfl, rfl, h1s⟩ := e2
   generalize hav : a.eval x = u at hv
   cases hv with
   | agg vs _ hsz hf hvv =>
    have hlt : j.toNat < vs.size := by rw [hsz]; exact (List.getElem?_eq_some_iff.1 hc).1
    refine ⟨vs.getD j.toNat undef, ?_, hvv _ c hc⟩
    obtain ⟨ha, _⟩ := nM hl w
    have hp : (part e' vs (j.toNat * ie.size)).run P w = .ok (vs.getD j.toNat undef) w := by
     unfold part
     simp only [Sem.run_bind, ha, Result.andThen_ok, h1s, Nat.mul_one, Array.getElem?_eq_getElem hlt, Array.getD_eq_getD_getElem?]
     rfl
    simp [execOp, hav, hn, Instr.index, asIntOf, run_underlying hu, h0, h1, sizeOf, typeInfo, hie, hp]
  ·cases ht
end
/-! ### maps of one's own, of texts to whole numbers -/
section
open Go.Maps Go.MapKept
open Go.WideElems (Fit rd rg pl rd_val elemAt)
open Go.ChangeMaps (notKey putKey setBlock heap_setBlock_same heap_setBlock_other)
def iP (P : Program) (kt et : TypeId) (n : Nat) (f : List UInt8 → Int) (o : Obj) : Prop :=
 ∃ es clock, o = .map es clock ∧ Fit P kt (plainElem (H := Unit) P et) es clock ∧ es.size ≤ n ∧ ∀ key : List UInt8, (DataW.map ((es.toList.map (rg P kt (plainElem (H := Unit) P et))).foldr DataW.insert [])).atKey (.string key) (.lit (.int .i64 0)) = .lit (.int .i64 (f key))
theorem iP.owns {P : Program} {kt et : TypeId} {n : Nat} {f : List UInt8 → Int} {o : Obj} {w : World} {b : Nat} (h : iP P kt et n f o) (hb : w.heap[b]? = some o) :
  ∃ D : DataW Unit, w.ownsMap P kt (plainElem P et) b n D ∧ ∀ key : List UInt8, D.atKey (.string key) (.lit (.int .i64 0)) = .lit (.int .i64 (f key)) := by
 obtain ⟨es, clock, rfl, F, hs, hf⟩ := h
 exact ⟨_, ⟨es, clock, hb, F, hs, rfl⟩, hf⟩
theorem An {P : Program} {kt : TypeId} (hk : P.underlying kt = some .string) {key : List UInt8} (hl : key.length ≤ 9223372036854775807) : keyOf P kt (.string ⟨key.toArray⟩) = some (.string key) := by
 have hm : (⟨key.toArray⟩ : ByteArray).size ≤ maxLen := by simp [ByteArray.size, maxLen]; omega
 unfold keyOf
 rw [hk]
 simp only [mapKey, hk, hm, if_true]
section
variable {P : Program} {N : Nat} {s : St} {d : Nat} {ty : TypeId} {pos : String} {af : Array Edge} {g : Option (Nat × Bool)}
theorem Hx {t1 kt et : TypeId} (hN : d < N) (hk : get s (.b d) = none) :
  ae P N ⟨some d, .makeMap t1 none, ty, pos, af, g⟩ s [.b d] [(.s d, .sv (.mp d)), (.b d, .raw (iP P kt et 0 fun _ => 0))] := by
 intro t hR E G L a w hr K Q hK
 have hk' : get t (.b d) = none := by rw [hR (.b d) (by simp)]; exact hk
 have hm : iP P kt et 0 (fun _ => 0) (.map #[] 0) := by
  refine ⟨#[], 0, rfl, ⟨by simp, stamped_empty 0, by simp⟩, Nat.le_refl _, fun key => rfl⟩
 have hr1 := hr.alloc d hk' (.map #[] 0) (.raw (iP P kt et 0 fun _ => 0)) rfl rfl hm
 unfold Oper.wp
 have he : (execOp a.eval ⟨some d, .makeMap t1 none, ty, pos, af, g⟩).run P w = .ok (.value (.map (some w.heap.size))) (w.alloc (.map #[] 0)) := by
  simp [execOp, Go.RowKit.run_makeMap, Option.map]
 rw [he]
 exact hK _ _ G _ (hr1.put d hN _ (.mp d) ⟨w.heap.size, by simp [Loc.bq], rfl⟩)
theorem B8 {t1 kt et : TypeId} {m x : Operand} {k n : Nat} {f : List UInt8 → Int} {key : List UInt8} (hN : d < N) (ht : P.underlying t1 = some (.map kt et)) (hkt : P.underlying kt = some .string) (he : P.underlying et = some (.int .i64)) (hz : ∀ w, (zeroValue et).run P w = .ok (.int .i64 0) w)
  (hx : iC m s = some (.mp k)) (hk : get s (.b k) = some (.raw (iP P kt et n f))) (hi : cu x s = some (.str key)) (hl : key.length ≤ 9223372036854775807) :
  ae P N ⟨some d, .lookup t1 m x false, ty, pos, af, g⟩ s (rd m ++ (rd x ++ [.b k])) [(.s d, .sv (.v (.int .i64 (f key))))] := by
 intro t hR E G L a w hr K Q hK
 obtain ⟨blk, hb, hv⟩ := bX hr hR.left hx
 have hi' := (aU hr hR.right.left hi).vc
 have hk' : get t (.b k) = some (.raw (iP P kt et n f)) := by rw [hR (.b k) (by simp)]; exact hk
 obtain ⟨blk', o, hb', hbase, hh, ho, hno⟩ := hr.box k _ hk' rfl
 rw [hb] at hb'; cases hb'
 have ho' : iP P kt et n f o := ho
 obtain ⟨D, hown, hD⟩ := ho'.owns hh
 obtain ⟨c, hrun, hat, _⟩ := hown.lookup_int (string_keyed hkt) ht he (hz w) (An hkt hl)
 rw [hD] at hat
 obtain rfl : f key = c := by injection hat with h; injection h
 unfold Oper.wp
 have hex : (execOp a.eval ⟨some d, .lookup t1 m x false, ty, pos, af, g⟩).run P w = .ok (.value (.int .i64 (f key))) w := by
  simp [execOp, hv, hi', hrun, Result.andThen]
 rw [hex]
 exact hK _ _ G L (hr.put d hN _ (.v (.int .i64 (f key))) (.int _ _))
theorem Hw {t1 kt et : TypeId} {m x y : Operand} {k n : Nat} {f : List UInt8 → Int} {key : List UInt8} {v : Int} (ht : P.underlying t1 = some (.map kt et)) (hkt : P.underlying kt = some .string) (he : P.underlying et = some (.int .i64))
  (hx : iC m s = some (.mp k)) (hk : get s (.b k) = some (.raw (iP P kt et n f))) (hi : cu x s = some (.str key)) (hy : cu y s = some (.int .i64 v)) (hl : key.length ≤ 9223372036854775807) (hn : n < 9223372036854775807) (hw : (Lit.int .i64 v).wf = true) :
  ae P N ⟨none, .mapUpdate t1 m x y, ty, pos, af, g⟩ s (rd m ++ (rd x ++ (rd y ++ [.b k]))) [(.b k, .raw (iP P kt et (n + 1) fun l => if l = key then v else f l))] := by
 intro t hR E G L a w hr K Q hK
 obtain ⟨blk, hb, hv⟩ := bX hr hR.left hx
 have hi' := (aU hr hR.right.left hi).vc
 have hy' := (aU hr hR.right.right.left hy).int_eq
 have hk' : get t (.b k) = some (.raw (iP P kt et n f)) := by rw [hR (.b k) (by simp)]; exact hk
 obtain ⟨blk', o, hb', hbase, hh, ho, hno⟩ := hr.box k _ hk' rfl
 rw [hb] at hb'; cases hb'
 have ho' : iP P kt et n f o := ho
 obtain ⟨es, clock, rfl, F, hs, hD⟩ := ho'
 have hroom : es.size < maxLen := by unfold maxLen; omega
 have hkey := An hkt hl
 have hR1 : plainElem (H := Unit) P et (.int .i64 v) = some (.lit (.int .i64 v), []) := plainElem_int he hw
 obtain ⟨es', clock', hrun, F', hput, _⟩ := Maps.fit_store (R' := plainElem (H := Unit) P et) (string_keyed hkt) ht hh F hroom (fun _ _ _ _ hz => hz) hkey hR1
 have hsz : es'.size ≤ n + 1 := by
  have e1 : es'.size = ((es'.toList.map (rg P kt (plainElem (H := Unit) P et))).foldr DataW.insert []).length := by rw [length_sorted]; simp
  rw [e1, hput]
  unfold putKey
  rw [length_insert]
  have e2 := List.length_filter_le (notKey (.string key)) ((es.toList.map (rg P kt (plainElem (H := Unit) P et))).foldr DataW.insert [])
  rw [length_sorted] at e2
  simp at e2
  omega
 have hm : iP P kt et (n + 1) (fun l => if l = key then v else f l) (.map es' clock') := by
  refine ⟨es', clock', rfl, F', hsz, fun l => ?_⟩
  rw [hput, ← DataW.put_eq]
  by_cases hlk : l = key
  ·subst hlk
   rw [atKey_put_same (k := .string l) ⟨_, rfl⟩ (by simp [WideAt.IsKeyLit])]
   simp
  ·rw [atKey_put_other (by intro e; injection e with e; exact hlk e), hD]
   simp [hlk]
 have hlt := (Array.getElem?_eq_some_iff.1 hh).1
 have hr1 := hr.J4 (w' := setBlock w blk (.map es' clock')) (cv := .raw (iP P kt et (n + 1) fun l => if l = key then v else f l)) hk' rfl rfl rfl hb (o := .map es' clock') hm rfl rfl rfl (by simp [setBlock]) (fun j hj => heap_setBlock_other hh _ hj) (heap_setBlock_same hh _)
 unfold Oper.wp
 have hex : (execOp a.eval ⟨none, .mapUpdate t1 m x y, ty, pos, af, g⟩).run P w = .ok .skip (setBlock w blk (.map es' clock')) := by
  simp [execOp, hv, hi', hy', hrun, Result.andThen]
 rw [hex]
 exact hK _ _ G L hr1
end
end
/- The program logic's rules: a call that makes objects and lets go of them leaves all others as they were; a closure that turns objects. No condition. -/
inductive bG (D : Nat → Prop) : AV → Prop where
 | bool (b : Bool) : bG D (.bool b)
 | int (k : IntKind) (n : Int) : bG D (.int k n)
 | str (s : List UInt8) : bG D (.str s)
 | sl (xs : List AV) (h : ∀ x ∈ xs, bG D x) : bG D (.sl xs)
 | agg (xs : List AV) (h : ∀ x ∈ xs, bG D x) : bG D (.agg xs)
 | tup (xs : List AV) (h : ∀ x ∈ xs, bG D x) : bG D (.tup xs)
 | nilp : bG D .nilp
 | nsl : bG D .nsl
 | sll (n : Nat) : bG D (.sll n)
 | kp (xs : List AV) (h : ∀ x ∈ xs, bG D x) : bG D (.kp xs)
 | op (id off : Nat) (h : D id) : bG D (.op id off)
 | os (id n c : Nat) (h : D id) : bG D (.os id n c)
 | fn (f : FuncId) (xs : List AV) (h : ∀ x ∈ xs, bG D x) : bG D (.fn f xs)
 | nilf : bG D .nilf
 | yf (l : Nat) : bG D (.yf l)
 | ifc (t : TypeId) (v : AV) (h : bG D v) : bG D (.ifc t v)
 | nili : bG D .nili
 | junk : bG D .junk
theorem gd {α : Type} {l : List α} {x : α} (h : x ∈ l) : ∃ i : Nat, l[i]? = some x := List.mem_iff_getElem?.1 h
theorem bG.xt {D : Nat → Prop} {e : AV} (h : ∀ c ∈ e.cells, bG D c) : bG D e := by
 by_cases hf : e.flat = true
 ·rw [AV.iK hf] at h
  exact h e (by simp)
 ·cases e with
  | agg cs => exact .agg cs h
  | tup vs => exact h _ (by simp [AV.cells])
  | _ => exact absurd rfl hf
theorem bG.xU {D : Nat → Prop} {e : AV} (h : bG D e) : ∀ c ∈ e.cells, bG D c := by
 intro c hc
 cases h with
 | agg cs hh => exact hh c hc
 | _ => simp [AV.cells] at hc; subst hc; constructor <;> assumption
theorem V.ops {G : Gh} {v : Value} {a : AV} (h : V G v a) : bG (fun id => ∃ b, G.ob id = some b) a := by
 induction h with
 | bool b => exact .bool b
 | int k n => exact .int k n
 | str s => exact .str s
 | junk v h => exact .junk
 | nilp => exact .nilp
 | nsl => exact .nsl
 | sll a n cap => exact .sll n
 | kp b off cs vs hk hf _ ih => exact .kp cs fun x hx => by obtain ⟨j, hj⟩ := gd hx; exact ih j x hj
 | op id off b e => exact .op id off ⟨b, e⟩
 | os id n s b c e hn hz => exact .os id n s ⟨b, e⟩
 | slE a cap => exact .sl [] (by simp)
 | slN b off cap esz xs vs hc he hk hf _ ih =>
  refine .sl xs fun x hx => ?_
  obtain ⟨i, hi⟩ := gd hx
  refine bG.xt fun c hc => ?_
  obtain ⟨j, hj⟩ := gd hc
  exact ih i x j c hi hj
 | agg vs cs hl hf _ ih => exact .agg cs fun x hx => by obtain ⟨j, hj⟩ := gd hx; exact ih j x hj
 | tup vs cs hl _ ih => exact .tup cs fun x hx => by obtain ⟨j, hj⟩ := gd hx; exact ih j x hj
 | fn f vs cs hl _ ih => exact .fn f cs fun x hx => by obtain ⟨j, hj⟩ := gd hx; exact ih j x hj
 | nilf => exact .nilf
 | yf l => exact .yf l
 | ifc t v a _ ih => exact .ifc t a ih
 | nili => exact .nili
theorem bG.mono {D D' : Nat → Prop} (hd : ∀ i, D i → D' i) {a : AV} (h : bG D a) : bG D' a := by
 induction h with
 | bool b => exact .bool b
 | int k n => exact .int k n
 | str s => exact .str s
 | sl xs _ ih => exact .sl xs ih
 | agg xs _ ih => exact .agg xs ih
 | tup xs _ ih => exact .tup xs ih
 | nilp => exact .nilp
 | nsl => exact .nsl
 | sll n => exact .sll n
 | kp xs _ ih => exact .kp xs ih
 | op id off h => exact .op id off (hd _ h)
 | os id n c h => exact .os id n c (hd _ h)
 | fn f xs _ ih => exact .fn f xs ih
 | nilf => exact .nilf
 | yf l => exact .yf l
 | ifc t v _ ih => exact .ifc t v ih
 | nili => exact .nili
 | junk => exact .junk
def Gh.res (G : Gh) (n : Nat) : Gh := ⟨G.kn, fun id => if id < n then G.ob id else none, G.sz⟩
theorem V.res {G : Gh} {n : Nat} {v : Value} {a : AV} (h : V G v a) (ho : bG (fun id => id < n) a) : V (G.res n) v a := by
 induction h with
 | bool b => exact .bool b
 | int k m => exact .int k m
 | str s => exact .str s
 | junk v h => exact .junk v h
 | nilp => exact .nilp
 | nsl => exact .nsl
 | sll a m cap => exact .sll a m cap
 | kp b off cs vs hk hf _ ih =>
  cases ho with
  | kp _ hh => exact .kp b off cs vs hk hf fun j c hj => ih j c hj (hh c (List.mem_of_getElem? hj))
 | op id off b e =>
  cases ho with
  | op _ _ hh => exact .op id off b (by simp [Gh.res, hh, e])
 | os id n s b c e hn hz =>
  cases ho with
  | os _ _ _ hh => exact .os id n s b c (by simp [Gh.res, hh, e]) hn hz
 | slE a cap => exact .slE a cap
 | slN b off cap esz xs vs hc he hk hf _ ih =>
  cases ho with
  | sl _ hh => exact .slN b off cap esz xs vs hc he hk hf fun i e j c hi hj => ih i e j c hi hj ((hh e (List.mem_of_getElem? hi)).xU c (List.mem_of_getElem? hj))
 | agg vs cs hl hf _ ih =>
  cases ho with
  | agg _ hh => exact .agg vs cs hl hf fun j c hj => ih j c hj (hh c (List.mem_of_getElem? hj))
 | tup vs cs hl _ ih =>
  cases ho with
  | tup _ hh => exact .tup vs cs hl fun j c hj => ih j c hj (hh c (List.mem_of_getElem? hj))
 | fn f vs cs hl _ ih =>
  cases ho with
  | fn _ _ hh => exact .fn f vs cs hl fun j c hj => ih j c hj (hh c (List.mem_of_getElem? hj))
 | nilf => exact .nilf
 | yf l => exact .yf l
 | ifc t v a _ ih =>
  cases ho with
  | ifc _ _ hh => exact .ifc t v a (ih hh)
 | nili => exact .nili
theorem cc.je {P : Program} {f : FuncId} {fn : Func} {c : Code} {N : Nat} {args : List AV} {H : Hp} {r : AV} (hf : P.funcs[f]? = some fn) (hb : fn.body = some c) (hN : fn.ntmps = N) (hle : args.length ≤ N) (hro : bG (fun id => id < H.next) r)
  (h : aC P N c ((.h, .hp H) :: ep args 0) fun e s' => (e = .normal ∨ e = .ret) ∧ aE P fn s' r ∧ ∃ H', get s' .h = some (.hp H') ∧ H.next ≤ H'.next ∧ ∀ i, i < H.next → H'.obj i = H.obj i) : cc P f args H r H := by
 intro G w cargs hg hk hH hV
 refine calls_of_wp hf hb ?_
 have h0 := rb hN hle hg hk hH hV
 refine wp_mono (h ⟨G, w, ab G H w, []⟩ _ w h0) ?_
 rintro e a' w' ⟨s', ⟨G', L', hr⟩, he, hres, H', hh, hnx, hobj⟩
 obtain ⟨v, hv, hV'⟩ := hres _ _ _ _ _ _ hr
 obtain ⟨H2, g, hok, hmay⟩ := hr.heap
 rw [hh] at g; cases g
 have hlt : ∀ id b, G.ob id = some b → id < H.next := fun id b e => (hH.lt id b e).1
 have hres1 : ∀ id, id < H.next → (G'.res H.next).ob id = G'.ob id := fun id h => by simp [Gh.res, h]
 have hres2 : ∀ id b, (G'.res H.next).ob id = some b → id < H.next ∧ G'.ob id = some b := fun id b h => by
  simp only [Gh.res] at h
  split at h
  ·exact ⟨by assumption, h⟩
  ·cases h
 have hop : ∀ {u : Value} {a : AV}, V G u a → bG (fun id => id < H.next) a := fun hu => hu.ops.mono fun id ⟨b, e⟩ => hlt id b e
 have hidl : ∀ id cs, H.obj id = some cs → id < H.next := fun id cs e => by
  obtain ⟨blk, _, _, q1, _⟩ := hH.obj id cs e
  exact hlt id blk q1
 have bj : ∀ id j b, bj (G'.res H.next) H w' id j b → bj G' H' w' id j b := by
  rintro id j b ⟨cs, el, esz, xs, b0, arr, t, fr, h1, h2, h3, h4, h5⟩
  exact ⟨cs, el, esz, xs, b0, arr, t, fr, by rw [hobj id (hidl id cs h1)]; exact h1, h2, (hres2 _ _ h3).2, h4, h5⟩
 have hfoot : ∀ b, ab (G'.res H.next) H w' b → ab G' H' w' b := by
  rintro b (⟨id, ⟨cs, h1⟩, h2⟩ | ⟨id, j, h1⟩)
  ·exact .inl ⟨id, ⟨cs, by rw [hobj id (hidl id cs h1)]; exact h1⟩, (hres2 _ _ h2).2⟩
  ·exact .inr ⟨id, j, bj _ _ _ h1⟩
 have hHp : dX (G'.res H.next) w' H := by
  refine ⟨fun id b e => ⟨(hres2 id b e).1, (hok.lt id b (hres2 id b e).2).2⟩, fun id id' b e e' ⟨c, k⟩ ⟨c', k'⟩ => hok.inj id id' b (hres2 _ _ e).2 (hres2 _ _ e').2 ⟨c, by rw [hobj id (hidl id c k)]; exact k⟩ ⟨c', by rw [hobj id' (hidl id' c' k')]; exact k'⟩, fun id cs e => ?_, fun id j blk hh' => ?_⟩
  ·obtain ⟨blk, arr, el, q1, q2, q3, q4, q5⟩ := hok.obj id cs (by rw [hobj id (hidl id cs e)]; exact e)
   obtain ⟨blk0, arr0, el0, p1, p2, p3, p4, p5⟩ := hH.obj id cs e
   refine ⟨blk, arr, el, by rw [hres1 id (hidl id cs e)]; exact q1, q2, q3, fun j x hx => ?_, q5⟩
   have hq := q4 j x hx
   have hp := p4 j x hx
   cases x with
   | v a => exact ⟨hq.1, hq.2.res (hop hp.2)⟩
   | row el2 esz xs =>
    have hq' : eu G' w' true el2 esz (arr.getD j undef) xs := hq
    have hp' : eu G w true el2 esz (arr0.getD j undef) xs := hp
    obtain ⟨cells, k1, k2, k3, k4, k5⟩ := hq'
    obtain ⟨cells0, _, _, _, l4, _⟩ := hp'
    exact ⟨cells, (fun e => by cases e), k2, k3, ⟨k4.1, fun i e j c a b => ⟨(k4.2 i e j c a b).1, (k4.2 i e j c a b).2.res (hop (l4.2 i e j c a b).2)⟩⟩, k5⟩
  ·obtain ⟨q1, q2⟩ := hok.apart id j blk (bj _ _ _ hh')
   exact ⟨fun id' e => q1 id' (hres2 _ _ e).2, fun id' j' h2 => q2 id' j' (bj _ _ _ h2)⟩
 have hpost : ∃ v2 G'', Ending.returned v = .returned v2 ∧ V G'' v2 r ∧ ln (ab G H w) G G'' w ∧ ew G'' w' ∧ dX G'' w' H ∧ Fr (ab G H w) w w' ∧ ∀ b, ab G'' H w' b → w.heap.size ≤ b ∨ ab G H w b :=
  ⟨v, G'.res H.next, rfl, hV'.res hro, ⟨hr.old, fun id b e => ⟨by rw [hres1 id (hlt id b e)]; exact (hr.obs id b e).1, (hr.obs id b e).2⟩, fun id b e => hr.obn id b (hres2 id b e).2⟩, hr.kn, hHp, hr.fr, fun b hb => hmay b (hfoot b hb)⟩
 rcases he with rfl | rfl
 ·exact ⟨hr.defs, v, hv, hpost⟩
 ·exact ⟨hr.defs, v, hv, hpost⟩
section
variable {P : Program} {N : Nat} {s : St} {d : Nat} {ty : TypeId} {pos : String} {af : Array Edge} {g : Option (Nat × Bool)}
theorem rS {x : Operand} {f : FuncId} {xs : Array Operand} {tys : Array TypeId} {«as» caps : List AV} {r : AV} {H H' : Hp} (hN : d < N) (hf : aa P f = true) (hx : cu x s = some (.fn f caps)) (hH : get s .h = some (.hp H)) (ha : lB xs.toList s = some «as») (hp : cc P f («as» ++ caps) H r H') :
  ae P N ⟨some d, .call { callee := .value x, args := xs, argTypes := tys }, ty, pos, af, g⟩ s ((rd x ++ lv xs.toList) ++ [.h]) [(.s d, .sv (.v r)), (.h, .hp H')] :=
 vC hp rfl hN hH (rh hf hx ha)
end
/- The program logic's rules: calls that panic, and what is around them. No condition. -/
section
variable {P : Program} {N : Nat} {ops : Array Oper} {l : List Oper} {s : St} {Q : Exit → St → Prop} {o : Oper} {R : List aM}
variable {d : Nat} {ty : TypeId} {pos : String} {af : Array Edge} {dst : Option Tmp}
end
/- The program logic's rules: a function that defers one call of a closure, and what that closure does when the function ends. No condition. -/
section
variable {P : Program} {N : Nat} {ops : Array Oper} {l : List Oper} {s : St} {Q : FuncId → List AV → St → Prop} {o : Oper} {R : List aM}
variable {ty : TypeId} {pos : String} {af : Array Edge}
end
def o7 (E : de) (r : AV) (H' : Hp) : Ending → World → Prop := fun e w' =>
 ∃ v G', e = .returned v ∧ V G' v r ∧ ln E.M E.G0 G' E.w0 ∧ ew G' w' ∧ dX G' w' H' ∧ Fr E.M E.w0 w' ∧ ∀ b, ab G' H' w' b → E.w0.heap.size ≤ b ∨ E.M b
section
variable {P : Program} {N : Nat} {fn : Func} {s : St} {r : AV} {H' : Hp}
end
/- The program logic's rules: what a deferred closure does: recover. No condition. -/
section
variable {P : Program} {N : Nat} {ops : Array Oper} {l : List Oper} {s : St} {u : FrameMode} {Q : FrameMode → St → Prop} {o : Oper} {R : List aM} {d : Nat} {ty : TypeId} {pos : String} {af : Array Edge}
end
/- The program logic's rules: functions that answer, or give up, as a grammar says. No condition. -/
inductive PR (α : Type) where
 | ok (a : α) (i : Nat)
 | bad (i : Nat)
section
variable {α : Type} {P : Program} {f : FuncId} {args : List AV} {Hat : Nat → Hp} {av : α → AV} {pv : Nat → Value} {i j : Nat} {r : PR α} {a : α}
end
section
variable {P : Program} {N : Nat} {ops : Array Oper} {l : List Oper} {s : St} {Q : Exit → St → Prop}
variable {o : Oper} {R : List aM}
end
/- The data that the program speaks of: schemas, trees, steps; what stands for them. No condition. -/
abbrev aw := List UInt8
def jj (n : Int) : AV := .int .i64 n
structure ag where
 name : aw
 num : Int
 ty : Int
 ref : aw
 rep : Bool
 loose : Bool
 one : aw
 deriving DecidableEq, Inhabited
def ag.cells (f : ag) : List AV := [.str f.name, .int .i64 f.num, .int .i64 f.ty, .str f.ref, .bool f.rep, .bool f.loose, .str f.one]
def ag.av (f : ag) : AV := .agg f.cells
structure aT where
 name : aw
 fields : List ag
 aj : List Int
 deriving DecidableEq, Inhabited
def aT.cells (m : aT) : List AV := [.str m.name, .sl (m.fields.map ag.av), .sl (m.aj.map jj)]
def aT.av (m : aT) : AV := .agg m.cells
structure jX where
 name : aw
 num : Int
 deriving DecidableEq, Inhabited
def jX.cells (v : jX) : List AV := [.str v.name, .int .i64 v.num]
def jX.av (v : jX) : AV := .agg v.cells
structure dk where
 name : aw
 values : List jX
 deriving DecidableEq, Inhabited
def dk.cells (e : dk) : List AV := [.str e.name, .sl (e.values.map jX.av)]
def dk.av (e : dk) : AV := .agg e.cells
structure aN where
 enums : List dk
 msgs : List aT
 deriving DecidableEq, Inhabited
def aN.cells (s : aN) : List AV := [.sl (s.enums.map dk.av), .sl (s.msgs.map aT.av)]
def aN.av (s : aN) : AV := .agg s.cells
structure Rw where
 num : Int
 wire : Int
 n : Nat
 s : aw
 deriving DecidableEq, Inhabited
def Rw.cells (r : Rw) : List AV := [.int .i64 r.num, .int .i64 r.wire, .int .u64 (r.n : Int), .str r.s]
def Rw.av (r : Rw) : AV := .agg r.cells
mutual
inductive bD where
 | mk (n : Nat) (s : aw) (m : List Tree)
inductive Slot where
 | mk (num : Int) (ah : List bD)
inductive Tree where
 | mk (aO : List Slot) (rest : List Rw)
end
instance : Inhabited Tree := ⟨.mk [] []⟩
instance : Inhabited bD := ⟨.mk 0 [] []⟩
instance : Inhabited Slot := ⟨.mk 0 []⟩
def bD.n : bD → Nat | .mk n _ _ => n
def bD.s : bD → aw | .mk _ s _ => s
def bD.m : bD → List Tree | .mk _ _ m => m
def Slot.num : Slot → Int | .mk n _ => n
def Slot.ah : Slot → List bD | .mk _ v => v
def Tree.aO : Tree → List Slot | .mk s _ => s
def Tree.rest : Tree → List Rw | .mk _ r => r
mutual
def bD.av : bD → AV
 | .mk n s m => .agg [.int .u64 (n : Int), .str s, .sl (gV m)]
def Slot.av : Slot → AV
 | .mk n vs => .agg [.int .i64 n, .sl (j1 vs)]
def Tree.av : Tree → AV
 | .mk ss r => .agg [.sl (iV ss), .sl (r.map Rw.av)]
def gV : List Tree → List AV
 | [] => []
 | t :: l => t.av :: gV l
def j1 : List bD → List AV
 | [] => []
 | v :: l => v.av :: j1 l
def iV : List Slot → List AV
 | [] => []
 | s :: l => s.av :: iV l
end
theorem te (l : List Tree) : gV l = l.map Tree.av := by induction l with | nil => simp [gV] | cons t l ih => simp [gV, ih]
theorem vX (l : List bD) : j1 l = l.map bD.av := by induction l with | nil => simp [j1] | cons t l ih => simp [j1, ih]
theorem tn (l : List Slot) : iV l = l.map Slot.av := by induction l with | nil => simp [iV] | cons t l ih => simp [iV, ih]
def bD.cells (v : bD) : List AV := [.int .u64 (v.n : Int), .str v.s, .sl (v.m.map Tree.av)]
def Slot.cells (x : Slot) : List AV := [.int .i64 x.num, .sl (x.ah.map bD.av)]
def Tree.cells (t : Tree) : List AV := [.sl (t.aO.map Slot.av), .sl (t.rest.map Rw.av)]
theorem bD.au (v : bD) : v.av = .agg v.cells := by cases v; simp [bD.av, bD.cells, bD.n, bD.s, bD.m, te]
theorem Slot.au (v : Slot) : v.av = .agg v.cells := by cases v; simp [Slot.av, Slot.cells, Slot.num, Slot.ah, vX]
theorem Tree.au (v : Tree) : v.av = .agg v.cells := by cases v; simp [Tree.av, Tree.cells, Tree.aO, Tree.rest, tn]
structure aS where
 kind : Int
 msg : aw
 field : aw
 dest : aw
 also : aw
 num : Int
 other : Int
 ty : Int
 names : List aw
 dv : bD
 deriving Inhabited
def aS.cells (x : aS) : List AV := [.int .i64 x.kind, .str x.msg, .str x.field, .str x.dest, .str x.also, .int .i64 x.num, .int .i64 x.other, .int .i64 x.ty, .sl (x.names.map .str), .int .u64 (x.dv.n : Int), .str x.dv.s, .sl (x.dv.m.map Tree.av)]
def aS.av (x : aS) : AV := .agg x.cells
theorem cU {α : Type} {f : α → AV} {c : α → List AV} {xs : List α} {i : Nat} (he : ∀ x, f x = .agg (c x)) (h : i < xs.length) : (xs.map f)[((i : Nat) : Int).toNat]? = some (.agg (c xs[i])) := by
 simp [h, he]
theorem G8 {α : Type} {f : α → AV} {c : α → List AV} {xs : List α} {i : Nat} {j : Int} (he : ∀ x, f x = .agg (c x)) (hj : j = (i : Int)) (h : i < xs.length) : (xs.map f)[j.toNat]? = some (.agg (c xs[i])) := by
 subst hj; simp [h, he]
/- What the lexer's functions compute, in plain Lean. No condition. -/
structure Tk where
 k : Nat
 s : List UInt8
 n : Nat
 neg : Bool
 pos : Nat
 deriving DecidableEq
open Go Go.RowKit Go.Proofs
/- Plain laws: names, numbers of fields, types, fields, schemas, as the document defines them. No condition. -/
theorem mixed : Tryz.prog.follows .mixedOrders = true := by kernel_rfl
def bS {α : Type} (p : α → Bool) : List α → Nat → Int
 | [], _ => -1
 | a :: l, i => if p a then i else bS p l (i + 1)
theorem cQ {α : Type} {p : α → Bool} {l : List α} {i : Nat} (h : i < l.length) : bS p (l.drop i) i = if p l[i] then (i : Int) else bS p (l.drop (i + 1)) (i + 1) := by
 rw [List.drop_eq_getElem_cons h]; rfl
theorem dd {α : Type} {p : α → Bool} {l : List α} {i : Nat} (h : l.length ≤ i) : bS p (l.drop i) i = -1 := by
 rw [List.drop_of_length_le h]; rfl
theorem gA {α : Type} {p : α → Bool} {l : List α} {i : Nat} (h : i < l.length) : (l.drop i).all p = (p l[i] && (l.drop (i + 1)).all p) := by
 rw [List.drop_eq_getElem_cons h]; rfl
theorem jo {α : Type} {p : α → Bool} {l : List α} {i : Nat} (h : l.length ≤ i) : (l.drop i).all p = true := by
 rw [List.drop_of_length_le h]; rfl
theorem bb {α : Type} {p : α → Bool} {l : List α} {i : Nat} (h : i < l.length) : (l.drop i).any p = (p l[i] || (l.drop (i + 1)).any p) := by
 rw [List.drop_eq_getElem_cons h]; rfl
theorem cE {α : Type} {p : α → Bool} {l : List α} {i : Nat} (h : l.length ≤ i) : (l.drop i).any p = false := by
 rw [List.drop_of_length_le h]; rfl
theorem du {α : Type} {l : List α} {i : Nat} {f : α → AV} {acc : List AV} (h : i < l.length) (ha : acc = (l.take i).map f) : acc ++ [f l[i]] = (l.take (i + 1)).map f := by
 rw [ha, List.take_succ_eq_append_getElem h, List.map_append]; rfl
theorem yx {α : Type} {l : List α} {i : Nat} {f : α → AV} {acc l0 : List AV} (h : i < l.length) (ha : acc = l0 ++ (l.take i).map f) : acc ++ [f l[i]] = l0 ++ (l.take (i + 1)).map f := by
 rw [ha, List.take_succ_eq_append_getElem h, List.map_append, List.append_assoc]; rfl
theorem fv {α : Type} {l : List α} {i : Nat} (h : l.length ≤ i) : l.take i = l := List.take_of_length_le h
theorem Pure.at {P : Program} {f : FuncId} {a a' : List AV} {r : AV} (h : Pure P f a r) (e : a' = a) : Pure P f a' r := e ▸ h
theorem rV {α : Type} (f : α → aw) (l : List α) : c4 1 (l.map fun x => AV.str (f x)) = true := by
 simp [c4, AV.cells, AV.flat]
theorem cZ {α : Type} (k : IntKind) (f : α → Int) (l : List α) : c4 1 (l.map fun x => AV.int k (f x)) = true := by
 simp [c4, AV.cells, AV.flat]
theorem bn {α : Type} {n : Nat} (f : α → List AV) (hn : ∀ x, (f x).length = n) (l : List α) : c4 n (l.map fun x => AV.agg (f x)) = true := by
 simp [c4, AV.cells, hn]
theorem LK {α : Type} {f : α → AV} {xs : List α} {c : List AV} {i : Nat} (h : c = xs.map f) (hi : i < xs.length) : c[((i : Nat) : Int).toNat]? = some (f xs[i]) := by
 subst h; exact cF hi
theorem KB {α : Type} {f : α → AV} {xs : List α} {c : List AV} {i : Nat} {j : Int} (hj : j = (i : Int)) (h : c = xs.map f) (hi : i < xs.length) : c[j.toNat]? = some (f xs[i]) := by
 subst h; subst hj; exact cF hi
theorem headD_map {α β : Type} {f : α → β} {l : List α} {d : β} (h : 0 < l.length) : (l.map f).headD d = f l[0] := by
 cases l with
 | nil => simp at h
 | cons a l => rfl
theorem zw {α β : Type} {f : α → β} {l : List α} {d : β} (h : 0 < l.length) : (l.map f).getLastD d = f (l[l.length - 1]'(by omega)) := by
 rw [List.getLastD_eq_getLast?, List.getLast?_map, List.getLast?_eq_getElem?, List.getElem?_eq_getElem (by omega)]; rfl
theorem AF {α : Type} {l : List α} {d : α} (h : 0 < l.length) : l.headD d = l[0] := by
 cases l with
 | nil => simp at h
 | cons a l => rfl
theorem zx {α : Type} {l : List α} {d : α} (h : 0 < l.length) : l.getLastD d = l[l.length - 1]'(by omega) := by
 rw [List.getLastD_eq_getLast?, List.getLast?_eq_getElem?, List.getElem?_eq_getElem (by omega)]; rfl
theorem v8 {α : Type} (l : List α) : (l.take (0 + 1)).drop 1 = [] := by cases l <;> simp
theorem v7 {α : Type} {l : List α} {i : Nat} (h0 : 0 < i) (h : i < l.length) : (l.take (i + 1)).drop 1 = (l.take i).drop 1 ++ [l[i]] := by
 rw [List.take_succ_eq_append_getElem h, List.drop_append_of_le_length (by rw [List.length_take]; omega)]
/-! ### names -/
def letter (c : UInt8) : Bool := (decide (97 ≤ c.toNat) && decide (c.toNat ≤ 122)) || (decide (65 ≤ c.toNat) && decide (c.toNat ≤ 90))
def vR (c : UInt8) : Bool := letter c || (decide (48 ≤ c.toNat) && decide (c.toNat ≤ 57)) || decide (c.toNat = 95)
def mw : List aw := [[101, 110, 117, 109], [109, 101, 115, 115, 97, 103, 101], [111, 110, 101, 111, 102], [114, 101, 112, 101, 97, 116, 101, 100], [114, 101, 115, 101, 114, 118, 101, 100], [108, 111, 111, 115, 101], [105, 110, 116, 51, 50], [105, 110, 116, 54, 52], [117, 105, 110, 116, 51, 50], [117, 105, 110, 116, 54, 52], [115, 105, 110, 116, 51, 50], [115, 105, 110, 116, 54, 52], [98, 111, 111, 108], [102, 105, 120, 101, 100, 51, 50], [102, 105, 120, 101, 100, 54, 52], [115, 102, 105, 120, 101, 100, 51, 50], [115, 102, 105, 120, 101, 100, 54, 52], [115, 116, 114, 105, 110, 103], [98, 121, 116, 101, 115], [114, 101, 110, 97, 109, 101], [114, 101, 110, 117, 109, 98, 101, 114], [114, 101, 116, 121, 112, 101], [115, 112, 108, 105, 116], [106, 111, 105, 110], [119, 114, 97, 112], [117, 110, 119, 114, 97, 112], [97, 100, 100], [100, 114, 111, 112], [116, 111], [105, 110, 116, 111], [97, 115], [111, 102], [100, 101, 102, 97, 117, 108, 116], [116, 114, 117, 101], [102, 97, 108, 115, 101]]
def aq (s : aw) : Bool := decide (1 ≤ s.length) && decide (s.length ≤ 12) && letter (s.headD 0) && s.all vR && mw.all (fun w => !(w == s))
def fG (l : List aw) : List aw → Nat → Bool
 | [], _ => true
 | a :: r, i => !((l.take i).any fun b => a == b) && fG l r (i + 1)
def once (l : List aw) : Bool := fG l l 0
def kH : List aw → Bool
 | a :: b :: l => !(!lF a b) && kH (b :: l)
 | _ => true
def ek : List Int → Bool
 | a :: b :: l => decide (a < b) && ek (b :: l)
 | _ => true
theorem qm {l : List aw} {i : Nat} (h : i < l.length) : fG l (l.drop i) i = (!((l.take i).any fun b => l[i] == b) && fG l (l.drop (i + 1)) (i + 1)) := by
 rw [List.drop_eq_getElem_cons h]; rfl
theorem sg {l : List aw} {i : Nat} (h : l.length ≤ i) : fG l (l.drop i) i = true := by
 rw [List.drop_of_length_le h]; rfl
theorem vq {l : List Int} {i : Nat} (h0 : 0 < i) (h : i < l.length) : ek (l.drop (i - 1)) = (decide (l[i - 1] < l[i]) && ek (l.drop (i + 1 - 1))) := by
 obtain ⟨k, rfl⟩ : ∃ k, i = k + 1 := ⟨i - 1, by omega⟩
 simp only [Nat.add_sub_cancel]
 rw [List.drop_eq_getElem_cons (show k < l.length by omega), List.drop_eq_getElem_cons h]
 rfl
theorem zH {l : List Int} {i : Nat} (h0 : 0 < i) (h : l.length ≤ i) : ek (l.drop (i - 1)) = true := by
 obtain ⟨k, rfl⟩ : ∃ k, i = k + 1 := ⟨i - 1, by omega⟩
 simp only [Nat.add_sub_cancel]
 by_cases hk : k < l.length
 ·rw [List.drop_eq_getElem_cons hk, List.drop_of_length_le h]; rfl
 ·rw [List.drop_of_length_le (by omega)]; rfl
theorem vr {l : List aw} {i : Nat} (h0 : 0 < i) (h : i < l.length) : kH (l.drop (i - 1)) = (!(!lF l[i - 1] l[i]) && kH (l.drop (i + 1 - 1))) := by
 obtain ⟨k, rfl⟩ : ∃ k, i = k + 1 := ⟨i - 1, by omega⟩
 simp only [Nat.add_sub_cancel]
 rw [List.drop_eq_getElem_cons (show k < l.length by omega), List.drop_eq_getElem_cons h]
 rfl
theorem zI {l : List aw} {i : Nat} (h0 : 0 < i) (h : l.length ≤ i) : kH (l.drop (i - 1)) = true := by
 obtain ⟨k, rfl⟩ : ∃ k, i = k + 1 := ⟨i - 1, by omega⟩
 simp only [Nat.add_sub_cancel]
 by_cases hk : k < l.length
 ·rw [List.drop_eq_getElem_cons hk, List.drop_of_length_le h]; rfl
 ·rw [List.drop_of_length_le (by omega)]; rfl
/-! ### numbers and types -/
def oH (n : Int) : Bool := decide (1 ≤ n) && decide (n ≤ 536870911) && (decide (n < 19000) || decide (19999 < n))
def iT (n w : Int) : Bool := decide (1 ≤ n) && decide (n ≤ 536870911) && (decide (w = 0) || decide (w = 1) || decide (w = 2) || decide (w = 5))
def cK (t : Int) : Bool := (decide (1 ≤ t) && decide (t ≤ 6)) || (decide (8 ≤ t) && decide (t ≤ 11))
def nJ (t : Int) : Bool := cK t || decide (t = 7) || decide (t = 14)
def dw (t : Int) : Bool := decide (t = 1) || decide (t = 2) || decide (t = 5) || decide (t = 6) || decide (t = 10) || decide (t = 11) || decide (t = 14)
def gK (t : Int) : Bool := decide (t = 2) || decide (t = 4) || decide (t = 6) || decide (t = 9) || decide (t = 11)
/-! ### fields and schemas -/
def ag.gC (f : ag) : Int :=
 if !aq f.name || (!(f.one == []) && !aq f.one) then 2
 else if (f.ty = 14 ∨ f.ty = 15) ∧ aq f.ref = false then 2
 else if ¬ (f.ty = 14 ∨ f.ty = 15) ∧ (f.ref == []) = false then 2
 else if !oH f.num || decide (f.ty < 1) || decide (15 < f.ty) || (f.rep && !(f.one == [])) then 1
 else if f.loose && (!f.rep || !nJ f.ty) then 1
 else 0
def aN.many (s : aN) : Bool := decide (3 < s.enums.length) || decide (6 < s.msgs.length) || s.enums.any (fun e => decide (8 < e.values.length)) || s.msgs.any (fun m => decide (10 < m.fields.length) || decide (8 < m.aj.length))
def aN.none (s : aN) : Bool := decide (s.msgs.length = 0) || s.enums.any (fun e => decide (e.values.length = 0))
def aN.text (s : aN) : Bool := s.enums.any (fun e => !aq e.name || e.values.any (fun v => !aq v.name)) || s.msgs.any (fun m => !aq m.name)
def cx : List ag → Int
 | [] => 0
 | f :: l => if f.gC = 0 then cx l else f.gC
def ed : List aT → Int
 | [] => 0
 | m :: l => if cx m.fields = 0 then ed l else cx m.fields
theorem qV {l : List ag} {i : Nat} (h : i < l.length) : cx (l.drop i) = if l[i].gC = 0 then cx (l.drop (i + 1)) else l[i].gC := by
 rw [List.drop_eq_getElem_cons h]; rfl
theorem qp {l : List ag} {i : Nat} (h : l.length ≤ i) : cx (l.drop i) = 0 := by
 rw [List.drop_of_length_le h]; rfl
theorem tH {l : List aT} {i : Nat} (h : i < l.length) : ed (l.drop i) = if cx l[i].fields = 0 then ed (l.drop (i + 1)) else cx l[i].fields := by
 rw [List.drop_eq_getElem_cons h]; rfl
theorem uq {l : List aT} {i : Nat} (h : l.length ≤ i) : ed (l.drop i) = 0 := by
 rw [List.drop_of_length_le h]; rfl
def aT.iR (m : aT) : Bool := !once (m.fields.map (·.name)) || m.fields.any (fun f => !(f.one == []) && !once (m.fields.map (·.name) ++ [f.one]))
def aN.iR (s : aN) : Bool := s.enums.any (fun e => !once (e.values.map (·.name))) || s.msgs.any aT.iR || !once (s.enums.map (·.name) ++ s.msgs.map (·.name))
def dk.order (e : dk) : Bool := !ek (e.values.map (·.num)) || !decide ((e.values.map (·.num)).headD 0 = 0) || decide (1048576 < (e.values.map (·.num)).getLastD 0)
def aT.order (m : aT) : Bool := !ek (m.fields.map (·.num)) || !ek m.aj || (!(m.aj == []) && (decide (m.aj.headD 0 < 1) || decide (536870911 < m.aj.getLastD 0)))
def aN.order (s : aN) : Bool := s.enums.any dk.order || !kH (s.enums.map (·.name)) || s.msgs.any aT.order || !kH ((s.msgs.drop 1).map (·.name))
def aN.aj (s : aN) : Bool := s.msgs.any fun m => m.fields.any fun f => m.aj.any (· == f.num)
def aN.bJ (s : aN) (name : aw) : Int := bS (fun m : aT => m.name == name) s.msgs 0
def aN.eO (s : aN) (name : aw) : Int := bS (fun m : dk => m.name == name) s.enums 0
def aN.refs (s : aN) : Bool := s.msgs.any fun m => m.fields.any fun f => (decide (f.ty = 14) && decide (s.eO f.ref < 0)) || (decide (f.ty = 15) && decide (s.bJ f.ref < 0))
def aN.gC (s : aN) : Int :=
 if s.many then 4 else if s.none then 5 else if s.text then 2 else if ed s.msgs ≠ 0 then ed s.msgs else if s.iR then 6 else if s.order then 1 else if s.aj then 6 else if s.refs then 5 else 0
structure aN.dW (s : aN) : Prop where
 e : s.enums.length ≤ 9223372036854775807
 m : s.msgs.length ≤ 9223372036854775807
structure aN.sm (s : aN) : Prop where
 e : s.enums.length ≤ 3
 m : s.msgs.length ≤ 6
 v : ∀ x ∈ s.enums, x.values.length ≤ 8
 f : ∀ x ∈ s.msgs, x.fields.length ≤ 10
 b : ∀ x ∈ s.msgs, x.aj.length ≤ 8
theorem aN.sm.vi {s : aN} (h : s.sm) {i : Nat} (hi : i < s.enums.length) : s.enums[i].values.length ≤ 8 := h.v _ (List.getElem_mem hi)
theorem aN.sm.fi {s : aN} (h : s.sm) {i : Nat} (hi : i < s.msgs.length) : s.msgs[i].fields.length ≤ 10 := h.f _ (List.getElem_mem hi)
theorem aN.sm.bi {s : aN} (h : s.sm) {i : Nat} (hi : i < s.msgs.length) : s.msgs[i].aj.length ≤ 8 := h.b _ (List.getElem_mem hi)
theorem aN.GQ {s : aN} (h : s.many = false) : s.sm := by
 simp only [aN.many, Bool.or_eq_false_iff, List.any_eq_false, decide_eq_false_iff_not, Bool.or_eq_true, decide_eq_true_eq, not_or] at h
 obtain ⟨⟨⟨h1, h2⟩, h3⟩, h4⟩ := h
 exact ⟨by omega, by omega, fun x hx => by have := h3 x hx; omega, fun x hx => by have := h4 x hx; omega, fun x hx => by have := h4 x hx; omega⟩
theorem aN.xu {s : aN} (h : s.none = false) : 0 < s.msgs.length ∧ ∀ x ∈ s.enums, 0 < x.values.length := by
 simp only [aN.none, Bool.or_eq_false_iff, List.any_eq_false, decide_eq_false_iff_not, decide_eq_true_eq] at h
 exact ⟨by omega, fun x hx => by have := h.2 x hx; omega⟩
theorem dk.nG {e : dk} (h : 0 < e.values.length) : e.order = (!ek (e.values.map (·.num)) || !decide (e.values[0].num = 0) || decide (1048576 < (e.values[e.values.length - 1]'(by omega)).num)) := by
 unfold dk.order; rw [headD_map h, zw h]
theorem aT.nG {m : aT} (h : 0 < m.aj.length) : m.order = (!ek (m.fields.map (·.num)) || !ek m.aj || (decide (m.aj[0] < 1) || decide (536870911 < m.aj[m.aj.length - 1]'(by omega)))) := by
 unfold aT.order; rw [AF h, zx h]
 have : (m.aj == []) = false := by cases hb : m.aj with | nil => rw [hb] at h; simp at h | cons a l => rfl
 rw [this]; simp
theorem aT.zb {m : aT} (h : m.aj.length ≤ 0) : m.order = (!ek (m.fields.map (·.num)) || !ek m.aj) := by
 unfold aT.order
 have : m.aj = [] := List.length_eq_zero_iff.1 (by omega)
 rw [this]; simp
/- Plain laws: values of messages: parts, sameness, how great and how deep. No condition. -/
inductive Tree.Sub : Tree → Tree → Prop where
 | refl (t : Tree) : Sub t t
 | step {t t1 t2 : Tree} {v : bD} {x : Slot} (h1 : t1 ∈ v.m) (h2 : v ∈ x.ah) (h3 : x ∈ t2.aO) (h : Sub t t1) : Sub t t2
def Tree.di (Q : Tree → Prop) (t : Tree) : Prop := ∀ u, Tree.Sub u t → Q u
theorem Tree.di.here {Q : Tree → Prop} {t : Tree} (h : t.di Q) : Q t := h t (.refl t)
theorem Tree.di.sub {Q : Tree → Prop} {t t1 : Tree} {v : bD} {x : Slot} (h : t.di Q) (h1 : t1 ∈ v.m) (h2 : v ∈ x.ah) (h3 : x ∈ t.aO) : t1.di Q := fun u hu => h u (.step h1 h2 h3 hu)
theorem Tree.di.mk {Q : Tree → Prop} {t : Tree} (h : Q t) (hs : ∀ x ∈ t.aO, ∀ v ∈ x.ah, ∀ u ∈ v.m, u.di Q) : t.di Q := by
 intro u hu
 cases hu with
 | refl => exact h
 | step h1 h2 h3 hh => exact hs _ h3 _ h2 _ h1 u hh
theorem Tree.sub_lt {t t1 : Tree} {v : bD} {x : Slot} (h1 : t1 ∈ v.m) (h2 : v ∈ x.ah) (h3 : x ∈ t.aO) : SizeOf.sizeOf t1 < SizeOf.sizeOf t := by
 cases t with
 | mk ss r =>
  cases x with
  | mk n vs =>
   cases v with
   | mk k s m =>
    have a1 : SizeOf.sizeOf t1 < SizeOf.sizeOf m := List.sizeOf_lt_of_mem h1
    have a2 : SizeOf.sizeOf (bD.mk k s m) < SizeOf.sizeOf vs := List.sizeOf_lt_of_mem h2
    have a3 : SizeOf.sizeOf (Slot.mk n vs) < SizeOf.sizeOf ss := List.sizeOf_lt_of_mem h3
    simp only [bD.mk.sizeOf_spec, Slot.mk.sizeOf_spec, Tree.mk.sizeOf_spec] at *
    omega
theorem Tree.ind {Q : Tree → Prop} (h : ∀ t, (∀ x ∈ t.aO, ∀ v ∈ x.ah, ∀ u ∈ v.m, Q u) → Q t) : ∀ t, Q t := by
 have key : ∀ (n : Nat) t, SizeOf.sizeOf t < n → Q t := by
  intro n
  induction n with
  | zero => intro t ht; omega
  | succ n ih => intro t ht; exact h t fun x hx v hv u hu => ih u (by have := Tree.sub_lt hu hv hx; omega)
 exact fun t => key _ t (Nat.lt_succ_self _)
structure Tree.LU (t : Tree) : Prop where
 s : t.aO.length ≤ 9223372036854775807
 r : t.rest.length ≤ 9223372036854775807
 v : ∀ x ∈ t.aO, x.ah.length ≤ 9223372036854775807
 m : ∀ x ∈ t.aO, ∀ v ∈ x.ah, v.m.length ≤ 9223372036854775807
 vs : ∀ x ∈ t.aO, ∀ v ∈ x.ah, v.s.length ≤ 9223372036854775807
 vn : ∀ x ∈ t.aO, ∀ v ∈ x.ah, v.n < 18446744073709551616
 rs : ∀ r ∈ t.rest, r.s.length ≤ 9223372036854775807
 rn : ∀ r ∈ t.rest, r.n < 18446744073709551616
def Tree.dW (t : Tree) : Prop := t.di Tree.LU
noncomputable def A5 {α : Type} (a b : α) : Bool := @decide (a = b) (Classical.propDecidable _)
theorem bK {α : Type} {a b : α} : A5 a b = true ↔ a = b := by unfold A5; simp
theorem bI {α : Type} {a b : α} : A5 a b = false ↔ ¬ a = b := by unfold A5; simp
theorem Ct {α : Type} (a : α) : A5 a a = true := bK.2 rfl
theorem Tree.ext {a b : Tree} (h1 : a.aO = b.aO) (h2 : a.rest = b.rest) : a = b := by cases a; cases b; simp [Tree.aO, Tree.rest] at *; exact ⟨h1, h2⟩
theorem Slot.ext {a b : Slot} (h1 : a.num = b.num) (h2 : a.ah = b.ah) : a = b := by cases a; cases b; simp [Slot.num, Slot.ah] at *; exact ⟨h1, h2⟩
theorem bD.ext {a b : bD} (h1 : a.n = b.n) (h2 : a.s = b.s) (h3 : a.m = b.m) : a = b := by cases a; cases b; simp [bD.n, bD.s, bD.m] at *; exact ⟨h1, h2, h3⟩
theorem gW {α : Type} {a b : List α} {i : Nat} (ha : i < a.length) (hb : i < b.length) (h : a.take i = b.take i) (e : a[i] = b[i]) : a.take (i + 1) = b.take (i + 1) := by
 rw [List.take_succ_eq_append_getElem ha, List.take_succ_eq_append_getElem hb, h, e]
theorem iS {α : Type} {a b : List α} {i : Nat} (hl : a.length = b.length) (hi : a.length ≤ i) (h : a.take i = b.take i) : a = b := by
 rwa [List.take_of_length_le hi, List.take_of_length_le (by omega)] at h
theorem xw {α : Type} {a b : List α} {i : Nat} (ha : i < a.length) (hb : i < b.length) (e : ¬ a[i] = b[i]) : ¬ a = b := by
 rintro rfl; exact e rfl
/-! ### how much of so much a value leaves (numbers wrap round) -/
abbrev dI (n : Int) : Int := IntKind.i64.wrap n
def iZ : List Rw → Int → Int
 | [], n => n
 | x :: l, n => if 0 ≤ n then iZ l (dI (n - dI ((x.s.length : Int).tdiv 20))) else n
mutual
def Tree.left : Tree → Int → Int → Int
 | .mk ss r, n, d => if d ≤ 0 then -1 else iG ss (iZ r (dI (dI (n - (r.length : Int)) - (ss.length : Int)))) d
def Slot.left : Slot → Int → Int → Int
 | .mk _ vs, n, d => gP vs (dI (n - (vs.length : Int))) d
def bD.left : bD → Int → Int → Int
 | .mk _ s m, n, d => gQ m (dI (n - dI ((s.length : Int).tdiv 20))) d
def iG : List Slot → Int → Int → Int
 | [], n, _ => n
 | x :: l, n, d => if 0 ≤ n then iG l (x.left n d) d else n
def gP : List bD → Int → Int → Int
 | [], n, _ => n
 | x :: l, n, d => if 0 ≤ n then gP l (x.left n d) d else n
def gQ : List Tree → Int → Int → Int
 | [], n, _ => n
 | x :: l, n, d => if 0 ≤ n then gQ l (x.left (dI (n - 1)) (dI (d - 1))) d else n
end
theorem Tree.left_eq (t : Tree) (n d : Int) : t.left n d = if d ≤ 0 then -1 else iG t.aO (iZ t.rest (dI (dI (n - (t.rest.length : Int)) - (t.aO.length : Int)))) d := by
 cases t; simp [Tree.left, Tree.aO, Tree.rest]
theorem Slot.left_eq (x : Slot) (n d : Int) : x.left n d = gP x.ah (dI (n - (x.ah.length : Int))) d := by
 cases x; simp [Slot.left, Slot.ah]
theorem bD.left_eq (x : bD) (n d : Int) : x.left n d = gQ x.m (dI (n - dI ((x.s.length : Int).tdiv 20))) d := by
 cases x; simp [bD.left, bD.s, bD.m]
theorem wV {l : List Rw} {i : Nat} {n : Int} (h : i < l.length) : iZ (l.drop i) n = if 0 ≤ n then iZ (l.drop (i + 1)) (dI (n - dI ((l[i].s.length : Int).tdiv 20))) else n := by
 rw [List.drop_eq_getElem_cons h]; rfl
theorem wU {l : List Slot} {i : Nat} {n d : Int} (h : i < l.length) : iG (l.drop i) n d = if 0 ≤ n then iG (l.drop (i + 1)) (l[i].left n d) d else n := by
 rw [List.drop_eq_getElem_cons h]; simp [iG]
theorem wS {l : List bD} {i : Nat} {n d : Int} (h : i < l.length) : gP (l.drop i) n d = if 0 ≤ n then gP (l.drop (i + 1)) (l[i].left n d) d else n := by
 rw [List.drop_eq_getElem_cons h]; simp [gP]
theorem wT {l : List Tree} {i : Nat} {n d : Int} (h : i < l.length) : gQ (l.drop i) n d = if 0 ≤ n then gQ (l.drop (i + 1)) (l[i].left (dI (n - 1)) (dI (d - 1))) d else n := by
 rw [List.drop_eq_getElem_cons h]; simp [gQ]
theorem zv {l : List Rw} {i : Nat} {n : Int} (h : l.length ≤ i) : iZ (l.drop i) n = n := by rw [List.drop_of_length_le h]; rfl
theorem zu {l : List Slot} {i : Nat} {n d : Int} (h : l.length ≤ i) : iG (l.drop i) n d = n := by rw [List.drop_of_length_le h]; simp [iG]
theorem zr {l : List bD} {i : Nat} {n d : Int} (h : l.length ≤ i) : gP (l.drop i) n d = n := by rw [List.drop_of_length_le h]; simp [gP]
theorem zt {l : List Tree} {i : Nat} {n d : Int} (h : l.length ≤ i) : gQ (l.drop i) n d = n := by rw [List.drop_of_length_le h]; simp [gQ]
theorem jL {l : List Rw} {n : Int} (h : ¬ 0 ≤ n) : iZ l n = n := by cases l <;> simp [iZ]; omega
theorem nS {l : List Slot} {n d : Int} (h : ¬ 0 ≤ n) : iG l n d = n := by cases l <;> simp [iG]; omega
theorem nQ {l : List bD} {n d : Int} (h : ¬ 0 ≤ n) : gP l n d = n := by cases l <;> simp [gP]; omega
theorem nR {l : List Tree} {n d : Int} (h : ¬ 0 ≤ n) : gQ l n d = n := by cases l <;> simp [gQ]; omega
/- Plain laws: numbers of types, on the wire and in values. No condition. -/
def nv (t : Int) : Int :=
 if t = 1 ∨ t = 5 ∨ t = 10 then 7 else if t = 2 ∨ t = 6 ∨ t = 11 then 15 else if t = 3 ∨ t = 8 then 3 else if t = 4 ∨ t = 9 then 11 else if t = 7 then 2 else if t = 14 then 6 else 0
theorem fu (t : Int) : (t < 1 ∨ 15 < t) ∨ t = 1 ∨ t = 2 ∨ t = 3 ∨ t = 4 ∨ t = 5 ∨ t = 6 ∨ t = 7 ∨ t = 8 ∨ t = 9 ∨ t = 10 ∨ t = 11 ∨ t = 12 ∨ t = 13 ∨ t = 14 ∨ t = 15 := by omega
theorem fb {t : Int} (h : t < 1 ∨ 15 < t) : nv t = 0 := by unfold nv; split <;> first | omega | (split <;> first | omega | (split <;> first | omega | (split <;> first | omega | (split <;> first | omega | (split <;> first | omega | rfl)))))
theorem CH (t : Int) : (!(ig .and .i64 (nv t) 2 == 0)) = nJ t := by
 rcases fu t with h | h
 ·rw [fb h, show ig .and .i64 0 2 = 0 by decide]
  have : nJ t = false := by unfold nJ cK; simp; omega
  rw [this]; rfl
 ·rcases h with rfl | rfl | rfl | rfl | rfl | rfl | rfl | rfl | rfl | rfl | rfl | rfl | rfl | rfl | rfl <;> decide
theorem wY (t : Int) : (!(ig .and .i64 (nv t) 1 == 0)) = cK t := by
 rcases fu t with h | h
 ·rw [fb h, show ig .and .i64 0 1 = 0 by decide]
  have : cK t = false := by unfold cK; simp; omega
  rw [this]; rfl
 ·rcases h with rfl | rfl | rfl | rfl | rfl | rfl | rfl | rfl | rfl | rfl | rfl | rfl | rfl | rfl | rfl <;> decide
theorem zz (t : Int) : (!(ig .and .i64 (nv t) 4 == 0)) = dw t := by
 rcases fu t with h | h
 ·rw [fb h, show ig .and .i64 0 4 = 0 by decide]
  have : dw t = false := by unfold dw; simp; omega
  rw [this]; rfl
 ·rcases h with rfl | rfl | rfl | rfl | rfl | rfl | rfl | rfl | rfl | rfl | rfl | rfl | rfl | rfl | rfl <;> decide
theorem zy (t : Int) : (!(ig .and .i64 (nv t) 8 == 0)) = gK t := by
 rcases fu t with h | h
 ·rw [fb h, show ig .and .i64 0 8 = 0 by decide]
  have : gK t = false := by unfold gK; simp; omega
  rw [this]; rfl
 ·rcases h with rfl | rfl | rfl | rfl | rfl | rfl | rfl | rfl | rfl | rfl | rfl | rfl | rfl | rfl | rfl <;> decide
theorem AA {t : Int} (h0 : 0 ≤ t) (h1 : t < 16) : ([.int .i64 0, .int .i64 7, .int .i64 15, .int .i64 3, .int .i64 11, .int .i64 7, .int .i64 15, .int .i64 2, .int .i64 3, .int .i64 11, .int .i64 7, .int .i64 15, .int .i64 0, .int .i64 0, .int .i64 6, .int .i64 0] : List AV)[t.toNat]? = some (.int .i64 (nv t)) := by
 have : t = 0 ∨ t = 1 ∨ t = 2 ∨ t = 3 ∨ t = 4 ∨ t = 5 ∨ t = 6 ∨ t = 7 ∨ t = 8 ∨ t = 9 ∨ t = 10 ∨ t = 11 ∨ t = 12 ∨ t = 13 ∨ t = 14 ∨ t = 15 := by omega
 rcases this with rfl | rfl | rfl | rfl | rfl | rfl | rfl | rfl | rfl | rfl | rfl | rfl | rfl | rfl | rfl | rfl <;> rfl
def D0 (n : Nat) : Int := IntKind.i64.wrap (n : Int)
def iH (z : Int) : Bool := decide (-2147483648 ≤ z) && decide (z ≤ 2147483647)
theorem AJ (z : Int) : (IntKind.i64.wrap (IntKind.i32.wrap z) == z) = iH z := by
 have h : IntKind.i64.wrap (IntKind.i32.wrap z) = IntKind.i32.wrap z := by simp only [IntKind.wrap, IntKind.bits, IntKind.signed]; simp; omega
 rw [h]
 simp only [IntKind.wrap, IntKind.bits, IntKind.signed, iH]
 rw [Bool.eq_iff_iff]
 simp
 omega
def iQ (t : Int) (n : Nat) : Bool :=
 if t < 1 ∨ 15 < t then false else if gK t then true else if dw t then iH (D0 n) else if t = 3 ∨ t = 8 then decide (n < 4294967296) else if t = 7 then decide (n < 2) else decide (n = 0)
/- Plain laws: the grammar of migrations: what tokens are as steps. No condition. -/
/-! ### types -/
def Dl : List aw := [[], [105, 110, 116, 51, 50], [105, 110, 116, 54, 52], [117, 105, 110, 116, 51, 50], [117, 105, 110, 116, 54, 52], [115, 105, 110, 116, 51, 50], [115, 105, 110, 116, 54, 52], [98, 111, 111, 108], [102, 105, 120, 101, 100, 51, 50], [102, 105, 120, 101, 100, 54, 52], [115, 102, 105, 120, 101, 100, 51, 50], [115, 102, 105, 120, 101, 100, 54, 52], [115, 116, 114, 105, 110, 103], [98, 121, 116, 101, 115], [], []]
def ry (t : Int) : aw := if t < 0 ∨ 16 ≤ t then [] else Dl.getD t.toNat []
def L6 (t : Int) (n : Nat) (neg : Bool) : Option Nat :=
 if cK t = false then none
 else if neg = true ∧ 0 < n then (if dw t = false ∨ 9223372036854775808 < n then none else if iQ t (18446744073709551616 - n) then some (18446744073709551616 - n) else none)
 else if dw t = true ∧ 9223372036854775808 ≤ n then none else if iQ t n then some n else none
section
variable (L : List Tk)
end
set_option linter.unusedSectionVars false
/- the document: names, numbers, types, fields. -/
theorem tE : aa Tryz.prog 120 = true := by kernel_rfl
theorem fE (n : Int) : Pure Tryz.prog 165 [.int .i64 n] (.bool (oH n)) := by
 refine Pure.aL Tryz.func165 rfl rfl (aF rfl) fun H => (aC.seq (aC.region (aB.run II 1 rfl (aB.nil (aC.seq (aC.region (aB.run II 3 rfl (aB.tell (d := 5) rfl (fun hg1 => ?_) (fun hg1 => ?_)))))))))
 ·refine aB.run II 4 rfl (aB.tell (d := 9) rfl (fun hg2 => ?_) (fun hg2 => ?_))
  ·refine aB.run II 3 rfl (aB.tell (d := 12) rfl (fun hg3 => ?_) (fun hg3 => ?_))
   ·exact aB.run II 5 rfl (aB.nil (aC.ret ⟨.inr rfl, (aE.r1 rfl (.tmp rfl .nil)).cast (congrArg AV.bool (by grind [oH])), rfl⟩))
   ·exact aB.run II 5 rfl (aB.nil (aC.ret ⟨.inr rfl, (aE.r1 rfl (.tmp rfl .nil)).cast (congrArg AV.bool (by grind [oH])), rfl⟩))
  ·exact aB.run II 8 rfl (aB.nil (aC.ret ⟨.inr rfl, (aE.r1 rfl (.tmp rfl .nil)).cast (congrArg AV.bool (by grind [oH])), rfl⟩))
 ·exact aB.run II 12 rfl (aB.nil (aC.ret ⟨.inr rfl, (aE.r1 rfl (.tmp rfl .nil)).cast (congrArg AV.bool (by grind [oH])), rfl⟩))
theorem pK (n : Int) : Pure Tryz.prog 120 [.int .i64 n] (.bool (cK n)) := by
 refine Pure.aL Tryz.func120 rfl rfl (aF rfl) fun H => (aC.seq (aC.region (aB.run II 1 rfl (aB.nil (aC.seq (aC.region (aB.run II 3 rfl (aB.tell (d := 5) rfl (fun hg1 => ?_) (fun hg1 => ?_)))))))))
 ·refine aB.run II 4 rfl (aB.tell (d := 9) rfl (fun hg2 => ?_) (fun hg2 => ?_))
  ·exact aB.run II 8 rfl (aB.nil (aC.ret ⟨.inr rfl, (aE.r1 rfl (.tmp rfl .nil)).cast (congrArg AV.bool (by grind [cK])), rfl⟩))
  ·refine aB.run II 3 rfl (aB.tell (d := 12) rfl (fun hg3 => ?_) (fun hg3 => ?_))
   ·exact aB.run II 5 rfl (aB.nil (aC.ret ⟨.inr rfl, (aE.r1 rfl (.tmp rfl .nil)).cast (congrArg AV.bool (by grind [cK])), rfl⟩))
   ·exact aB.run II 5 rfl (aB.nil (aC.ret ⟨.inr rfl, (aE.r1 rfl (.tmp rfl .nil)).cast (congrArg AV.bool (by grind [cK])), rfl⟩))
 ·refine aB.run II 7 rfl (aB.tell (d := 12) rfl (fun hg4 => ?_) (fun hg4 => ?_))
  ·exact aB.run II 5 rfl (aB.nil (aC.ret ⟨.inr rfl, (aE.r1 rfl (.tmp rfl .nil)).cast (congrArg AV.bool (by grind [cK])), rfl⟩))
  ·exact aB.run II 5 rfl (aB.nil (aC.ret ⟨.inr rfl, (aE.r1 rfl (.tmp rfl .nil)).cast (congrArg AV.bool (by grind [cK])), rfl⟩))
theorem oO (n : Int) : Pure Tryz.prog 174 [.int .i64 n] (.bool (dw n)) := by
 refine Pure.aL Tryz.func174 rfl rfl (aF rfl) fun H => (aC.seq (aC.region (aB.run II 1 rfl (aB.nil (aC.seq (aC.region (aB.run II 3 rfl (aB.tell (d := 5) rfl (fun hg1 => ?_) (fun hg1 => ?_)))))))))
 ·exact aB.run II 24 rfl (aB.nil (aC.ret ⟨.inr rfl, (aE.r1 rfl (.tmp rfl .nil)).cast (congrArg AV.bool (by grind [dw])), rfl⟩))
 ·refine aB.run II 4 rfl (aB.tell (d := 9) rfl (fun hg2 => ?_) (fun hg2 => ?_))
  ·exact aB.run II 20 rfl (aB.nil (aC.ret ⟨.inr rfl, (aE.r1 rfl (.tmp rfl .nil)).cast (congrArg AV.bool (by grind [dw])), rfl⟩))
  ·refine aB.run II 4 rfl (aB.tell (d := 13) rfl (fun hg3 => ?_) (fun hg3 => ?_))
   ·exact aB.run II 16 rfl (aB.nil (aC.ret ⟨.inr rfl, (aE.r1 rfl (.tmp rfl .nil)).cast (congrArg AV.bool (by grind [dw])), rfl⟩))
   ·refine aB.run II 4 rfl (aB.tell (d := 17) rfl (fun hg4 => ?_) (fun hg4 => ?_))
    ·exact aB.run II 12 rfl (aB.nil (aC.ret ⟨.inr rfl, (aE.r1 rfl (.tmp rfl .nil)).cast (congrArg AV.bool (by grind [dw])), rfl⟩))
    ·refine aB.run II 4 rfl (aB.tell (d := 21) rfl (fun hg5 => ?_) (fun hg5 => ?_))
     ·exact aB.run II 8 rfl (aB.nil (aC.ret ⟨.inr rfl, (aE.r1 rfl (.tmp rfl .nil)).cast (congrArg AV.bool (by grind [dw])), rfl⟩))
     ·refine aB.run II 4 rfl (aB.tell (d := 25) rfl (fun hg6 => ?_) (fun hg6 => ?_))
      ·exact aB.run II 4 rfl (aB.nil (aC.ret ⟨.inr rfl, (aE.r1 rfl (.tmp rfl .nil)).cast (congrArg AV.bool (by grind [dw])), rfl⟩))
      ·exact aB.run II 4 rfl (aB.nil (aC.ret ⟨.inr rfl, (aE.r1 rfl (.tmp rfl .nil)).cast (congrArg AV.bool (by grind [dw])), rfl⟩))
theorem oN (n : Int) : Pure Tryz.prog 173 [.int .i64 n] (.bool (gK n)) := by
 refine Pure.aL Tryz.func173 rfl rfl (aF rfl) fun H => (aC.seq (aC.region (aB.run II 1 rfl (aB.nil (aC.seq (aC.region (aB.run II 3 rfl (aB.tell (d := 5) rfl (fun hg1 => ?_) (fun hg1 => ?_)))))))))
 ·exact aB.run II 16 rfl (aB.nil (aC.ret ⟨.inr rfl, (aE.r1 rfl (.tmp rfl .nil)).cast (congrArg AV.bool (by grind [gK])), rfl⟩))
 ·refine aB.run II 4 rfl (aB.tell (d := 9) rfl (fun hg2 => ?_) (fun hg2 => ?_))
  ·exact aB.run II 12 rfl (aB.nil (aC.ret ⟨.inr rfl, (aE.r1 rfl (.tmp rfl .nil)).cast (congrArg AV.bool (by grind [gK])), rfl⟩))
  ·refine aB.run II 4 rfl (aB.tell (d := 13) rfl (fun hg3 => ?_) (fun hg3 => ?_))
   ·exact aB.run II 8 rfl (aB.nil (aC.ret ⟨.inr rfl, (aE.r1 rfl (.tmp rfl .nil)).cast (congrArg AV.bool (by grind [gK])), rfl⟩))
   ·refine aB.run II 4 rfl (aB.tell (d := 17) rfl (fun hg4 => ?_) (fun hg4 => ?_))
    ·exact aB.run II 4 rfl (aB.nil (aC.ret ⟨.inr rfl, (aE.r1 rfl (.tmp rfl .nil)).cast (congrArg AV.bool (by grind [gK])), rfl⟩))
    ·exact aB.run II 4 rfl (aB.nil (aC.ret ⟨.inr rfl, (aE.r1 rfl (.tmp rfl .nil)).cast (congrArg AV.bool (by grind [gK])), rfl⟩))
theorem BK (n : Int) : Pure Tryz.prog 137 [.int .i64 n] (.bool (nJ n)) := by
 refine Pure.aL Tryz.func137 rfl rfl (aF rfl) fun H => (aC.seq (aC.region (aB.run II 1 rfl (aB.nil (aC.seq (aC.region (aB.run II 1 rfl (aB.c1 rfl (aG (aF rfl) tE rfl (pK _)) (aB.run II 1 rfl (aB.tell (d := 5) rfl (fun hg1 => ?_) (fun hg1 => ?_)))))))))))
 ·exact aB.run II 8 rfl (aB.nil (aC.ret ⟨.inr rfl, (aE.r1 rfl (.tmp rfl .nil)).cast (congrArg AV.bool (by grind [nJ])), rfl⟩))
 ·refine aB.run II 4 rfl (aB.tell (d := 9) rfl (fun hg2 => ?_) (fun hg2 => ?_))
  ·exact aB.run II 4 rfl (aB.nil (aC.ret ⟨.inr rfl, (aE.r1 rfl (.tmp rfl .nil)).cast (congrArg AV.bool (by grind [nJ])), rfl⟩))
  ·exact aB.run II 4 rfl (aB.nil (aC.ret ⟨.inr rfl, (aE.r1 rfl (.tmp rfl .nil)).cast (congrArg AV.bool (by grind [nJ])), rfl⟩))
theorem EE (n w : Int) : Pure Tryz.prog 94 [.int .i64 n, .int .i64 w] (.bool (iT n w)) := by
 refine Pure.aL Tryz.func94 rfl rfl (aF rfl) fun H => (aC.seq (aC.region (aB.run II 1 rfl (aB.nil (aC.seq (aC.region (aB.run II 3 rfl (aB.tell (d := 7) rfl (fun hg1 => ?_) (fun hg1 => ?_)))))))))
 ·refine aB.run II 4 rfl (aB.tell (d := 11) rfl (fun hg2 => ?_) (fun hg2 => ?_))
  ·refine aB.run II 3 rfl (aB.tell (d := 14) rfl (fun hg3 => ?_) (fun hg3 => ?_))
   ·exact aB.run II 13 rfl (aB.nil (aC.ret ⟨.inr rfl, (aE.r1 rfl (.tmp rfl .nil)).cast (congrArg AV.bool (by grind [iT])), rfl⟩))
   ·refine aB.run II 4 rfl (aB.tell (d := 18) rfl (fun hg4 => ?_) (fun hg4 => ?_))
    ·exact aB.run II 9 rfl (aB.nil (aC.ret ⟨.inr rfl, (aE.r1 rfl (.tmp rfl .nil)).cast (congrArg AV.bool (by grind [iT])), rfl⟩))
    ·refine aB.run II 4 rfl (aB.tell (d := 22) rfl (fun hg5 => ?_) (fun hg5 => ?_))
     ·exact aB.run II 5 rfl (aB.nil (aC.ret ⟨.inr rfl, (aE.r1 rfl (.tmp rfl .nil)).cast (congrArg AV.bool (by grind [iT])), rfl⟩))
     ·exact aB.run II 5 rfl (aB.nil (aC.ret ⟨.inr rfl, (aE.r1 rfl (.tmp rfl .nil)).cast (congrArg AV.bool (by grind [iT])), rfl⟩))
  ·exact aB.run II 16 rfl (aB.nil (aC.ret ⟨.inr rfl, (aE.r1 rfl (.tmp rfl .nil)).cast (congrArg AV.bool (by grind [iT])), rfl⟩))
 ·exact aB.run II 20 rfl (aB.nil (aC.ret ⟨.inr rfl, (aE.r1 rfl (.tmp rfl .nil)).cast (congrArg AV.bool (by grind [iT])), rfl⟩))
theorem uB (c : UInt8) : Pure Tryz.prog 163 [.int .u8 (c.toNat : Int)] (.bool (letter c)) := by
 refine Pure.aL Tryz.func163 rfl rfl (aF rfl) fun H => (aC.seq (aC.region (aB.run II 1 rfl (aB.nil (aC.seq (aC.region (aB.run II 3 rfl (aB.tell (d := 5) rfl (fun hg1 => ?_) (fun hg1 => ?_)))))))))
 ·refine aB.run II 4 rfl (aB.tell (d := 9) rfl (fun hg2 => ?_) (fun hg2 => ?_))
  ·exact aB.run II 8 rfl (aB.nil (aC.ret ⟨.inr rfl, (aE.r1 rfl (.tmp rfl .nil)).cast (congrArg AV.bool (by grind [letter])), rfl⟩))
  ·refine aB.run II 3 rfl (aB.tell (d := 12) rfl (fun hg3 => ?_) (fun hg3 => ?_))
   ·exact aB.run II 5 rfl (aB.nil (aC.ret ⟨.inr rfl, (aE.r1 rfl (.tmp rfl .nil)).cast (congrArg AV.bool (by grind [letter])), rfl⟩))
   ·exact aB.run II 5 rfl (aB.nil (aC.ret ⟨.inr rfl, (aE.r1 rfl (.tmp rfl .nil)).cast (congrArg AV.bool (by grind [letter])), rfl⟩))
 ·refine aB.run II 7 rfl (aB.tell (d := 12) rfl (fun hg4 => ?_) (fun hg4 => ?_))
  ·exact aB.run II 5 rfl (aB.nil (aC.ret ⟨.inr rfl, (aE.r1 rfl (.tmp rfl .nil)).cast (congrArg AV.bool (by grind [letter])), rfl⟩))
  ·exact aB.run II 5 rfl (aB.nil (aC.ret ⟨.inr rfl, (aE.r1 rfl (.tmp rfl .nil)).cast (congrArg AV.bool (by grind [letter])), rfl⟩))
theorem EA : Pure Tryz.prog 164 [] (.sl (mw.map .str)) := by
 exact Pure.aL Tryz.func164 rfl rfl (Nat.zero_le _) fun H => (aC.seq (aC.region (aB.run II 1 rfl (aB.nil (aC.seq (aC.region (aB.run II 2 rfl (aB.nil (aC.ret ⟨.inr rfl, (aE.r1 rfl (.tmp rfl .nil)).cast rfl, rfl⟩)))))))))
/- the document: names, lists, fields. -/
theorem eE : aa Tryz.prog 110 = true := by kernel_rfl
theorem yO : aa Tryz.prog 137 = true := by kernel_rfl
theorem yJ : aa Tryz.prog 163 = true := by kernel_rfl
theorem Ff : aa Tryz.prog 164 = true := by kernel_rfl
theorem dp : aa Tryz.prog 165 = true := by kernel_rfl
theorem cD : ie Tryz.prog 106 = some 1 := by kernel_rfl
theorem dN : ie Tryz.prog 22 = some 2 := by kernel_rfl
theorem bM : ie Tryz.prog 23 = some 3 := by kernel_rfl
theorem cm : ie Tryz.prog 46 = some 1 := by kernel_rfl
theorem eH : Tryz.prog.underlying 9 = some TypeDesc.string := Tryz.underlying9
theorem dU (s : aw) : Pure Tryz.prog 110 [.str s] (.bool (aq s)) := by
 refine Pure.aL Tryz.func110 rfl rfl (aF rfl) fun H => (aC.seq (aC.region (aB.run II 1 rfl (aB.nil (aC.seq (aC.seq (aC.region (aB.run II 4 rfl (aB.tell (d := 9) rfl (fun hg1 => ?_) (fun hg1 => ?_))))))))))
 ·exact aB.run II 10 rfl (aB.nil (aC.az rfl rfl (aC.seq (aC.region (aB.run II 1 rfl (aB.nil (aC.ret ⟨.inr rfl, (aE.r1 rfl (.tmp rfl .nil)).cast (congrArg AV.bool (by grind [aq, vR])), rfl⟩)))))))
 ·refine aB.run II 5 rfl (aB.tell (d := 14) rfl (fun hg2 => ?_) (fun hg2 => ?_))
  ·exact aB.run II 5 rfl (aB.nil (aC.az rfl rfl (aC.seq (aC.region (aB.run II 1 rfl (aB.nil (aC.ret ⟨.inr rfl, (aE.r1 rfl (.tmp rfl .nil)).cast (congrArg AV.bool (by grind [aq, vR])), rfl⟩)))))))
  ·refine aB.run II 1 rfl (aB.g1 rfl (aF rfl) rfl rfl (da (aF rfl) eH rfl rfl (by decide) (show s[0]? = some (s.headD 0) by cases s with | nil => simp at hg2 hg1 | cons a l => rfl)) (aB.g1 rfl (aF rfl) rfl rfl (aG (aF rfl) yJ rfl (uB _)) (aB.run II 2 rfl (aB.nil (aC.cond rfl (fun hc3 => ?_) (fun hc3 => ?_))))))
   ·exact aC.seq (aC.region (aB.run II 1 rfl (aB.nil (aC.ret ⟨.inr rfl, (aE.r1 rfl (.tmp rfl .nil)).cast (congrArg AV.bool (by grind [aq, vR])), rfl⟩))))
   ·refine aC.skip (aC.seq (aC.seq (aC.region (aB.run II 1 rfl (aB.nil (aC.blk (aC.aK (Kept.aJ [.s 3, .h, .s 0] rfl (by decide) (Kept.now (aC.aX (fun (i : Nat) => [(.s 3, .sv (.v (.int .i64 (i : Int))))]) _ (fun (i : Nat) => (s.drop i).all vR = s.all vR) (fun (i : Nat) => s.length - i) 0 rfl (by simp) ?_))))))))))
    rintro i hI
    refine aC.seq (aC.seq (aC.region (aB.run II 4 rfl (aB.nil (aC.cond rfl (fun hc4 => ?_) (fun hc4 => ?_))))))
    ·have hi := Lh hc4
     have hS := gA (p := vR) hi
     have hL : s.length ≤ 12 := by have := of_decide_eq_false hg2; omega
     refine aC.skip (aC.seq (aC.blk (aC.seq (aC.region (aB.run II 2 rfl (aB.c1 rfl (da (aF rfl) eH rfl rfl (Int.natCast_nonneg _) (KA hi)) (aB.c1 rfl (aG (aF rfl) yJ rfl (uB _)) (aB.run II 2 rfl (aB.tell (d := 31) rfl (fun hg5 => ?_) (fun hg5 => ?_))))))))))
     ·refine aB.run II 2 rfl (aB.g1 rfl (aF rfl) rfl rfl (da (aF rfl) eH rfl rfl (Int.natCast_nonneg _) (KA hi)) (aB.run II 2 rfl (aB.tell (d := 36) rfl (fun hg6 => ?_) (fun hg6 => ?_))))
      ·refine aB.run II 9 rfl (aB.g1 rfl (aF rfl) rfl rfl (da (aF rfl) eH rfl rfl (Int.natCast_nonneg _) (KA hi)) (aB.run II 2 rfl (aB.nil (aC.cond rfl (fun hc7 => ?_) (fun hc7 => ?_)))))
       ·exact aC.seq (aC.region (aB.run II 1 rfl (aB.nil (aC.ret ⟨.inr rfl, (aE.r1 rfl (.tmp rfl .nil)).cast (congrArg AV.bool (by grind [aq, vR])), rfl⟩))))
       ·exact aC.skip (aC.region (aB.run II 3 rfl (aB.kept (Kept.aY 3 rfl (inc (by omega)) (Kept.aJ [.s 3, .h, .s 0] rfl (by decide) (Kept.now ⟨i + 1, by omega, by grind [vR], rfl⟩))))))
      ·refine aB.run II 2 rfl (aB.g1 rfl (aF rfl) rfl rfl (da (aF rfl) eH rfl rfl (Int.natCast_nonneg _) (KA hi)) (aB.run II 4 rfl (aB.tell (d := 43) rfl (fun hg8 => ?_) (fun hg8 => ?_))))
       ·refine aB.run II 2 rfl (aB.g1 rfl (aF rfl) rfl rfl (da (aF rfl) eH rfl rfl (Int.natCast_nonneg _) (KA hi)) (aB.run II 2 rfl (aB.nil (aC.cond rfl (fun hc9 => ?_) (fun hc9 => ?_)))))
        ·exact aC.seq (aC.region (aB.run II 1 rfl (aB.nil (aC.ret ⟨.inr rfl, (aE.r1 rfl (.tmp rfl .nil)).cast (congrArg AV.bool (by grind [aq, vR])), rfl⟩))))
        ·exact aC.skip (aC.region (aB.run II 3 rfl (aB.kept (Kept.aY 3 rfl (inc (by omega)) (Kept.aJ [.s 3, .h, .s 0] rfl (by decide) (Kept.now ⟨i + 1, by omega, by grind [vR], rfl⟩))))))
       ·exact aB.run II 5 rfl (aB.nil (aC.aZ rfl rfl (aC.skip (aC.region (aB.run II 3 rfl (aB.kept (Kept.aY 3 rfl (inc (by omega)) (Kept.aJ [.s 3, .h, .s 0] rfl (by decide) (Kept.now ⟨i + 1, by omega, by grind [vR], rfl⟩)))))))))
     ·exact aB.run II 17 rfl (aB.nil (aC.aZ rfl rfl (aC.skip (aC.region (aB.run II 3 rfl (aB.kept (Kept.aY 3 rfl (inc (by omega)) (Kept.aJ [.s 3, .h, .s 0] rfl (by decide) (Kept.now ⟨i + 1, by omega, by grind [vR], rfl⟩)))))))))
    ·have hi := Lj hc4
     have hS := jo (p := vR) hi
     refine aC.exit (aC.seq (aC.region (aB.c1 rfl (aG (aF rfl) Ff rfl EA) (aB.run II 1 rfl (aB.nil (aC.seq (aC.seq (aC.region (aB.run II 1 rfl (aB.nil (aC.blk (aC.aK (Kept.aJ [.s 5, .h, .s 0, .s 4] rfl (by decide) (Kept.now (aC.aX (fun (j : Nat) => [(.s 5, .sv (.v (.int .i64 (j : Int))))]) _ (fun (j : Nat) => (mw.drop j).all (fun w => !(w == s)) = mw.all (fun w => !(w == s))) (fun (j : Nat) => mw.length - j) 0 rfl (by simp) ?_)))))))))))))))
     rintro j hJ
     refine aC.seq (aC.seq (aC.region (aB.run II 4 rfl (aB.nil (aC.cond rfl (fun hc10 => ?_) (fun hc10 => ?_))))))
     ·have hj := dD hc10
      have hT := gA (p := fun w => !(w == s)) hj
      have hW : mw.length = 35 := rfl
      refine aC.skip (aC.seq (aC.blk (aC.seq (aC.region (aB.run II 2 rfl (aB.c1 rfl (aH (aF rfl) cD rfl rfl (Int.natCast_nonneg _) (cF hj) rfl) (aB.run II 3 rfl (aB.nil (aC.cond rfl (fun hc11 => ?_) (fun hc11 => ?_))))))))))
      ·exact aC.seq (aC.region (aB.run II 1 rfl (aB.nil (aC.ret ⟨.inr rfl, (aE.r1 rfl (.tmp rfl .nil)).cast (congrArg AV.bool (by grind [aq, vR])), rfl⟩))))
      ·exact aC.skip (aC.region (aB.run II 3 rfl (aB.kept (Kept.aY 5 rfl (inc (by omega)) (Kept.aJ [.s 5, .h, .s 0, .s 4] rfl (by decide) (Kept.now ⟨j + 1, by omega, by grind, rfl⟩))))))
     ·have hj := dE hc10
      have hT := jo (p := fun w => !(w == s)) hj
      exact aC.exit (aC.seq (aC.region (aB.run II 1 rfl (aB.nil (aC.ret ⟨.inr rfl, (aE.r1 rfl (.tmp rfl .nil)).cast (congrArg AV.bool (by grind [aq, vR])), rfl⟩)))))
theorem pL (l : List aw) (hl : l.length ≤ 9223372036854775807) : Pure Tryz.prog 112 [.sl (l.map .str)] (.bool (once l)) := by
 refine Pure.aL Tryz.func112 rfl rfl (aF rfl) fun H => (aC.seq (aC.region (aB.run II 1 rfl (aB.nil (aC.seq (aC.seq (aC.region (aB.run II 1 rfl (aB.nil (aC.blk (aC.aK (Kept.aJ [.s 3, .h, .s 0] rfl (by decide) (Kept.now (aC.aX (fun (i : Nat) => [(.s 3, .sv (.v (.int .i64 (i : Int))))]) _ (fun (i : Nat) => fG l (l.drop i) i = once l) (fun (i : Nat) => l.length - i) 0 rfl (by simp [once]) ?_))))))))))))))
 rintro i hI
 refine aC.seq (aC.seq (aC.region (aB.run II 4 rfl (aB.nil (aC.cond rfl (fun hc1 => ?_) (fun hc1 => ?_))))))
 ·have hi := dD hc1
  have hS := qm hi
  refine aC.skip (aC.seq (aC.blk (aC.seq (aC.region (aB.run II 1 rfl (aB.nil (aC.blk (aC.aK (Kept.aJ [.s 4, .h, .s 0, .s 3] rfl (by decide) (Kept.now (aC.aX (fun (k : Nat) => [(.s 4, .sv (.v (.int .i64 (k : Int))))]) _ (fun (k : Nat) => ((l.take i).drop k).any (fun b => l[i] == b) = (l.take i).any (fun b => l[i] == b)) (fun (k : Nat) => i - k) 0 rfl (by simp) ?_)))))))))))
  rintro k hK
  refine aC.seq (aC.seq (aC.region (aB.run II 3 rfl (aB.nil (aC.cond rfl (fun hc2 => ?_) (fun hc2 => ?_))))))
  ·have hk := Lg hc2
   have hT := bb (p := fun b => l[i] == b) (l := l.take i) (i := k) (by simp; omega)
   have hG : (l.take i)[k]'(by simp; omega) = l[k]'(by omega) := by simp
   refine aC.skip (aC.seq (aC.blk (aC.seq (aC.drawn mixed rfl (aD.run II 2 rfl (aD.c1 rfl (aH (aF rfl) cD rfl rfl (Int.natCast_nonneg _) (cF hi) rfl) (aD.run II 3 rfl (aD.c1 rfl (aH (aF rfl) cD rfl rfl (Int.natCast_nonneg _) (cF (Nat.lt_trans hk hi)) rfl) (aD.run II 2 rfl (aD.nil (by kernel_rfl) (Kept.now (aC.cond rfl (fun hc3 => ?_) (fun hc3 => ?_)))))))))))))
   ·exact aC.seq (aC.region (aB.run II 1 rfl (aB.nil (aC.ret ⟨.inr rfl, (aE.r1 rfl (.tmp rfl .nil)).cast (congrArg AV.bool (by grind [once])), rfl⟩))))
   ·exact aC.skip (aC.region (aB.run II 3 rfl (aB.kept (Kept.aY 4 rfl (inc (by omega)) (Kept.aJ [.s 4, .h, .s 0, .s 3] rfl (by decide) (Kept.now ⟨k + 1, by omega, by grind, rfl⟩))))))
  ·have hk := Li hc2
   have hT := cE (p := fun b => l[i] == b) (l := l.take i) (i := k) (by simp; omega)
   exact aC.exit (aC.region (aB.run II 3 rfl (aB.kept (Kept.aY 3 rfl (inc (by omega)) (Kept.aJ [.s 3, .h, .s 0] rfl (by decide) (Kept.now ⟨i + 1, by omega, by grind, rfl⟩))))))
 ·have hi := dE hc1
  have hS := sg hi
  exact aC.exit (aC.seq (aC.region (aB.run II 1 rfl (aB.nil (aC.ret ⟨.inr rfl, (aE.r1 rfl (.tmp rfl .nil)).cast (congrArg AV.bool (by grind [once])), rfl⟩)))))
theorem x8 (l : List aw) (hl : l.length ≤ 9223372036854775807) : Pure Tryz.prog 114 [.sl (l.map .str)] (.bool (kH l)) := by
 refine Pure.aL Tryz.func114 rfl rfl (aF rfl) fun H => (aC.seq (aC.region (aB.run II 1 rfl (aB.nil (aC.seq (aC.seq (aC.region (aB.run II 1 rfl (aB.nil (aC.blk (aC.aK (Kept.aJ [.s 3, .h, .s 0] rfl (by decide) (Kept.now (aC.aX (fun (i : Nat) => [(.s 3, .sv (.v (.int .i64 (i : Int))))]) _ (fun (i : Nat) => 0 < i ∧ kH (l.drop (i - 1)) = kH l) (fun (i : Nat) => l.length - i) 1 rfl (by simp) ?_))))))))))))))
 rintro i hI
 refine aC.seq (aC.seq (aC.region (aB.run II 4 rfl (aB.nil (aC.cond rfl (fun hc1 => ?_) (fun hc1 => ?_))))))
 ·have hi := dD hc1
  have hS := vr hI.1 hi
  refine aC.skip (aC.seq (aC.blk (aC.seq (aC.drawn mixed rfl (aD.run II 3 rfl (aD.c1 rfl (aH (aF rfl) cD rfl rfl (by rw [oI hI.1 (by omega)]; exact Int.natCast_nonneg _) (qF (oI hI.1 (by omega)) (show i - 1 < l.length by omega)) rfl) ?_))))))
  refine aD.run II 3 rfl (aD.c1 rfl (aH (aF rfl) cD rfl rfl (Int.natCast_nonneg _) (cF hi) rfl) (aD.run II 2 rfl (aD.nil (by kernel_rfl) (Kept.now (aC.cond rfl (fun hc2 => ?_) (fun hc2 => ?_))))))
  ·exact aC.seq (aC.region (aB.run II 1 rfl (aB.nil (aC.ret ⟨.inr rfl, (aE.r1 rfl (.tmp rfl .nil)).cast (congrArg AV.bool (by grind [])), rfl⟩))))
  ·exact aC.skip (aC.region (aB.run II 3 rfl (aB.kept (Kept.aY 3 rfl (inc (by omega)) (Kept.aJ [.s 3, .h, .s 0] rfl (by decide) (Kept.now (⟨i + 1, by omega, ⟨by omega, by grind⟩, rfl⟩)))))))
 ·have hi := dE hc1
  have hS := zI hI.1 hi
  exact aC.exit (aC.seq (aC.region (aB.run II 1 rfl (aB.nil (aC.ret ⟨.inr rfl, (aE.r1 rfl (.tmp rfl .nil)).cast (congrArg AV.bool (by grind [])), rfl⟩)))))
theorem sS (l : List Int) (hl : l.length ≤ 9223372036854775807) : Pure Tryz.prog 113 [.sl (l.map jj)] (.bool (ek l)) := by
 refine Pure.aL Tryz.func113 rfl rfl (aF rfl) fun H => (aC.seq (aC.region (aB.run II 1 rfl (aB.nil (aC.seq (aC.seq (aC.region (aB.run II 1 rfl (aB.nil (aC.blk (aC.aK (Kept.aJ [.s 3, .h, .s 0] rfl (by decide) (Kept.now (aC.aX (fun (i : Nat) => [(.s 3, .sv (.v (.int .i64 (i : Int))))]) _ (fun (i : Nat) => 0 < i ∧ ek (l.drop (i - 1)) = ek l) (fun (i : Nat) => l.length - i) 1 rfl (by simp) ?_))))))))))))))
 rintro i hI
 refine aC.seq (aC.seq (aC.region (aB.run II 4 rfl (aB.nil (aC.cond rfl (fun hc1 => ?_) (fun hc1 => ?_))))))
 ·have hi := dD hc1
  have hS := vq hI.1 hi
  refine aC.skip (aC.seq (aC.blk (aC.seq (aC.drawn mixed rfl (aD.run II 3 rfl (aD.c1 rfl (aH (aF rfl) cm rfl rfl (by rw [oI hI.1 (by omega)]; exact Int.natCast_nonneg _) (qF (oI hI.1 (by omega)) (show i - 1 < l.length by omega)) rfl) ?_))))))
  refine aD.run II 3 rfl (aD.c1 rfl (aH (aF rfl) cm rfl rfl (Int.natCast_nonneg _) (cF hi) rfl) (aD.run II 2 rfl (aD.nil (by kernel_rfl) (Kept.now (aC.cond rfl (fun hc2 => ?_) (fun hc2 => ?_))))))
  ·exact aC.seq (aC.region (aB.run II 1 rfl (aB.nil (aC.ret ⟨.inr rfl, (aE.r1 rfl (.tmp rfl .nil)).cast (congrArg AV.bool (by grind [])), rfl⟩))))
  ·exact aC.skip (aC.region (aB.run II 3 rfl (aB.kept (Kept.aY 3 rfl (inc (by omega)) (Kept.aJ [.s 3, .h, .s 0] rfl (by decide) (Kept.now (⟨i + 1, by omega, ⟨by omega, by grind⟩, rfl⟩)))))))
 ·have hi := dE hc1
  have hS := zH hI.1 hi
  exact aC.exit (aC.seq (aC.region (aB.run II 1 rfl (aB.nil (aC.ret ⟨.inr rfl, (aE.r1 rfl (.tmp rfl .nil)).cast (congrArg AV.bool (by grind [])), rfl⟩)))))
theorem GU (l : List Int) (n : Int) (hl : l.length ≤ 9223372036854775807) : Pure Tryz.prog 116 [.sl (l.map jj), .int .i64 n] (.bool (l.any (· == n))) := by
 refine Pure.aL Tryz.func116 rfl rfl (aF rfl) fun H => (aC.seq (aC.region (aB.run II 1 rfl (aB.nil (aC.seq (aC.seq (aC.region (aB.run II 1 rfl (aB.nil (aC.blk (aC.aK (Kept.aJ [.s 5, .h, .s 0, .s 1] rfl (by decide) (Kept.now (aC.aX (fun (i : Nat) => [(.s 5, .sv (.v (.int .i64 (i : Int))))]) _ (fun (i : Nat) => (l.drop i).any (· == n) = l.any (· == n)) (fun (i : Nat) => l.length - i) 0 rfl (by simp) ?_))))))))))))))
 rintro i hI
 refine aC.seq (aC.seq (aC.region (aB.run II 4 rfl (aB.nil (aC.cond rfl (fun hc1 => ?_) (fun hc1 => ?_))))))
 ·have hi := dD hc1
  have hS := bb (p := (· == n)) hi
  refine aC.skip (aC.seq (aC.blk (aC.seq (aC.region (aB.run II 2 rfl (aB.c1 rfl (aH (aF rfl) cm rfl rfl (Int.natCast_nonneg _) (cF hi) rfl) (aB.run II 3 rfl (aB.nil (aC.cond rfl (fun hc2 => ?_) (fun hc2 => ?_))))))))))
  ·exact aC.seq (aC.region (aB.run II 1 rfl (aB.nil (aC.ret ⟨.inr rfl, (aE.r1 rfl (.tmp rfl .nil)).cast (congrArg AV.bool (by grind [])), rfl⟩))))
  ·exact aC.skip (aC.region (aB.run II 3 rfl (aB.kept (Kept.aY 5 rfl (inc (by omega)) (Kept.aJ [.s 5, .h, .s 0, .s 1] rfl (by decide) (Kept.now ⟨i + 1, by omega, by grind, rfl⟩))))))
 ·have hi := dE hc1
  have hS := cE (p := (· == n)) hi
  exact aC.exit (aC.seq (aC.region (aB.run II 1 rfl (aB.nil (aC.ret ⟨.inr rfl, (aE.r1 rfl (.tmp rfl .nil)).cast (congrArg AV.bool (by grind [])), rfl⟩)))))
theorem iY (s : aN) (name : aw) (hl : s.msgs.length ≤ 9223372036854775807) : Pure Tryz.prog 47 [s.av, .str name] (.int .i64 (s.bJ name)) := by
 refine Pure.aL Tryz.func47 rfl rfl (aF rfl) fun H => (aC.seq (aC.region (aB.run II 2 rfl (aB.nil (aC.seq (aC.seq (aC.region (aB.run II 1 rfl (aB.nil (aC.blk (aC.aK (Kept.aJ [.s 5, .h, .s 1, .s 2, .b 2] rfl (by decide) (Kept.now (aC.aX (fun (i : Nat) => [(.s 5, .sv (.v (.int .i64 (i : Int))))]) _ (fun (i : Nat) => bS (fun m : aT => m.name == name) (s.msgs.drop i) i = s.bJ name) (fun (i : Nat) => s.msgs.length - i) 0 rfl (by simp [aN.bJ]) ?_))))))))))))))
 rintro i hI
 refine aC.seq (aC.seq (aC.region (aB.run II 5 rfl (aB.nil (aC.cond rfl (fun hc1 => ?_) (fun hc1 => ?_))))))
 ·have hi := dD hc1
  have hS := cQ (p := (fun m : aT => m.name == name)) hi
  refine aC.skip (aC.seq (aC.blk (aC.seq (aC.region (aB.run II 3 rfl (aB.c1 rfl (aH (aF rfl) bM rfl rfl (Int.natCast_nonneg _) (cF hi) rfl) (aB.run II 4 rfl (aB.nil (aC.cond rfl (fun hc2 => ?_) (fun hc2 => ?_))))))))))
  ·exact aC.seq (aC.region (aB.run II 2 rfl (aB.nil (aC.ret ⟨.inr rfl, (aE.r1 rfl (.tmp rfl .nil)).cast (congrArg (AV.int .i64) (by grind [aN.bJ])), rfl⟩))))
  ·exact aC.skip (aC.region (aB.run II 3 rfl (aB.kept (Kept.aY 5 rfl (inc (by omega)) (Kept.aJ [.s 5, .h, .s 1, .s 2, .b 2] rfl (by decide) (Kept.now ⟨i + 1, by omega, by grind, rfl⟩))))))
 ·have hi := dE hc1
  have hS := dd (p := (fun m : aT => m.name == name)) hi
  exact aC.exit (aC.seq (aC.region (aB.run II 1 rfl (aB.nil (aC.ret ⟨.inr rfl, (aE.r1 rfl (.tmp rfl .nil)).cast (congrArg (AV.int .i64) (by grind [aN.bJ])), rfl⟩)))))
theorem uC (s : aN) (name : aw) (hl : s.enums.length ≤ 9223372036854775807) : Pure Tryz.prog 117 [s.av, .str name] (.int .i64 (s.eO name)) := by
 refine Pure.aL Tryz.func117 rfl rfl (aF rfl) fun H => (aC.seq (aC.region (aB.run II 2 rfl (aB.nil (aC.seq (aC.seq (aC.region (aB.run II 1 rfl (aB.nil (aC.blk (aC.aK (Kept.aJ [.s 5, .h, .s 1, .s 2, .b 2] rfl (by decide) (Kept.now (aC.aX (fun (i : Nat) => [(.s 5, .sv (.v (.int .i64 (i : Int))))]) _ (fun (i : Nat) => bS (fun m : dk => m.name == name) (s.enums.drop i) i = s.eO name) (fun (i : Nat) => s.enums.length - i) 0 rfl (by simp [aN.eO]) ?_))))))))))))))
 rintro i hI
 refine aC.seq (aC.seq (aC.region (aB.run II 5 rfl (aB.nil (aC.cond rfl (fun hc1 => ?_) (fun hc1 => ?_))))))
 ·have hi := dD hc1
  have hS := cQ (p := (fun m : dk => m.name == name)) hi
  refine aC.skip (aC.seq (aC.blk (aC.seq (aC.region (aB.run II 3 rfl (aB.c1 rfl (aH (aF rfl) dN rfl rfl (Int.natCast_nonneg _) (cF hi) rfl) (aB.run II 4 rfl (aB.nil (aC.cond rfl (fun hc2 => ?_) (fun hc2 => ?_))))))))))
  ·exact aC.seq (aC.region (aB.run II 2 rfl (aB.nil (aC.ret ⟨.inr rfl, (aE.r1 rfl (.tmp rfl .nil)).cast (congrArg (AV.int .i64) (by grind [aN.eO])), rfl⟩))))
  ·exact aC.skip (aC.region (aB.run II 3 rfl (aB.kept (Kept.aY 5 rfl (inc (by omega)) (Kept.aJ [.s 5, .h, .s 1, .s 2, .b 2] rfl (by decide) (Kept.now ⟨i + 1, by omega, by grind, rfl⟩))))))
 ·have hi := dE hc1
  have hS := dd (p := (fun m : dk => m.name == name)) hi
  exact aC.exit (aC.seq (aC.region (aB.run II 1 rfl (aB.nil (aC.ret ⟨.inr rfl, (aE.r1 rfl (.tmp rfl .nil)).cast (congrArg (AV.int .i64) (by grind [aN.eO])), rfl⟩)))))
theorem HS (f : ag) : Pure Tryz.prog 111 [f.av] (.int .i64 f.gC) := by
 refine Pure.aL Tryz.func111 rfl rfl (aF rfl) fun H => (aC.seq (aC.region (aB.run II 2 rfl (aB.nil (aC.cI [.h, .s 1, .b 1] (fun (_ : Unit) => []) (fun (_ : Unit) => aq f.name = true ∧ (f.one = [] ∨ aq f.one = true)) rfl ?_ ?_)))))
 ·refine aC.seq (aC.region (aB.run II 2 rfl (aB.c1 rfl (aG (aF rfl) eE rfl (dU _)) (aB.run II 2 rfl (aB.tell (d := 7) rfl (fun hg1 => ?_) (fun hg1 => ?_))))))
  ·exact aB.run II 10 rfl (aB.nil (aC.az rfl rfl (aC.seq (aC.region (aB.run II 1 rfl (aB.nil (aC.ret ⟨.inr rfl, (aE.r1 rfl (.tmp rfl .nil)).cast (congrArg (AV.int .i64) (by grind [ag.gC])), rfl⟩)))))))
  ·refine aB.run II 4 rfl (aB.tell (d := 11) rfl (fun hg2 => ?_) (fun hg2 => ?_))
   ·refine aB.run II 2 rfl (aB.g1 rfl (aF rfl) rfl rfl (aG (aF rfl) eE rfl (dU _)) (aB.run II 3 rfl (aB.nil (aC.cond rfl (fun hc3 => ?_) (fun hc3 => ?_)))))
    ·exact aC.seq (aC.region (aB.run II 1 rfl (aB.nil (aC.ret ⟨.inr rfl, (aE.r1 rfl (.tmp rfl .nil)).cast (congrArg (AV.int .i64) (by grind [ag.gC])), rfl⟩))))
    ·exact aC.aK (Kept.aJ [.h, .s 1, .b 1] rfl (by decide) (Kept.now (aC.skip ⟨(), by grind, rfl⟩)))
   ·exact aB.run II 6 rfl (aB.nil (aC.aZ rfl rfl (aC.aK (Kept.aJ [.h, .s 1, .b 1] rfl (by decide) (Kept.now (aC.skip ⟨(), by grind, rfl⟩))))))
 ·rintro _ hF3
  refine aC.cI [.h, .s 1, .b 1] (fun (_ : Unit) => []) (fun (_ : Unit) => ((f.ty = 14 ∨ f.ty = 15) ∧ aq f.ref = true) ∨ (¬ (f.ty = 14 ∨ f.ty = 15) ∧ f.ref = [])) rfl ?_ ?_
  ·refine aC.seq (aC.region (aB.run II 4 rfl (aB.tell (d := 21) rfl (fun hg4 => ?_) (fun hg4 => ?_))))
   ·refine aB.run II 4 rfl (aB.nil (aC.az rfl rfl (aC.seq (aC.region (aB.run II 2 rfl (aB.c1 rfl (aG (aF rfl) eE rfl (dU _)) (aB.run II 1 rfl (aB.nil (aC.cond rfl (fun hc5 => ?_) (fun hc5 => ?_))))))))))
    ·exact aC.seq (aC.region (aB.run II 1 rfl (aB.nil (aC.ret ⟨.inr rfl, (aE.r1 rfl (.tmp rfl .nil)).cast (congrArg (AV.int .i64) (by grind [ag.gC])), rfl⟩))))
    ·exact aC.aK (Kept.aJ [.h, .s 1, .b 1] rfl (by decide) (Kept.now (aC.skip ⟨(), by grind, rfl⟩)))
   ·refine aB.run II 4 rfl (aB.nil (aC.cond rfl (fun hc6 => ?_) (fun hc6 => ?_)))
    ·refine aC.seq (aC.region (aB.run II 2 rfl (aB.c1 rfl (aG (aF rfl) eE rfl (dU _)) (aB.run II 1 rfl (aB.nil (aC.cond rfl (fun hc7 => ?_) (fun hc7 => ?_)))))))
     ·exact aC.seq (aC.region (aB.run II 1 rfl (aB.nil (aC.ret ⟨.inr rfl, (aE.r1 rfl (.tmp rfl .nil)).cast (congrArg (AV.int .i64) (by grind [ag.gC])), rfl⟩))))
     ·exact aC.aK (Kept.aJ [.h, .s 1, .b 1] rfl (by decide) (Kept.now (aC.skip ⟨(), by grind, rfl⟩)))
    ·refine aC.seq (aC.region (aB.run II 3 rfl (aB.nil (aC.cond rfl (fun hc8 => ?_) (fun hc8 => ?_)))))
     ·exact aC.seq (aC.region (aB.run II 1 rfl (aB.nil (aC.ret ⟨.inr rfl, (aE.r1 rfl (.tmp rfl .nil)).cast (congrArg (AV.int .i64) (by grind [ag.gC])), rfl⟩))))
     ·exact aC.aK (Kept.aJ [.h, .s 1, .b 1] rfl (by decide) (Kept.now (aC.skip ⟨(), by grind, rfl⟩)))
  ·rintro _ hF8
   refine aC.cI [.h, .s 1, .b 1] (fun (_ : Unit) => []) (fun (_ : Unit) => oH f.num = true ∧ 1 ≤ f.ty ∧ f.ty ≤ 15 ∧ (f.rep = false ∨ f.one = [])) rfl ?_ ?_
   ·refine aC.seq (aC.region (aB.run II 2 rfl (aB.c1 rfl (aG (aF rfl) dp rfl (fE _)) (aB.run II 2 rfl (aB.tell (d := 37) rfl (fun hg9 => ?_) (fun hg9 => ?_))))))
    ·exact aB.run II 18 rfl (aB.nil (aC.az rfl rfl (aC.seq (aC.region (aB.run II 1 rfl (aB.nil (aC.ret ⟨.inr rfl, (aE.r1 rfl (.tmp rfl .nil)).cast (congrArg (AV.int .i64) (by grind [ag.gC])), rfl⟩)))))))
    ·refine aB.run II 5 rfl (aB.tell (d := 42) rfl (fun hg10 => ?_) (fun hg10 => ?_))
     ·exact aB.run II 13 rfl (aB.nil (aC.az rfl rfl (aC.seq (aC.region (aB.run II 1 rfl (aB.nil (aC.ret ⟨.inr rfl, (aE.r1 rfl (.tmp rfl .nil)).cast (congrArg (AV.int .i64) (by grind [ag.gC])), rfl⟩)))))))
     ·refine aB.run II 5 rfl (aB.tell (d := 47) rfl (fun hg11 => ?_) (fun hg11 => ?_))
      ·exact aB.run II 8 rfl (aB.nil (aC.az rfl rfl (aC.seq (aC.region (aB.run II 1 rfl (aB.nil (aC.ret ⟨.inr rfl, (aE.r1 rfl (.tmp rfl .nil)).cast (congrArg (AV.int .i64) (by grind [ag.gC])), rfl⟩)))))))
      ·refine aB.run II 3 rfl (aB.tell (d := 50) rfl (fun hg12 => ?_) (fun hg12 => ?_))
       ·refine aB.run II 5 rfl (aB.nil (aC.cond rfl (fun hc13 => ?_) (fun hc13 => ?_)))
        ·exact aC.seq (aC.region (aB.run II 1 rfl (aB.nil (aC.ret ⟨.inr rfl, (aE.r1 rfl (.tmp rfl .nil)).cast (congrArg (AV.int .i64) (by grind [ag.gC])), rfl⟩))))
        ·exact aC.aK (Kept.aJ [.h, .s 1, .b 1] rfl (by decide) (Kept.now (aC.skip ⟨(), by grind, rfl⟩)))
       ·exact aB.run II 5 rfl (aB.nil (aC.aZ rfl rfl (aC.aK (Kept.aJ [.h, .s 1, .b 1] rfl (by decide) (Kept.now (aC.skip ⟨(), by grind, rfl⟩))))))
   ·rintro _ hF10
    refine aC.seq (aC.seq (aC.region (aB.run II 3 rfl (aB.tell (d := 58) rfl (fun hg14 => ?_) (fun hg14 => ?_)))))
    ·refine aB.run II 4 rfl (aB.tell (d := 62) rfl (fun hg15 => ?_) (fun hg15 => ?_))
     ·exact aB.run II 6 rfl (aB.nil (aC.az rfl rfl (aC.seq (aC.region (aB.run II 1 rfl (aB.nil (aC.ret ⟨.inr rfl, (aE.r1 rfl (.tmp rfl .nil)).cast (congrArg (AV.int .i64) (by grind [ag.gC])), rfl⟩)))))))
     ·refine aB.run II 2 rfl (aB.g1 rfl (aF rfl) rfl rfl (aG (aF rfl) yO rfl (BK _)) (aB.run II 3 rfl (aB.nil (aC.cond rfl (fun hc16 => ?_) (fun hc16 => ?_)))))
      ·exact aC.seq (aC.region (aB.run II 1 rfl (aB.nil (aC.ret ⟨.inr rfl, (aE.r1 rfl (.tmp rfl .nil)).cast (congrArg (AV.int .i64) (by grind [ag.gC])), rfl⟩))))
      ·exact aC.skip (aC.seq (aC.region (aB.run II 1 rfl (aB.nil (aC.ret ⟨.inr rfl, (aE.r1 rfl (.tmp rfl .nil)).cast (congrArg (AV.int .i64) (by grind [ag.gC])), rfl⟩)))))
    ·exact aB.run II 10 rfl (aB.nil (aC.aZ rfl rfl (aC.skip (aC.seq (aC.region (aB.run II 1 rfl (aB.nil (aC.ret ⟨.inr rfl, (aE.r1 rfl (.tmp rfl .nil)).cast (congrArg (AV.int .i64) (by grind [ag.gC])), rfl⟩))))))))
end Go.Proofs.YtlijgcifhhcfaaaGreatDoor.X
