/- the document: steps. -/
import Derived.Test.YtabihkfhoohfnaaGreatDoorZBI
import Derived.Test.YtabihkfhoohfnaaGreatDoorZBE
import Derived.Test.YtabihkfhoohfnaaGreatDoorZBC
import Derived.Test.YtabihkfhoohfnaaGreatDoorRows
import Derived.ProofKit
import Derived.LaidMore
import Derived.OpenShut
import Derived.Stop.Joined
import Derived.HandedShaped
import Derived.Shelf.Vars
import Derived.LaidLaws
import Derived.Lib.LaidU8T
set_option linter.unusedVariables false
set_option linter.unusedSimpArgs false
set_option linter.unusedSectionVars false
set_option maxRecDepth 100000
namespace Go.Proofs.YtabihkfhoohfnaaGreatDoor.X
open Go Go.RowKit Go.Proofs
theorem fn120_q : isFn Tryz.prog 120 = true := by kernel_rfl
theorem fn121_q : isFn Tryz.prog 121 = true := by kernel_rfl
theorem fn51_q : isFn Tryz.prog 51 = true := by kernel_rfl
theorem fn52_q : isFn Tryz.prog 52 = true := by kernel_rfl
theorem fn87_q : isFn Tryz.prog 87 = true := by kernel_rfl
theorem fn88_q : isFn Tryz.prog 88 = true := by kernel_rfl
theorem fn89_q : isFn Tryz.prog 89 = true := by kernel_rfl
theorem fn90_q : isFn Tryz.prog 90 = true := by kernel_rfl
theorem fn91_q : isFn Tryz.prog 91 = true := by kernel_rfl
theorem gNeeds_one {L : List Tk} {w : Str} {i : Nat} : gNeeds L [w] i = gNeed L w i := by
 show (gNeed L w i).bind (fun _ j => .ok () j) = _
 cases gNeed L w i <;> rfl
theorem rneed1_run {L : List Tk} (hL : Toks L) (H : Hp) (id : Nat) {i : Nat} (hi : i < L.length) (b : Bool) {j : Nat} {c : Bool} {x : Unit} (w : Str) (e : stp b i () (gNeeds L [w] i) = (x, j, c)) : Run Tryz.prog 52 [.op id 0, .str w] (HatB H id L i b) (.tup []) (HatB H id L j c) := rneed_run hL H id hi b w (gNeeds_one ▸ e)
theorem stp_bind {α β : Type} {b : Bool} {i : Nat} {d x : α} {d' : β} {r : PR α} {j : Nat} {c : Bool} {f : α → Nat → PR β} {t : β × Nat × Bool} (e1 : stp b i d r = (x, j, c)) (e2 : stp c j d' (f x j) = t) : stp b i d' (r.bind f) = t := by
 unfold stp at *
 cases b with
 | true => cases e1; exact e2
 | false =>
  cases r with
  | ok a k => cases e1; exact e2
  | bad k => cases e1; exact e2
theorem rgiven_run {L : List Tk} (hL : Toks L) (H : Hp) (id : Nat) {i : Nat} (hi : i < L.length) (b : Bool) {j : Nat} {c : Bool} {x : Int} (e : stp b i 0 (gGiven L i) = (x, j, c)) : Run Tryz.prog 90 [.op id 0] (HatB H id L i b) (.int .i64 x) (HatB H id L j c) := by
 refine Run.of_tri Tryz.func90 rfl rfl (ltb rfl) ?_
 refine Tri.seq (Tri.region ?_)
 refine TriL.c1 rfl (op_as (ltb rfl) rfl) ?_
 refine TriL.nil (Tri.seq (Tri.region ?_))
 refine TriL.c1 rfl (op_mv (ltb rfl) rfl) ?_
 obtain ⟨x1, j1, b1, e1⟩ : ∃ xx_ jj_ cc_, stp b i () (gNeeds L [[61]] i) = (xx_, jj_, cc_) := ⟨_, _, _, rfl⟩
 have hj1 : j1 < L.length := stp_lt ⟨hi, gNeeds_in hL hi⟩ e1
 refine TriL.c2 rfl (op_callh (ltb rfl) fn52_q rfl rfl (rneed1_run hL _ id hi b [61] e1)) ?_
 refine TriL.nil (Tri.seq (Tri.region ?_))
 refine TriL.c1 rfl (op_mv (ltb rfl) rfl) ?_
 obtain ⟨x2, j2, b2, e2⟩ : ∃ xx_ jj_ cc_, stp b1 j1 0 (gNum L j1) = (xx_, jj_, cc_) := ⟨_, _, _, rfl⟩
 have hj2 : j2 < L.length := stp_lt ⟨hj1, gNum_in hL hj1⟩ e2
 refine TriL.c2 rfl (op_callh (ltb rfl) fn87_q rfl rfl (rnumber_run hL _ id hj1 b1 e2)) ?_
 refine TriL.c1 rfl (op_as (ltb rfl) rfl) ?_
 refine TriL.nil (Tri.ret ?_)
 cases (stp_bind (f := fun _ j => gNum L j) e1 e2).symm.trans e
 exact ⟨.inr rfl, (ResOK.r1 rfl (.tmp rfl .nil)).cast rfl, rfl⟩
def whP (w : Bool) (t : Int) : Bool := !w || wholeT t
theorem rty_run {L : List Tk} (hL : Toks L) (H : Hp) (id : Nat) {i : Nat} (hi : i < L.length) (b : Bool) {j : Nat} {c : Bool} {x : Int} (w : Bool) (e : stp b i 0 (gTy L (whP w) i) = (x, j, c)) : Run Tryz.prog 88 [.op id 0, .bool w] (HatB H id L i b) (.int .i64 x) (HatB H id L j c) := by
 refine Run.of_tri Tryz.func88 rfl rfl (ltb rfl) ?_
 refine Tri.seq (Tri.region ?_)
 refine TriL.c1 rfl (op_as (ltb rfl) rfl) ?_
 refine TriL.nil (Tri.seq ?_)
 refine Tri.drawn mixed rfl ?_
 refine TriD.c1 rfl (op_mv (ltb rfl) rfl) ?_
 refine TriD.c1 rfl (op_nckc (ltb rfl) rfl) ?_
 refine TriD.c1 rfl (op_fac (ltb rfl) fo66_0_q rfl) ?_
 refine TriD.c1 rfl (op_ldc (ltb rfl) lk61_q rfl rfl Hp.set_obj rfl) ?_
 refine TriD.c1 rfl (op_mv (ltb rfl) rfl) ?_
 refine TriD.c1 rfl (op_nckc (ltb rfl) rfl) ?_
 refine TriD.c1 rfl (op_fac (ltb rfl) fo66_1_q rfl) ?_
 refine TriD.c1 rfl (op_ldc (ltb rfl) lk3_q rfl rfl Hp.set_obj rfl) ?_
 refine TriD.c1 rfl (op_iak (ltb rfl) ie61_q rfl rfl (Int.natCast_nonneg _) (tkAt_ix hi) rfl) ?_
 refine TriD.c1 rfl (op_ldk (ltb rfl) lk68_q rfl rfl) ?_
 refine TriD.c2 rfl (op_all (ltb rfl) zA68_q rfl) ?_
 refine TriD.c1 rfl (op_stl lk68_q rfl rfl rfl rfl rfl (leb rfl)) ?_
 refine TriD.nil (by kernel_rfl) (Kept.now ?_)
 refine Tri.seq (Tri.region ?_)
 refine TriL.c1 rfl (op_fal (ltb rfl) fo68_1_q rfl) ?_
 refine TriL.c1 rfl (op_ldl (ltb rfl) lk9_q rfl rfl rfl) ?_
 refine TriL.c1 rfl (op_call (ltb rfl) fn120_q rfl (r_of _)) ?_
 refine TriL.c1 rfl (op_as (ltb rfl) rfl) ?_
 refine TriL.nil (Tri.seq (Tri.seq (Tri.region ?_)))
 refine TriL.c1 rfl (op_mv (ltb rfl) rfl) ?_
 refine TriL.c1 rfl (op_nckc (ltb rfl) rfl) ?_
 refine TriL.c1 rfl (op_fac (ltb rfl) fo66_2_q rfl) ?_
 refine TriL.c1 rfl (op_ldc (ltb rfl) lk4_q rfl rfl Hp.set_obj rfl) ?_
 refine TriL.c1 rfl (op_mv (ltb rfl) rfl) ?_
 refine TriL.split (d := 24) rfl (fun hg1 => ?_) (fun hg1 => ?_)
 ·iterate 3 (refine TriL.skipu rfl rfl (ltb rfl) (ltb rfl) rfl hg1 ?_)
  refine TriL.c1 rfl (op_pickt (ltb rfl) rfl hg1 rfl) ?_
  refine TriL.c1 rfl (op_mv (ltb rfl) rfl) ?_
  iterate 2 (refine TriL.skipu rfl rfl (ltb rfl) (ltb rfl) rfl rfl ?_)
  refine TriL.c1 rfl (op_pickt (ltb rfl) rfl rfl rfl) ?_
  refine TriL.c1 rfl (op_mv (ltb rfl) rfl) ?_
  iterate 2 (refine TriL.skipu rfl rfl (ltb rfl) (ltb rfl) rfl rfl ?_)
  iterate 3 (refine TriL.skipg rfl rfl (ltb rfl) (ltb rfl) rfl ?_)
  refine TriL.skipu rfl rfl (ltb rfl) (ltb rfl) rfl rfl ?_
  refine TriL.c1 rfl (op_pickt (ltb rfl) rfl rfl rfl) ?_
  refine TriL.nil ?_
  refine Tri.condT rfl rfl ?_
  refine Tri.seq (Tri.region ?_)
  refine TriL.c1 rfl (op_mv (ltb rfl) rfl) ?_
  refine TriL.c1 rfl (op_nckc (ltb rfl) rfl) ?_
  refine TriL.c1 rfl (op_fac (ltb rfl) fo66_2_q rfl) ?_
  refine TriL.c1 rfl (op_stc lk4_q rfl rfl Hp.set_obj rfl rfl rfl) ?_
  refine TriL.nil (Tri.seq (Tri.region ?_))
  refine TriL.c1 rfl (op_as (ltb rfl) rfl) ?_
  refine TriL.nil (Tri.ret ?_)
  obtain ⟨rfl, rfl, rfl⟩ : (0 : Int) = x ∧ i = j ∧ true = c := by cases b <;> simp [stp] at e <;> grind [PR.bind, gTy, gOf, tyP, whP]
  exact ⟨.inr rfl, (ResOK.r1 rfl (.tmp rfl .nil)).cast rfl, (congrArg (fun h => some (CV.hp h)) (HatB_bad H id L i _))⟩
 ·refine TriL.g1 rfl (ltb rfl) rfl hg1 (op_fal (ltb rfl) fo68_0_q rfl) ?_
  refine TriL.g1 rfl (ltb rfl) rfl hg1 (op_ldl (ltb rfl) lk3_q rfl rfl rfl) ?_
  refine TriL.g1 rfl (ltb rfl) rfl hg1 (op_bin (ltb rfl) rfl rfl rfl) ?_
  refine TriL.c1 rfl (op_pickf (ltb rfl) rfl hg1 rfl) ?_
  refine TriL.c1 rfl (op_mv (ltb rfl) rfl) ?_
  refine TriL.split (d := 29) rfl (fun hg2 => ?_) (fun hg2 => ?_)
  ·iterate 2 (refine TriL.skipu rfl rfl (ltb rfl) (ltb rfl) rfl hg2 ?_)
   refine TriL.c1 rfl (op_pickt (ltb rfl) rfl hg2 rfl) ?_
   refine TriL.c1 rfl (op_mv (ltb rfl) rfl) ?_
   iterate 2 (refine TriL.skipu rfl rfl (ltb rfl) (ltb rfl) rfl rfl ?_)
   iterate 3 (refine TriL.skipg rfl rfl (ltb rfl) (ltb rfl) rfl ?_)
   refine TriL.skipu rfl rfl (ltb rfl) (ltb rfl) rfl rfl ?_
   refine TriL.c1 rfl (op_pickt (ltb rfl) rfl rfl rfl) ?_
   refine TriL.nil ?_
   refine Tri.condT rfl rfl ?_
   refine Tri.seq (Tri.region ?_)
   refine TriL.c1 rfl (op_mv (ltb rfl) rfl) ?_
   refine TriL.c1 rfl (op_nckc (ltb rfl) rfl) ?_
   refine TriL.c1 rfl (op_fac (ltb rfl) fo66_2_q rfl) ?_
   refine TriL.c1 rfl (op_stc lk4_q rfl rfl Hp.set_obj rfl rfl rfl) ?_
   refine TriL.nil (Tri.seq (Tri.region ?_))
   refine TriL.c1 rfl (op_as (ltb rfl) rfl) ?_
   refine TriL.nil (Tri.ret ?_)
   obtain ⟨rfl, rfl, rfl⟩ : (0 : Int) = x ∧ i = j ∧ true = c := by cases b <;> simp [stp] at e <;> grind [PR.bind, gTy, gOf, tyP, whP]
   exact ⟨.inr rfl, (ResOK.r1 rfl (.tmp rfl .nil)).cast rfl, (congrArg (fun h => some (CV.hp h)) (HatB_bad H id L i _))⟩
  ·refine TriL.g1 rfl (ltb rfl) rfl hg2 (op_mv (ltb rfl) rfl) ?_
   refine TriL.g1 rfl (ltb rfl) rfl hg2 (op_bin (ltb rfl) rfl rfl rfl) ?_
   refine TriL.c1 rfl (op_pickf (ltb rfl) rfl hg2 rfl) ?_
   refine TriL.c1 rfl (op_mv (ltb rfl) rfl) ?_
   refine TriL.split (d := 33) rfl (fun hg3 => ?_) (fun hg3 => ?_)
   ·iterate 2 (refine TriL.skipu rfl rfl (ltb rfl) (ltb rfl) rfl hg3 ?_)
    iterate 3 (refine TriL.skipg rfl rfl (ltb rfl) (ltb rfl) rfl ?_)
    refine TriL.skipu rfl rfl (ltb rfl) (ltb rfl) rfl hg3 ?_
    refine TriL.c1 rfl (op_pickt (ltb rfl) rfl hg3 rfl) ?_
    refine TriL.nil ?_
    refine Tri.condT rfl rfl ?_
    refine Tri.seq (Tri.region ?_)
    refine TriL.c1 rfl (op_mv (ltb rfl) rfl) ?_
    refine TriL.c1 rfl (op_nckc (ltb rfl) rfl) ?_
    refine TriL.c1 rfl (op_fac (ltb rfl) fo66_2_q rfl) ?_
    refine TriL.c1 rfl (op_stc lk4_q rfl rfl Hp.set_obj rfl rfl rfl) ?_
    refine TriL.nil (Tri.seq (Tri.region ?_))
    refine TriL.c1 rfl (op_as (ltb rfl) rfl) ?_
    refine TriL.nil (Tri.ret ?_)
    obtain ⟨rfl, rfl, rfl⟩ : (0 : Int) = x ∧ i = j ∧ true = c := by cases b <;> simp [stp] at e <;> grind [PR.bind, gTy, gOf, tyP, whP]
    exact ⟨.inr rfl, (ResOK.r1 rfl (.tmp rfl .nil)).cast rfl, (congrArg (fun h => some (CV.hp h)) (HatB_bad H id L i _))⟩
   ·iterate 2 (refine TriL.g1 rfl (ltb rfl) rfl hg3 (op_mv (ltb rfl) rfl) ?_)
    refine TriL.split (d := 35) rfl (fun hg4 => ?_) (fun hg4 => ?_)
    ·refine TriL.g1 rfl (ltb rfl) rfl hg4 (op_mv (ltb rfl) rfl) ?_
     refine TriL.g1 rfl (ltb rfl) rfl hg4 (op_call (ltb rfl) fn37_q rfl (r_wholeT _)) ?_
     refine TriL.g1 rfl (ltb rfl) rfl hg4 (op_un (ltb rfl) rfl rfl) ?_
     refine TriL.g1 rfl (ltb rfl) rfl hg3 (op_pickt (ltb rfl) rfl hg4 rfl) ?_
     refine TriL.c1 rfl (op_pickf (ltb rfl) rfl hg3 rfl) ?_
     refine TriL.nil ?_
     refine Tri.cond rfl (fun hc5 => ?_) (fun hc5 => ?_)
     ·refine Tri.seq (Tri.region ?_)
      refine TriL.c1 rfl (op_mv (ltb rfl) rfl) ?_
      refine TriL.c1 rfl (op_nckc (ltb rfl) rfl) ?_
      refine TriL.c1 rfl (op_fac (ltb rfl) fo66_2_q rfl) ?_
      refine TriL.c1 rfl (op_stc lk4_q rfl rfl Hp.set_obj rfl rfl rfl) ?_
      refine TriL.nil (Tri.seq (Tri.region ?_))
      refine TriL.c1 rfl (op_as (ltb rfl) rfl) ?_
      refine TriL.nil (Tri.ret ?_)
      obtain ⟨rfl, rfl, rfl⟩ : (0 : Int) = x ∧ i = j ∧ true = c := by cases b <;> simp [stp] at e <;> grind [PR.bind, gTy, gOf, tyP, whP]
      exact ⟨.inr rfl, (ResOK.r1 rfl (.tmp rfl .nil)).cast rfl, (congrArg (fun h => some (CV.hp h)) (HatB_bad H id L i _))⟩
     ·refine Tri.skip (Tri.seq (Tri.region ?_))
      refine TriL.c1 rfl (op_mv (ltb rfl) rfl) ?_
      refine TriL.c1 rfl (op_nckc (ltb rfl) rfl) ?_
      refine TriL.c1 rfl (op_fac (ltb rfl) fo66_1_q rfl) ?_
      refine TriL.c1 rfl (op_ldc (ltb rfl) lk3_q rfl rfl Hp.set_obj rfl) ?_
      refine TriL.c1 rfl (op_bin (ltb rfl) rfl rfl rfl) ?_
      refine TriL.c1 rfl (op_nckc (ltb rfl) rfl) ?_
      refine TriL.c1 rfl (op_fac (ltb rfl) fo66_1_q rfl) ?_
      refine TriL.c1 rfl (op_stc lk3_q rfl rfl Hp.set_obj rfl rfl rfl) ?_
      refine TriL.nil (Tri.seq (Tri.region ?_))
      refine TriL.c1 rfl (op_mv (ltb rfl) rfl) ?_
      refine TriL.c1 rfl (op_as (ltb rfl) rfl) ?_
      refine TriL.nil (Tri.ret ?_)
      obtain ⟨rfl, rfl, rfl⟩ : ofT (tkAt L i).s = x ∧ i + 1 = j ∧ b = c := by cases b <;> simp [stp] at e <;> grind [PR.bind, gTy, gOf, tyP, whP]
      exact ⟨.inr rfl, (ResOK.r1 rfl (.tmp rfl .nil)).cast rfl, (congrArg (fun h => some (CV.hp h)) (HatB_inc H id hL hi _))⟩
    ·iterate 3 (refine TriL.skipu rfl rfl (ltb rfl) (ltb rfl) rfl hg4 ?_)
     refine TriL.g1 rfl (ltb rfl) rfl hg3 (op_pickf (ltb rfl) rfl hg4 rfl) ?_
     refine TriL.c1 rfl (op_pickf (ltb rfl) rfl hg3 rfl) ?_
     refine TriL.nil ?_
     refine Tri.condF rfl rfl ?_
     refine Tri.skip (Tri.seq (Tri.region ?_))
     refine TriL.c1 rfl (op_mv (ltb rfl) rfl) ?_
     refine TriL.c1 rfl (op_nckc (ltb rfl) rfl) ?_
     refine TriL.c1 rfl (op_fac (ltb rfl) fo66_1_q rfl) ?_
     refine TriL.c1 rfl (op_ldc (ltb rfl) lk3_q rfl rfl Hp.set_obj rfl) ?_
     refine TriL.c1 rfl (op_bin (ltb rfl) rfl rfl rfl) ?_
     refine TriL.c1 rfl (op_nckc (ltb rfl) rfl) ?_
     refine TriL.c1 rfl (op_fac (ltb rfl) fo66_1_q rfl) ?_
     refine TriL.c1 rfl (op_stc lk3_q rfl rfl Hp.set_obj rfl rfl rfl) ?_
     refine TriL.nil (Tri.seq (Tri.region ?_))
     refine TriL.c1 rfl (op_mv (ltb rfl) rfl) ?_
     refine TriL.c1 rfl (op_as (ltb rfl) rfl) ?_
     refine TriL.nil (Tri.ret ?_)
     obtain ⟨rfl, rfl, rfl⟩ : ofT (tkAt L i).s = x ∧ i + 1 = j ∧ b = c := by cases b <;> simp [stp] at e <;> grind [PR.bind, gTy, gOf, tyP, whP]
     exact ⟨.inr rfl, (ResOK.r1 rfl (.tmp rfl .nil)).cast rfl, (congrArg (fun h => some (CV.hp h)) (HatB_inc H id hL hi _))⟩
theorem whP_t : whP true = wholeT := rfl
theorem whP_f : whP false = fun _ => true := rfl
theorem ofT_range (s : Str) : ofT s = 0 ∨ (1 ≤ ofT s ∧ ofT s ≤ 13) := by
 by_cases h : ∀ m, 1 ≤ m → m < 14 → tyWords.getD m [] ≠ s
 ·exact .inl (ofT_miss2 h)
 ·right
  simp only [Classical.not_forall, Classical.not_not] at h
  obtain ⟨m, h1, h2, h3⟩ := h
  have : ofT s = m := ofT_hit2 h1 (k := m) h2 (by rw [← word14 h2, h3]; simp)
  omega
theorem whole12 {t : Int} (h1 : 1 ≤ t) (h2 : t ≤ 13) (h7 : t ≠ 7) : wholeT t = decide (t < 12) := by
 have : t = 1 ∨ t = 2 ∨ t = 3 ∨ t = 4 ∨ t = 5 ∨ t = 6 ∨ t = 8 ∨ t = 9 ∨ t = 10 ∨ t = 11 ∨ t = 12 ∨ t = 13 := by omega
 rcases this with rfl | rfl | rfl | rfl | rfl | rfl | rfl | rfl | rfl | rfl | rfl | rfl <;> decide
section
variable {L : List Tk} {t : Int} {i : Nat}
theorem gv_true (h7 : t = 7) (h : gTake L [116, 114, 117, 101] i = true) : gVal L t i = .ok (.mk 1 [] []) (i + 1) := by rw [gVal, if_pos h7, if_pos h]
theorem gv_false (h7 : t = 7) (h : gTake L [116, 114, 117, 101] i = false) {x : Unit} {j : Nat} {c : Bool} (e : stp false i () (gNeeds L [[102, 97, 108, 115, 101]] i) = (x, j, c)) : stp false i (.mk 0 [] []) (gVal L t i) = (.mk 0 [] [], j, c) := by
 rw [gVal, if_pos h7, if_neg (by rw [h]; decide), stp_bind e rfl]
 cases c <;> rfl
theorem gv_tbad (h7 : ¬ t = 7) (h12 : 12 ≤ t) (ht : false = true ∨ (1 ≤ t ∧ t ≤ 13)) (hk : ¬ (tkAt L i).k = 3) : gVal L t i = .bad i := by
 obtain ⟨h1, h2⟩ := ht.resolve_left (by decide)
 rw [gVal, if_neg h7, if_pos (by rw [whole12 h1 h2 h7]; simp; omega), gOf, if_neg (fun h => hk h.1)]; rfl
theorem gv_text (h7 : ¬ t = 7) (h12 : 12 ≤ t) (ht : false = true ∨ (1 ≤ t ∧ t ≤ 13)) (hk : (tkAt L i).k = 3) : gVal L t i = .ok (.mk 0 (tkAt L i).s []) (i + 1) := by
 obtain ⟨h1, h2⟩ := ht.resolve_left (by decide)
 rw [gVal, if_neg h7, if_pos (by rw [whole12 h1 h2 h7]; simp; omega), gOf, if_pos ⟨hk, rfl⟩]; rfl
theorem gv_nbad (h7 : ¬ t = 7) (h12 : t < 12) (ht : false = true ∨ (1 ≤ t ∧ t ≤ 13)) (hk : ¬ (tkAt L i).k = 2 ∨ rdT t (tkAt L i).n (tkAt L i).neg = none) : gVal L t i = .bad i := by
 obtain ⟨h1, h2⟩ := ht.resolve_left (by decide)
 rw [gVal, if_neg h7, if_neg (by rw [whole12 h1 h2 h7]; simp; omega), gOf, if_neg (fun h => hk.elim (fun h3 => h3 h.1) (fun h3 => by have := h.2; simp [valP, h3] at this))]; rfl
theorem gv_num (h7 : ¬ t = 7) (h12 : t < 12) (ht : false = true ∨ (1 ≤ t ∧ t ≤ 13)) (hk : (tkAt L i).k = 2) (hn : (rdT t (tkAt L i).n (tkAt L i).neg).isSome = true) : gVal L t i = .ok (.mk ((rdT t (tkAt L i).n (tkAt L i).neg).getD 0) [] []) (i + 1) := by
 obtain ⟨h1, h2⟩ := ht.resolve_left (by decide)
 rw [gVal, if_neg h7, if_neg (by rw [whole12 h1 h2 h7]; simp; omega), gOf, if_pos ⟨hk, hn⟩]; rfl
end
theorem rdef_run {L : List Tk} (hL : Toks L) (H : Hp) (id : Nat) {i : Nat} (hi : i < L.length) (b : Bool) {j : Nat} {c : Bool} {x : Val} (t : Int) (ht : b = true ∨ (1 ≤ t ∧ t ≤ 13)) (e : stp b i (.mk 0 [] []) (gVal L t i) = (x, j, c)) : Run Tryz.prog 91 [.op id 0, .int .i64 t] (HatB H id L i b) (.agg x.cells) (HatB H id L j c) := by
 refine Run.of_tri Tryz.func91 rfl rfl (ltb rfl) ?_
 refine Tri.seq (Tri.region ?_)
 refine TriL.c2 rfl (op_all (ltb rfl) zA44_q rfl) ?_
 refine TriL.nil (Tri.seq ?_)
 refine Tri.drawn mixed rfl ?_
 refine TriD.c1 rfl (op_mv (ltb rfl) rfl) ?_
 refine TriD.c1 rfl (op_nckc (ltb rfl) rfl) ?_
 refine TriD.c1 rfl (op_fac (ltb rfl) fo66_0_q rfl) ?_
 refine TriD.c1 rfl (op_ldc (ltb rfl) lk61_q rfl rfl Hp.set_obj rfl) ?_
 refine TriD.c1 rfl (op_mv (ltb rfl) rfl) ?_
 refine TriD.c1 rfl (op_nckc (ltb rfl) rfl) ?_
 refine TriD.c1 rfl (op_fac (ltb rfl) fo66_1_q rfl) ?_
 refine TriD.c1 rfl (op_ldc (ltb rfl) lk3_q rfl rfl Hp.set_obj rfl) ?_
 refine TriD.c1 rfl (op_iak (ltb rfl) ie61_q rfl rfl (Int.natCast_nonneg _) (tkAt_ix hi) rfl) ?_
 refine TriD.c1 rfl (op_ldk (ltb rfl) lk68_q rfl rfl) ?_
 refine TriD.c2 rfl (op_all (ltb rfl) zA68_q rfl) ?_
 refine TriD.c1 rfl (op_stl lk68_q rfl rfl rfl rfl rfl (leb rfl)) ?_
 refine TriD.nil (by kernel_rfl) (Kept.now ?_)
 refine Tri.seq (Tri.seq (Tri.region ?_))
 refine TriL.c1 rfl (op_mv (ltb rfl) rfl) ?_
 refine TriL.c1 rfl (op_nckc (ltb rfl) rfl) ?_
 refine TriL.c1 rfl (op_fac (ltb rfl) fo66_2_q rfl) ?_
 refine TriL.c1 rfl (op_ldc (ltb rfl) lk4_q rfl rfl Hp.set_obj rfl) ?_
 refine TriL.nil ?_
 refine Tri.cond rfl (fun hc1 => ?_) (fun hc1 => ?_)
 ·refine Tri.seq (Tri.region ?_)
  refine TriL.c1 rfl (op_bld (ltb rfl) spl44_q zA44_q rfl rfl) ?_
  refine TriL.c1 rfl (op_stl lk44_q rfl rfl rfl rfl rfl (leb rfl)) ?_
  refine TriL.nil (Tri.ret ?_)
  subst hc1; simp [stp] at e; obtain ⟨rfl, rfl, rfl⟩ := e
  exact ⟨.inr rfl, (ResOK.r1 rfl (.cell lk44_q rfl rfl rfl rfl .nil)).cast rfl, rfl⟩
 ·refine Tri.skip (Tri.seq (Tri.seq (Tri.region ?_)))
  refine TriL.c1 rfl (op_mv (ltb rfl) rfl) ?_
  refine TriL.c1 rfl (op_bin (ltb rfl) rfl rfl rfl) ?_
  refine TriL.nil ?_
  refine Tri.cond rfl (fun hc2 => ?_) (fun hc2 => ?_)
  ·refine Tri.seq (Tri.seq (Tri.region ?_))
   refine TriL.c1 rfl (op_mv (ltb rfl) rfl) ?_
   cases hp1 : bTake L [116, 114, 117, 101] i b with
   | true => 
    refine TriL.c2 rfl (op_callh (ltb rfl) fn50_q rfl rfl (rtakeT hL _ id hi b hp1)) ?_
    refine TriL.nil ?_
    refine Tri.condT rfl rfl ?_
    refine Tri.seq (Tri.region ?_)
    refine TriL.c1 rfl (op_bld (ltb rfl) spl44_q zA44_q rfl rfl) ?_
    refine TriL.c1 rfl (op_stl lk44_q rfl rfl rfl rfl rfl (leb rfl)) ?_
    refine TriL.nil (Tri.ret ?_)
    subst hc1; rw [gv_true (by simpa using hc2) (by simpa [bTake] using hp1)] at e; simp [stp] at e; obtain ⟨rfl, rfl, rfl⟩ := e
    exact ⟨.inr rfl, (ResOK.r1 rfl (.cell lk44_q rfl rfl rfl rfl .nil)).cast rfl, rfl⟩
   | false => 
    refine TriL.c2 rfl (op_callh (ltb rfl) fn50_q rfl rfl (rtakeF hL _ id hi b hp1)) ?_
    refine TriL.nil ?_
    refine Tri.condF rfl rfl ?_
    refine Tri.skip (Tri.seq (Tri.region ?_))
    refine TriL.c1 rfl (op_mv (ltb rfl) rfl) ?_
    obtain ⟨x2, j2, b2, e2⟩ : ∃ xx_ jj_ cc_, stp b i () (gNeeds L [[102, 97, 108, 115, 101]] i) = (xx_, jj_, cc_) := ⟨_, _, _, rfl⟩
    have hj2 : j2 < L.length := stp_lt ⟨hi, gNeeds_in hL hi⟩ e2
    refine TriL.c2 rfl (op_callh (ltb rfl) fn52_q rfl rfl (rneed1_run hL _ id hi b [102, 97, 108, 115, 101] e2)) ?_
    refine TriL.nil (Tri.seq (Tri.region ?_))
    refine TriL.c1 rfl (op_bld (ltb rfl) spl44_q zA44_q rfl rfl) ?_
    refine TriL.c1 rfl (op_stl lk44_q rfl rfl rfl rfl rfl (leb rfl)) ?_
    refine TriL.nil (Tri.ret ?_)
    subst hc1; rw [gv_false (by simpa using hc2) (by simpa [bTake] using hp1) e2] at e; cases e
    exact ⟨.inr rfl, (ResOK.r1 rfl (.cell lk44_q rfl rfl rfl rfl .nil)).cast rfl, rfl⟩
  ·refine Tri.skip (Tri.seq (Tri.seq (Tri.region ?_)))
   refine TriL.c1 rfl (op_mv (ltb rfl) rfl) ?_
   refine TriL.c1 rfl (op_bin (ltb rfl) rfl rfl rfl) ?_
   refine TriL.nil ?_
   refine Tri.cond rfl (fun hc3 => ?_) (fun hc3 => ?_)
   ·refine Tri.seq (Tri.seq (Tri.region ?_))
    refine TriL.c1 rfl (op_fal (ltb rfl) fo68_0_q rfl) ?_
    refine TriL.c1 rfl (op_ldl (ltb rfl) lk3_q rfl rfl rfl) ?_
    refine TriL.c1 rfl (op_bin (ltb rfl) rfl rfl rfl) ?_
    refine TriL.nil ?_
    refine Tri.cond rfl (fun hc4 => ?_) (fun hc4 => ?_)
    ·refine Tri.seq (Tri.region ?_)
     refine TriL.c1 rfl (op_mv (ltb rfl) rfl) ?_
     refine TriL.c1 rfl (op_nckc (ltb rfl) rfl) ?_
     refine TriL.c1 rfl (op_fac (ltb rfl) fo66_2_q rfl) ?_
     refine TriL.c1 rfl (op_stc lk4_q rfl rfl Hp.set_obj rfl rfl rfl) ?_
     refine TriL.nil (Tri.seq (Tri.region ?_))
     refine TriL.c1 rfl (op_bld (ltb rfl) spl44_q zA44_q rfl rfl) ?_
     refine TriL.c1 rfl (op_stl lk44_q rfl rfl rfl rfl rfl (leb rfl)) ?_
     refine TriL.nil (Tri.ret ?_)
     subst hc1; rw [gv_tbad (by simpa using hc2) (by simpa using hc3) ht (by simp at hc4; omega)] at e; simp [stp] at e; obtain ⟨rfl, rfl, rfl⟩ := e
     exact ⟨.inr rfl, (ResOK.r1 rfl (.cell lk44_q rfl rfl rfl rfl .nil)).cast rfl, (congrArg (fun h => some (CV.hp h)) (HatB_bad H id L i _))⟩
    ·refine Tri.skip (Tri.seq (Tri.region ?_))
     refine TriL.c1 rfl (op_mv (ltb rfl) rfl) ?_
     refine TriL.c1 rfl (op_nckc (ltb rfl) rfl) ?_
     refine TriL.c1 rfl (op_fac (ltb rfl) fo66_1_q rfl) ?_
     refine TriL.c1 rfl (op_ldc (ltb rfl) lk3_q rfl rfl Hp.set_obj rfl) ?_
     refine TriL.c1 rfl (op_bin (ltb rfl) rfl rfl rfl) ?_
     refine TriL.c1 rfl (op_nckc (ltb rfl) rfl) ?_
     refine TriL.c1 rfl (op_fac (ltb rfl) fo66_1_q rfl) ?_
     refine TriL.c1 rfl (op_stc lk3_q rfl rfl Hp.set_obj rfl rfl rfl) ?_
     refine TriL.nil (Tri.seq (Tri.region ?_))
     refine TriL.c1 rfl (op_fal (ltb rfl) fo68_1_q rfl) ?_
     refine TriL.c1 rfl (op_ldl (ltb rfl) lk9_q rfl rfl rfl) ?_
     refine TriL.c1 rfl (op_bld (ltb rfl) spl44_q zA44_q rfl rfl) ?_
     refine TriL.c1 rfl (op_stl lk44_q rfl rfl rfl rfl rfl (leb rfl)) ?_
     refine TriL.nil (Tri.ret ?_)
     subst hc1; rw [gv_text (by simpa using hc2) (by simpa using hc3) ht (by simp at hc4; omega)] at e; simp [stp] at e; obtain ⟨rfl, rfl, rfl⟩ := e
     exact ⟨.inr rfl, (ResOK.r1 rfl (.cell lk44_q rfl rfl rfl rfl .nil)).cast rfl, (congrArg (fun h => some (CV.hp h)) (HatB_inc H id hL hi _))⟩
   ·refine Tri.skip (Tri.seq (Tri.region ?_))
    refine TriL.c1 rfl (op_mv (ltb rfl) rfl) ?_
    refine TriL.c1 rfl (op_fal (ltb rfl) fo68_2_q rfl) ?_
    refine TriL.c1 rfl (op_ldl (ltb rfl) lk41_q rfl rfl rfl) ?_
    refine TriL.c1 rfl (op_fal (ltb rfl) fo68_3_q rfl) ?_
    refine TriL.c1 rfl (op_ldl (ltb rfl) lk4_q rfl rfl rfl) ?_
    refine TriL.c1 rfl (op_call (ltb rfl) fn121_q rfl (r_read t (tkAt L i).n (tkAt L i).neg (hL.nAt hi))) ?_
    refine TriL.c1 rfl (op_mv (ltb rfl) rfl) ?_
    iterate 2 (refine TriL.c1 rfl (op_ext (ltb rfl) rfl rfl) ?_)
    iterate 2 (refine TriL.c1 rfl (op_as (ltb rfl) rfl) ?_)
    refine TriL.nil (Tri.seq (Tri.seq (Tri.region ?_)))
    refine TriL.c1 rfl (op_fal (ltb rfl) fo68_0_q rfl) ?_
    refine TriL.c1 rfl (op_ldl (ltb rfl) lk3_q rfl rfl rfl) ?_
    refine TriL.c1 rfl (op_bin (ltb rfl) rfl rfl rfl) ?_
    refine TriL.c1 rfl (op_mv (ltb rfl) rfl) ?_
    refine TriL.split (d := 62) rfl (fun hg5 => ?_) (fun hg5 => ?_)
    ·iterate 2 (refine TriL.skipu rfl rfl (ltb rfl) (ltb rfl) rfl hg5 ?_)
     refine TriL.c1 rfl (op_pickt (ltb rfl) rfl hg5 rfl) ?_
     refine TriL.nil ?_
     refine Tri.condT rfl rfl ?_
     refine Tri.seq (Tri.region ?_)
     refine TriL.c1 rfl (op_mv (ltb rfl) rfl) ?_
     refine TriL.c1 rfl (op_nckc (ltb rfl) rfl) ?_
     refine TriL.c1 rfl (op_fac (ltb rfl) fo66_2_q rfl) ?_
     refine TriL.c1 rfl (op_stc lk4_q rfl rfl Hp.set_obj rfl rfl rfl) ?_
     refine TriL.nil (Tri.seq (Tri.region ?_))
     refine TriL.c1 rfl (op_bld (ltb rfl) spl44_q zA44_q rfl rfl) ?_
     refine TriL.c1 rfl (op_stl lk44_q rfl rfl rfl rfl rfl (leb rfl)) ?_
     refine TriL.nil (Tri.ret ?_)
     subst hc1; rw [gv_nbad (by simpa using hc2) (by simpa using hc3) ht (.inl (by simp at hg5; omega))] at e; simp [stp] at e; obtain ⟨rfl, rfl, rfl⟩ := e
     exact ⟨.inr rfl, (ResOK.r1 rfl (.cell lk44_q rfl rfl rfl rfl .nil)).cast rfl, (congrArg (fun h => some (CV.hp h)) (HatB_bad H id L i _))⟩
    ·refine TriL.g1 rfl (ltb rfl) rfl hg5 (op_mv (ltb rfl) rfl) ?_
     refine TriL.g1 rfl (ltb rfl) rfl hg5 (op_un (ltb rfl) rfl rfl) ?_
     refine TriL.c1 rfl (op_pickf (ltb rfl) rfl hg5 rfl) ?_
     refine TriL.nil ?_
     refine Tri.cond rfl (fun hc6 => ?_) (fun hc6 => ?_)
     ·refine Tri.seq (Tri.region ?_)
      refine TriL.c1 rfl (op_mv (ltb rfl) rfl) ?_
      refine TriL.c1 rfl (op_nckc (ltb rfl) rfl) ?_
      refine TriL.c1 rfl (op_fac (ltb rfl) fo66_2_q rfl) ?_
      refine TriL.c1 rfl (op_stc lk4_q rfl rfl Hp.set_obj rfl rfl rfl) ?_
      refine TriL.nil (Tri.seq (Tri.region ?_))
      refine TriL.c1 rfl (op_bld (ltb rfl) spl44_q zA44_q rfl rfl) ?_
      refine TriL.c1 rfl (op_stl lk44_q rfl rfl rfl rfl rfl (leb rfl)) ?_
      refine TriL.nil (Tri.ret ?_)
      subst hc1; rw [gv_nbad (by simpa using hc2) (by simpa using hc3) ht (.inr (by simpa using hc6))] at e; simp [stp] at e; obtain ⟨rfl, rfl, rfl⟩ := e
      exact ⟨.inr rfl, (ResOK.r1 rfl (.cell lk44_q rfl rfl rfl rfl .nil)).cast rfl, (congrArg (fun h => some (CV.hp h)) (HatB_bad H id L i _))⟩
     ·refine Tri.skip (Tri.seq (Tri.region ?_))
      refine TriL.c1 rfl (op_mv (ltb rfl) rfl) ?_
      refine TriL.c1 rfl (op_nckc (ltb rfl) rfl) ?_
      refine TriL.c1 rfl (op_fac (ltb rfl) fo66_1_q rfl) ?_
      refine TriL.c1 rfl (op_ldc (ltb rfl) lk3_q rfl rfl Hp.set_obj rfl) ?_
      refine TriL.c1 rfl (op_bin (ltb rfl) rfl rfl rfl) ?_
      refine TriL.c1 rfl (op_nckc (ltb rfl) rfl) ?_
      refine TriL.c1 rfl (op_fac (ltb rfl) fo66_1_q rfl) ?_
      refine TriL.c1 rfl (op_stc lk3_q rfl rfl Hp.set_obj rfl rfl rfl) ?_
      refine TriL.nil (Tri.seq (Tri.region ?_))
      refine TriL.c1 rfl (op_mv (ltb rfl) rfl) ?_
      refine TriL.c1 rfl (op_bld (ltb rfl) spl44_q zA44_q rfl rfl) ?_
      refine TriL.c1 rfl (op_stl lk44_q rfl rfl rfl rfl rfl (leb rfl)) ?_
      refine TriL.nil (Tri.ret ?_)
      subst hc1; rw [gv_num (by simpa using hc2) (by simpa using hc3) ht (by simp at hg5; omega) (by simpa using hc6)] at e; simp [stp] at e; obtain ⟨rfl, rfl, rfl⟩ := e
      exact ⟨.inr rfl, (ResOK.r1 rfl (.cell lk44_q rfl rfl rfl rfl .nil)).cast rfl, (congrArg (fun h => some (CV.hp h)) (HatB_inc H id hL hi _))⟩
section
variable (L : List Tk)
/-- what the document makes of it, be it wrong or not -/
def bTwo (x : Stp) (i : Nat) (b : Bool) : Stp × Nat × Bool :=
 let n := stp b i () (gNeeds L [[105, 110, 116, 111]] i)
 let s := stp n.2.2 n.2.1 [] (gName L n.2.1)
 let g := stp s.2.2 s.2.1 0 (gGiven L s.2.1)
 ({ x with dest := s.1, num := g.1 }, g.2.1, g.2.2)
def bMore : Nat → List Str → Nat → Bool → List Str × Nat × Bool
 | 0, acc, i, b => (acc, i, b)
 | n + 1, acc, i, b => if bTake L [44] i b then (let s := stp b (i + 1) [] (gName L (i + 1)); bMore n (acc ++ [s.1]) s.2.1 s.2.2) else (acc, i, b)
def bRest0 (x : Stp) (i : Nat) (b : Bool) : Stp × Nat × Bool :=
 if x.kind == 1 then (let n := stp b i () (gNeeds L [[116, 111]] i); let s := stp n.2.2 n.2.1 [] (gName L n.2.1); ({ x with dest := s.1 }, s.2.1, s.2.2))
 else if x.kind == 2 then (let n := stp b i () (gNeeds L [[116, 111]] i); let s := stp n.2.2 n.2.1 0 (gNum L n.2.1); ({ x with num := s.1 }, s.2.1, s.2.2))
 else if x.kind == 3 then (let n := stp b i () (gNeeds L [[116, 111]] i); let s := stp n.2.2 n.2.1 0 (gTy L (whP true) n.2.1); ({ x with ty := s.1 }, s.2.1, s.2.2))
 else if x.kind == 4 then (let y := bTwo L x i b; let n := stp y.2.2 y.2.1 () (gNeeds L [[44]] y.2.1); let s := stp n.2.2 n.2.1 [] (gName L n.2.1); let g := stp s.2.2 s.2.1 0 (gGiven L s.2.1); ({ y.1 with also := s.1, other := g.1 }, g.2.1, g.2.2))
 else if x.kind == 5 then (let n := stp b i () (gNeeds L [[44]] i); let s := stp n.2.2 n.2.1 [] (gName L n.2.1); bTwo L { x with also := s.1 } s.2.1 s.2.2)
 else if x.kind == 6 then (let n := stp b i () (gNeeds L [[105, 110, 116, 111]] i); let s := stp n.2.2 n.2.1 [] (gName L n.2.1); let m := stp s.2.2 s.2.1 () (gNeeds L [[97, 115]] s.2.1); let u := stp m.2.2 m.2.1 [] (gName L m.2.1); let g := stp u.2.2 u.2.1 0 (gGiven L u.2.1); ({ x with dest := s.1, also := u.1, num := g.1 }, g.2.1, g.2.2))
 else if x.kind == 8 then (let n := stp b i () (gNeeds L [[111, 102]] i); let s := stp n.2.2 n.2.1 [] (gName L n.2.1); let m := bMore L (L.length - s.2.1) [s.1] s.2.1 s.2.2; ({ x with names := m.1 }, m.2.1, m.2.2))
 else if x.kind == 9 then (let g := stp b i 0 (gGiven L i); let t := stp g.2.2 g.2.1 0 (gTy L (whP false) g.2.1); let n := stp t.2.2 t.2.1 () (gNeeds L [[100, 101, 102, 97, 117, 108, 116]] t.2.1); let v := stp n.2.2 n.2.1 (.mk 0 [] []) (gVal L t.1 n.2.1); ({ x with num := g.1, ty := t.1, dv := v.1 }, v.2.1, v.2.2))
 else (x, i, b)
def bRest (x : Stp) (i : Nat) (b : Bool) : Stp × Nat × Bool :=
 let t := bRest0 L x i b
 let n := stp t.2.2 t.2.1 () (gNeeds L [[59]] t.2.1)
 (t.1, n.2.1, n.2.2)
end
theorem stp_lt2 {α : Type} {n : Nat} {b : Bool} {i : Nat} {d : α} {r : PR α} (hi : i < n) (h : r.In n) : (stp b i d r).2.1 < n := stp_lt ⟨hi, h⟩ rfl
theorem bTwo_lt {L : List Tk} (hL : Toks L) {x : Stp} {i : Nat} (hi : i < L.length) {b : Bool} {y : Stp} {j : Nat} {c : Bool} (e : bTwo L x i b = (y, j, c)) : j < L.length := by
 have h1 := stp_lt2 (b := b) (d := ()) hi (gNeeds_in hL (ws := [[105, 110, 116, 111]]) hi)
 have h2 := stp_lt2 (b := (stp b i () (gNeeds L [[105, 110, 116, 111]] i)).2.2) (d := ([] : Str)) h1 (gName_in hL h1)
 have h3 := stp_lt2 (b := (stp (stp b i () (gNeeds L [[105, 110, 116, 111]] i)).2.2 (stp b i () (gNeeds L [[105, 110, 116, 111]] i)).2.1 ([] : Str) (gName L (stp b i () (gNeeds L [[105, 110, 116, 111]] i)).2.1)).2.2) (d := (0 : Int)) h2 (gGiven_in hL h2)
 cases e
 exact h3
/-- a type, if all is well, is one -/
theorem stp_ty {L : List Tk} {such : Int → Bool} {b : Bool} {i : Nat} {t : Int} {j : Nat} {c : Bool} (e : stp b i 0 (gTy L such i) = (t, j, c)) : c = true ∨ (1 ≤ t ∧ t ≤ 13) := by
 unfold stp gTy at e
 cases b with
 | true => cases e; exact .inl rfl
 | false =>
  cases h : gOf L 1 (tyP such) i with
  | bad k => rw [h] at e; cases e; exact .inl rfl
  | ok x k =>
   rw [h] at e
   cases e
   have := (gOf_ok h).2.1
   simp only [tyP, Bool.and_eq_true, decide_eq_true_eq] at this
   right
   have hw := ofT_range x.s
   omega
theorem rtwo_run {L : List Tk} (hL : Toks L) (H : Hp) (id : Nat) {i : Nat} (hi : i < L.length) (b : Bool) {j : Nat} {c : Bool} (x : Stp) {y : Stp} (e : bTwo L x i b = (y, j, c)) : Run Tryz.prog 89 [.op id 0, x.av] (HatB H id L i b) y.av (HatB H id L j c) := by
 refine Run.of_tri Tryz.func89 rfl rfl (ltb rfl) ?_
 refine Tri.seq (Tri.region ?_)
 refine TriL.c2 rfl (op_box (ltb rfl) rfl rfl rfl) ?_
 refine TriL.c2 rfl (op_all (ltb rfl) zA46_q rfl) ?_
 refine TriL.nil (Tri.seq (Tri.region ?_))
 refine TriL.c1 rfl (op_mv (ltb rfl) rfl) ?_
 obtain ⟨x1, j1, b1, e1⟩ : ∃ xx_ jj_ cc_, stp b i () (gNeeds L [[105, 110, 116, 111]] i) = (xx_, jj_, cc_) := ⟨_, _, _, rfl⟩
 have hj1 : j1 < L.length := stp_lt ⟨hi, gNeeds_in hL hi⟩ e1
 refine TriL.c2 rfl (op_callh (ltb rfl) fn52_q rfl rfl (rneed1_run hL _ id hi b [105, 110, 116, 111] e1)) ?_
 refine TriL.nil (Tri.seq (Tri.region ?_))
 refine TriL.c1 rfl (op_mv (ltb rfl) rfl) ?_
 obtain ⟨x2, j2, b2, e2⟩ : ∃ xx_ jj_ cc_, stp b1 j1 [] (gName L j1) = (xx_, jj_, cc_) := ⟨_, _, _, rfl⟩
 have hj2 : j2 < L.length := stp_lt ⟨hj1, gName_in hL hj1⟩ e2
 refine TriL.c2 rfl (op_callh (ltb rfl) fn51_q rfl rfl (rname_run hL _ id hj1 b1 e2)) ?_
 refine TriL.c1 rfl (op_fal (ltb rfl) fo46_3_q rfl) ?_
 refine TriL.c1 rfl (op_stl lk9_q rfl rfl rfl rfl rfl (leb rfl)) ?_
 refine TriL.nil (Tri.seq (Tri.region ?_))
 refine TriL.c1 rfl (op_mv (ltb rfl) rfl) ?_
 obtain ⟨x3, j3, b3, e3⟩ : ∃ xx_ jj_ cc_, stp b2 j2 0 (gGiven L j2) = (xx_, jj_, cc_) := ⟨_, _, _, rfl⟩
 have hj3 : j3 < L.length := stp_lt ⟨hj2, gGiven_in hL hj2⟩ e3
 refine TriL.c2 rfl (op_callh (ltb rfl) fn90_q rfl rfl (rgiven_run hL _ id hj2 b2 e3)) ?_
 refine TriL.c1 rfl (op_fal (ltb rfl) fo46_5_q rfl) ?_
 refine TriL.c1 rfl (op_stl lk3_q rfl rfl rfl rfl rfl (leb rfl)) ?_
 refine TriL.nil (Tri.seq (Tri.region ?_))
 refine TriL.c1 rfl (op_ldl (ltb rfl) lk46_q rfl rfl rfl) ?_
 refine TriL.c1 rfl (op_stl lk46_q rfl rfl rfl rfl rfl (leb rfl)) ?_
 refine TriL.nil (Tri.ret ?_)
 simp only [bTwo, e1, e2, e3, Prod.mk.injEq] at e
 obtain ⟨rfl, rfl, rfl⟩ := e
 exact ⟨.inr rfl, (ResOK.r1 rfl (.cell lk46_q rfl rfl rfl rfl .nil)).cast rfl, rfl⟩
theorem bTake_lt {L : List Tk} (hL : Toks L) {w : Str} {i : Nat} {b : Bool} (hi : i < L.length) (h : bTake L w i b = true) : i + 1 < L.length := by
 simp only [bTake, Bool.and_eq_true] at h
 exact gTake_lt hL hi h.2
theorem stp_dflt {α : Type} {b c : Bool} {i : Nat} {d : α} {r : PR α} {x : α} {j : Nat} {p : Prop} (h : b = true ∨ p) (e : stp b i d r = (x, j, c)) : c = true ∨ p := by
 rcases h with rfl | h
 ·cases e; exact .inl rfl
 ·exact .inr h
theorem stp_ge {α : Type} {n : Nat} {b : Bool} {i : Nat} {d : α} {r : PR α} (h : n ≤ i) (hg : r.Ge n) (hb : ∀ j, r = .bad j → n ≤ j) {x : α} {j : Nat} {c : Bool} (e : stp b i d r = (x, j, c)) : n ≤ j := by
 unfold stp at e
 cases b with
 | true => cases e; exact h
 | false =>
  cases r with
  | ok a k => cases e; exact hg
  | bad k => cases e; exact hb _ rfl
theorem gName_bad {L : List Tk} {i j : Nat} (h : gName L i = .bad j) : j = i := by
 unfold gName gOf at h
 split at h
 ·cases h
 ·cases h; rfl
theorem stp_name {L : List Tk} {i j : Nat} {b c : Bool} {x : Str} (e : stp b i [] (gName L i) = (x, j, c)) : i ≤ j :=
 stp_ge (Nat.le_refl _) (gName_ge (Nat.le_refl _)) (fun j h => by rw [gName_bad h]; exact Nat.le_refl _) e
theorem bMore_no {L : List Tk} {n : Nat} {acc : List Str} {i : Nat} {b : Bool} (h : bTake L [44] i b = false) : bMore L n acc i b = (acc, i, b) := by
 cases n with
 | zero => rfl
 | succ n => rw [bMore, h]; rfl
theorem bMore_yes {L : List Tk} {n : Nat} {acc : List Str} {i : Nat} {b : Bool} (hn : 0 < n) (h : bTake L [44] i b = true) {x : Str} {j : Nat} {c : Bool} (e : stp b (i + 1) [] (gName L (i + 1)) = (x, j, c)) : bMore L n acc i b = bMore L (n - 1) (acc ++ [x]) j c := by
 cases n with
 | zero => omega
 | succ n => rw [bMore, if_pos h]; simp only [e]; rfl
theorem rrest_run {L : List Tk} (hL : Toks L) (H : Hp) (id : Nat) {i : Nat} (hi : i < L.length) (b : Bool) {j : Nat} {c : Bool} (x : Stp) {y : Stp} (e : bRest L x i b = (y, j, c)) : Run Tryz.prog 53 [.op id 0, x.av] (HatB H id L i b) y.av (HatB H id L j c) := by
 refine Run.of_tri Tryz.func53 rfl rfl (ltb rfl) ?_
 refine Tri.seq (Tri.region ?_)
 refine TriL.c2 rfl (op_box (ltb rfl) rfl rfl rfl) ?_
 refine TriL.c2 rfl (op_all (ltb rfl) zA46_q rfl) ?_
 refine TriL.nil (Tri.seq (Tri.seq (Tri.region ?_)))
 refine TriL.c1 rfl (op_fal (ltb rfl) fo46_0_q rfl) ?_
 refine TriL.c1 rfl (op_ldl (ltb rfl) lk3_q rfl rfl rfl) ?_
 refine TriL.nil (Tri.blk (Tri.seq (Tri.region ?_)))
 refine TriL.c1 rfl (op_bin (ltb rfl) rfl rfl rfl) ?_
 refine TriL.c1 rfl (op_as (ltb rfl) rfl) ?_
 refine TriL.nil ?_
 refine Tri.cond rfl (fun hc1 => ?_) (fun hc1 => ?_)
 ·refine Tri.seq (Tri.region ?_)
  refine TriL.c1 rfl (op_mv (ltb rfl) rfl) ?_
  obtain ⟨x1, j1, b1, e1⟩ : ∃ xx_ jj_ cc_, stp b i () (gNeeds L [[116, 111]] i) = (xx_, jj_, cc_) := ⟨_, _, _, rfl⟩
  have hj1 : j1 < L.length := stp_lt ⟨hi, gNeeds_in hL hi⟩ e1
  refine TriL.c2 rfl (op_callh (ltb rfl) fn52_q rfl rfl (rneed1_run hL _ id hi b [116, 111] e1)) ?_
  refine TriL.nil (Tri.region ?_)
  refine TriL.c1 rfl (op_mv (ltb rfl) rfl) ?_
  obtain ⟨x2, j2, b2, e2⟩ : ∃ xx_ jj_ cc_, stp b1 j1 [] (gName L j1) = (xx_, jj_, cc_) := ⟨_, _, _, rfl⟩
  have hj2 : j2 < L.length := stp_lt ⟨hj1, gName_in hL hj1⟩ e2
  refine TriL.c2 rfl (op_callh (ltb rfl) fn51_q rfl rfl (rname_run hL _ id hj1 b1 e2)) ?_
  refine TriL.c1 rfl (op_fal (ltb rfl) fo46_3_q rfl) ?_
  refine TriL.c1 rfl (op_stl lk9_q rfl rfl rfl rfl rfl (leb rfl)) ?_
  refine TriL.nil (Tri.seq (Tri.region ?_))
  refine TriL.c1 rfl (op_mv (ltb rfl) rfl) ?_
  obtain ⟨x3, j3, b3, e3⟩ : ∃ xx_ jj_ cc_, stp b2 j2 () (gNeeds L [[59]] j2) = (xx_, jj_, cc_) := ⟨_, _, _, rfl⟩
  have hj3 : j3 < L.length := stp_lt ⟨hj2, gNeeds_in hL hj2⟩ e3
  refine TriL.c2 rfl (op_callh (ltb rfl) fn52_q rfl rfl (rneed1_run hL _ id hj2 b2 [59] e3)) ?_
  refine TriL.nil (Tri.seq (Tri.region ?_))
  refine TriL.c1 rfl (op_ldl (ltb rfl) lk46_q rfl rfl rfl) ?_
  refine TriL.c1 rfl (op_stl lk46_q rfl rfl rfl rfl rfl (leb rfl)) ?_
  refine TriL.nil (Tri.ret ?_)
  simp [bRest, bRest0, *] at e; obtain ⟨rfl, rfl, rfl⟩ := e
  exact ⟨.inr rfl, (ResOK.r1 rfl (.cell lk46_q rfl rfl rfl rfl .nil)).cast rfl, rfl⟩
 ·refine Tri.seq (Tri.region ?_)
  refine TriL.c1 rfl (op_bin (ltb rfl) rfl rfl rfl) ?_
  refine TriL.c1 rfl (op_as (ltb rfl) rfl) ?_
  refine TriL.nil ?_
  refine Tri.cond rfl (fun hc2 => ?_) (fun hc2 => ?_)
  ·refine Tri.seq (Tri.region ?_)
   refine TriL.c1 rfl (op_mv (ltb rfl) rfl) ?_
   obtain ⟨x4, j4, b4, e4⟩ : ∃ xx_ jj_ cc_, stp b i () (gNeeds L [[116, 111]] i) = (xx_, jj_, cc_) := ⟨_, _, _, rfl⟩
   have hj4 : j4 < L.length := stp_lt ⟨hi, gNeeds_in hL hi⟩ e4
   refine TriL.c2 rfl (op_callh (ltb rfl) fn52_q rfl rfl (rneed1_run hL _ id hi b [116, 111] e4)) ?_
   refine TriL.nil (Tri.region ?_)
   refine TriL.c1 rfl (op_mv (ltb rfl) rfl) ?_
   obtain ⟨x5, j5, b5, e5⟩ : ∃ xx_ jj_ cc_, stp b4 j4 0 (gNum L j4) = (xx_, jj_, cc_) := ⟨_, _, _, rfl⟩
   have hj5 : j5 < L.length := stp_lt ⟨hj4, gNum_in hL hj4⟩ e5
   refine TriL.c2 rfl (op_callh (ltb rfl) fn87_q rfl rfl (rnumber_run hL _ id hj4 b4 e5)) ?_
   refine TriL.c1 rfl (op_fal (ltb rfl) fo46_5_q rfl) ?_
   refine TriL.c1 rfl (op_stl lk3_q rfl rfl rfl rfl rfl (leb rfl)) ?_
   refine TriL.nil (Tri.seq (Tri.region ?_))
   refine TriL.c1 rfl (op_mv (ltb rfl) rfl) ?_
   obtain ⟨x6, j6, b6, e6⟩ : ∃ xx_ jj_ cc_, stp b5 j5 () (gNeeds L [[59]] j5) = (xx_, jj_, cc_) := ⟨_, _, _, rfl⟩
   have hj6 : j6 < L.length := stp_lt ⟨hj5, gNeeds_in hL hj5⟩ e6
   refine TriL.c2 rfl (op_callh (ltb rfl) fn52_q rfl rfl (rneed1_run hL _ id hj5 b5 [59] e6)) ?_
   refine TriL.nil (Tri.seq (Tri.region ?_))
   refine TriL.c1 rfl (op_ldl (ltb rfl) lk46_q rfl rfl rfl) ?_
   refine TriL.c1 rfl (op_stl lk46_q rfl rfl rfl rfl rfl (leb rfl)) ?_
   refine TriL.nil (Tri.ret ?_)
   simp [bRest, bRest0, *] at e; obtain ⟨rfl, rfl, rfl⟩ := e
   exact ⟨.inr rfl, (ResOK.r1 rfl (.cell lk46_q rfl rfl rfl rfl .nil)).cast rfl, rfl⟩
  ·refine Tri.seq (Tri.region ?_)
   refine TriL.c1 rfl (op_bin (ltb rfl) rfl rfl rfl) ?_
   refine TriL.c1 rfl (op_as (ltb rfl) rfl) ?_
   refine TriL.nil ?_
   refine Tri.cond rfl (fun hc3 => ?_) (fun hc3 => ?_)
   ·refine Tri.seq (Tri.region ?_)
    refine TriL.c1 rfl (op_mv (ltb rfl) rfl) ?_
    obtain ⟨x7, j7, b7, e7⟩ : ∃ xx_ jj_ cc_, stp b i () (gNeeds L [[116, 111]] i) = (xx_, jj_, cc_) := ⟨_, _, _, rfl⟩
    have hj7 : j7 < L.length := stp_lt ⟨hi, gNeeds_in hL hi⟩ e7
    refine TriL.c2 rfl (op_callh (ltb rfl) fn52_q rfl rfl (rneed1_run hL _ id hi b [116, 111] e7)) ?_
    refine TriL.nil (Tri.region ?_)
    refine TriL.c1 rfl (op_mv (ltb rfl) rfl) ?_
    obtain ⟨x8, j8, b8, e8⟩ : ∃ xx_ jj_ cc_, stp b7 j7 0 (gTy L (whP true) j7) = (xx_, jj_, cc_) := ⟨_, _, _, rfl⟩
    have hj8 : j8 < L.length := stp_lt ⟨hj7, gTy_in hL hj7⟩ e8
    refine TriL.c2 rfl (op_callh (ltb rfl) fn88_q rfl rfl (rty_run hL _ id hj7 b7 true e8)) ?_
    refine TriL.c1 rfl (op_fal (ltb rfl) fo46_7_q rfl) ?_
    refine TriL.c1 rfl (op_stl lk3_q rfl rfl rfl rfl rfl (leb rfl)) ?_
    refine TriL.nil (Tri.seq (Tri.region ?_))
    refine TriL.c1 rfl (op_mv (ltb rfl) rfl) ?_
    obtain ⟨x9, j9, b9, e9⟩ : ∃ xx_ jj_ cc_, stp b8 j8 () (gNeeds L [[59]] j8) = (xx_, jj_, cc_) := ⟨_, _, _, rfl⟩
    have hj9 : j9 < L.length := stp_lt ⟨hj8, gNeeds_in hL hj8⟩ e9
    refine TriL.c2 rfl (op_callh (ltb rfl) fn52_q rfl rfl (rneed1_run hL _ id hj8 b8 [59] e9)) ?_
    refine TriL.nil (Tri.seq (Tri.region ?_))
    refine TriL.c1 rfl (op_ldl (ltb rfl) lk46_q rfl rfl rfl) ?_
    refine TriL.c1 rfl (op_stl lk46_q rfl rfl rfl rfl rfl (leb rfl)) ?_
    refine TriL.nil (Tri.ret ?_)
    simp [bRest, bRest0, *] at e; obtain ⟨rfl, rfl, rfl⟩ := e
    exact ⟨.inr rfl, (ResOK.r1 rfl (.cell lk46_q rfl rfl rfl rfl .nil)).cast rfl, rfl⟩
   ·refine Tri.seq (Tri.region ?_)
    refine TriL.c1 rfl (op_bin (ltb rfl) rfl rfl rfl) ?_
    refine TriL.c1 rfl (op_as (ltb rfl) rfl) ?_
    refine TriL.nil ?_
    refine Tri.cond rfl (fun hc4 => ?_) (fun hc4 => ?_)
    ·refine Tri.seq (Tri.region ?_)
     refine TriL.c1 rfl (op_mv (ltb rfl) rfl) ?_
     refine TriL.c1 rfl (op_ldl (ltb rfl) lk46_q rfl rfl rfl) ?_
     obtain ⟨x10, j10, b10, e10⟩ : ∃ xx_ jj_ cc_, bTwo L x i b = (xx_, jj_, cc_) := ⟨_, _, _, rfl⟩
     have hj10 : j10 < L.length := bTwo_lt hL hi e10
     refine TriL.c2 rfl (op_callh (ltb rfl) fn89_q rfl rfl (rtwo_run hL _ id hi b x e10)) ?_
     refine TriL.c1 rfl (op_stl lk46_q rfl rfl rfl rfl rfl (leb rfl)) ?_
     refine TriL.nil (Tri.seq (Tri.region ?_))
     refine TriL.c1 rfl (op_mv (ltb rfl) rfl) ?_
     obtain ⟨x11, j11, b11, e11⟩ : ∃ xx_ jj_ cc_, stp b10 j10 () (gNeeds L [[44]] j10) = (xx_, jj_, cc_) := ⟨_, _, _, rfl⟩
     have hj11 : j11 < L.length := stp_lt ⟨hj10, gNeeds_in hL hj10⟩ e11
     refine TriL.c2 rfl (op_callh (ltb rfl) fn52_q rfl rfl (rneed1_run hL _ id hj10 b10 [44] e11)) ?_
     refine TriL.nil (Tri.seq (Tri.region ?_))
     refine TriL.c1 rfl (op_mv (ltb rfl) rfl) ?_
     obtain ⟨x12, j12, b12, e12⟩ : ∃ xx_ jj_ cc_, stp b11 j11 [] (gName L j11) = (xx_, jj_, cc_) := ⟨_, _, _, rfl⟩
     have hj12 : j12 < L.length := stp_lt ⟨hj11, gName_in hL hj11⟩ e12
     refine TriL.c2 rfl (op_callh (ltb rfl) fn51_q rfl rfl (rname_run hL _ id hj11 b11 e12)) ?_
     refine TriL.c1 rfl (op_fal (ltb rfl) fo46_4_q rfl) ?_
     refine TriL.c1 rfl (op_stl lk9_q rfl rfl rfl rfl rfl (leb rfl)) ?_
     refine TriL.nil (Tri.region ?_)
     refine TriL.c1 rfl (op_mv (ltb rfl) rfl) ?_
     obtain ⟨x13, j13, b13, e13⟩ : ∃ xx_ jj_ cc_, stp b12 j12 0 (gGiven L j12) = (xx_, jj_, cc_) := ⟨_, _, _, rfl⟩
     have hj13 : j13 < L.length := stp_lt ⟨hj12, gGiven_in hL hj12⟩ e13
     refine TriL.c2 rfl (op_callh (ltb rfl) fn90_q rfl rfl (rgiven_run hL _ id hj12 b12 e13)) ?_
     refine TriL.c1 rfl (op_fal (ltb rfl) fo46_6_q rfl) ?_
     refine TriL.c1 rfl (op_stl lk3_q rfl rfl rfl rfl rfl (leb rfl)) ?_
     refine TriL.nil (Tri.seq (Tri.region ?_))
     refine TriL.c1 rfl (op_mv (ltb rfl) rfl) ?_
     obtain ⟨x14, j14, b14, e14⟩ : ∃ xx_ jj_ cc_, stp b13 j13 () (gNeeds L [[59]] j13) = (xx_, jj_, cc_) := ⟨_, _, _, rfl⟩
     have hj14 : j14 < L.length := stp_lt ⟨hj13, gNeeds_in hL hj13⟩ e14
     refine TriL.c2 rfl (op_callh (ltb rfl) fn52_q rfl rfl (rneed1_run hL _ id hj13 b13 [59] e14)) ?_
     refine TriL.nil (Tri.seq (Tri.region ?_))
     refine TriL.c1 rfl (op_ldl (ltb rfl) lk46_q rfl rfl rfl) ?_
     refine TriL.c1 rfl (op_stl lk46_q rfl rfl rfl rfl rfl (leb rfl)) ?_
     refine TriL.nil (Tri.ret ?_)
     simp [bRest, bRest0, *] at e; obtain ⟨rfl, rfl, rfl⟩ := e
     exact ⟨.inr rfl, (ResOK.r1 rfl (.cell lk46_q rfl rfl rfl rfl .nil)).cast rfl, rfl⟩
    ·refine Tri.seq (Tri.region ?_)
     refine TriL.c1 rfl (op_bin (ltb rfl) rfl rfl rfl) ?_
     refine TriL.c1 rfl (op_as (ltb rfl) rfl) ?_
     refine TriL.nil ?_
     refine Tri.cond rfl (fun hc5 => ?_) (fun hc5 => ?_)
     ·refine Tri.seq (Tri.region ?_)
      refine TriL.c1 rfl (op_mv (ltb rfl) rfl) ?_
      obtain ⟨x15, j15, b15, e15⟩ : ∃ xx_ jj_ cc_, stp b i () (gNeeds L [[44]] i) = (xx_, jj_, cc_) := ⟨_, _, _, rfl⟩
      have hj15 : j15 < L.length := stp_lt ⟨hi, gNeeds_in hL hi⟩ e15
      refine TriL.c2 rfl (op_callh (ltb rfl) fn52_q rfl rfl (rneed1_run hL _ id hi b [44] e15)) ?_
      refine TriL.nil (Tri.seq (Tri.region ?_))
      refine TriL.c1 rfl (op_mv (ltb rfl) rfl) ?_
      obtain ⟨x16, j16, b16, e16⟩ : ∃ xx_ jj_ cc_, stp b15 j15 [] (gName L j15) = (xx_, jj_, cc_) := ⟨_, _, _, rfl⟩
      have hj16 : j16 < L.length := stp_lt ⟨hj15, gName_in hL hj15⟩ e16
      refine TriL.c2 rfl (op_callh (ltb rfl) fn51_q rfl rfl (rname_run hL _ id hj15 b15 e16)) ?_
      refine TriL.c1 rfl (op_fal (ltb rfl) fo46_4_q rfl) ?_
      refine TriL.c1 rfl (op_stl lk9_q rfl rfl rfl rfl rfl (leb rfl)) ?_
      refine TriL.nil (Tri.region ?_)
      refine TriL.c1 rfl (op_mv (ltb rfl) rfl) ?_
      refine TriL.c1 rfl (op_ldl (ltb rfl) lk46_q rfl rfl rfl) ?_
      obtain ⟨x17, j17, b17, e17⟩ : ∃ xx_ jj_ cc_, bTwo L { x with also := x16 } j16 b16 = (xx_, jj_, cc_) := ⟨_, _, _, rfl⟩
      have hj17 : j17 < L.length := bTwo_lt hL hj16 e17
      refine TriL.c2 rfl (op_callh (ltb rfl) fn89_q rfl rfl (rtwo_run hL _ id hj16 b16 { x with also := x16 } e17)) ?_
      refine TriL.c1 rfl (op_stl lk46_q rfl rfl rfl rfl rfl (leb rfl)) ?_
      refine TriL.nil (Tri.seq (Tri.region ?_))
      refine TriL.c1 rfl (op_mv (ltb rfl) rfl) ?_
      obtain ⟨x18, j18, b18, e18⟩ : ∃ xx_ jj_ cc_, stp b17 j17 () (gNeeds L [[59]] j17) = (xx_, jj_, cc_) := ⟨_, _, _, rfl⟩
      have hj18 : j18 < L.length := stp_lt ⟨hj17, gNeeds_in hL hj17⟩ e18
      refine TriL.c2 rfl (op_callh (ltb rfl) fn52_q rfl rfl (rneed1_run hL _ id hj17 b17 [59] e18)) ?_
      refine TriL.nil (Tri.seq (Tri.region ?_))
      refine TriL.c1 rfl (op_ldl (ltb rfl) lk46_q rfl rfl rfl) ?_
      refine TriL.c1 rfl (op_stl lk46_q rfl rfl rfl rfl rfl (leb rfl)) ?_
      refine TriL.nil (Tri.ret ?_)
      simp [bRest, bRest0, *] at e; obtain ⟨rfl, rfl, rfl⟩ := e
      exact ⟨.inr rfl, (ResOK.r1 rfl (.cell lk46_q rfl rfl rfl rfl .nil)).cast rfl, rfl⟩
     ·refine Tri.seq (Tri.region ?_)
      refine TriL.c1 rfl (op_bin (ltb rfl) rfl rfl rfl) ?_
      refine TriL.c1 rfl (op_as (ltb rfl) rfl) ?_
      refine TriL.nil ?_
      refine Tri.cond rfl (fun hc6 => ?_) (fun hc6 => ?_)
      ·refine Tri.seq (Tri.region ?_)
       refine TriL.c1 rfl (op_mv (ltb rfl) rfl) ?_
       obtain ⟨x19, j19, b19, e19⟩ : ∃ xx_ jj_ cc_, stp b i () (gNeeds L [[105, 110, 116, 111]] i) = (xx_, jj_, cc_) := ⟨_, _, _, rfl⟩
       have hj19 : j19 < L.length := stp_lt ⟨hi, gNeeds_in hL hi⟩ e19
       refine TriL.c2 rfl (op_callh (ltb rfl) fn52_q rfl rfl (rneed1_run hL _ id hi b [105, 110, 116, 111] e19)) ?_
       refine TriL.nil (Tri.seq (Tri.region ?_))
       refine TriL.c1 rfl (op_mv (ltb rfl) rfl) ?_
       obtain ⟨x20, j20, b20, e20⟩ : ∃ xx_ jj_ cc_, stp b19 j19 [] (gName L j19) = (xx_, jj_, cc_) := ⟨_, _, _, rfl⟩
       have hj20 : j20 < L.length := stp_lt ⟨hj19, gName_in hL hj19⟩ e20
       refine TriL.c2 rfl (op_callh (ltb rfl) fn51_q rfl rfl (rname_run hL _ id hj19 b19 e20)) ?_
       refine TriL.c1 rfl (op_fal (ltb rfl) fo46_3_q rfl) ?_
       refine TriL.c1 rfl (op_stl lk9_q rfl rfl rfl rfl rfl (leb rfl)) ?_
       refine TriL.nil (Tri.seq (Tri.region ?_))
       refine TriL.c1 rfl (op_mv (ltb rfl) rfl) ?_
       obtain ⟨x21, j21, b21, e21⟩ : ∃ xx_ jj_ cc_, stp b20 j20 () (gNeeds L [[97, 115]] j20) = (xx_, jj_, cc_) := ⟨_, _, _, rfl⟩
       have hj21 : j21 < L.length := stp_lt ⟨hj20, gNeeds_in hL hj20⟩ e21
       refine TriL.c2 rfl (op_callh (ltb rfl) fn52_q rfl rfl (rneed1_run hL _ id hj20 b20 [97, 115] e21)) ?_
       refine TriL.nil (Tri.seq (Tri.region ?_))
       refine TriL.c1 rfl (op_mv (ltb rfl) rfl) ?_
       obtain ⟨x22, j22, b22, e22⟩ : ∃ xx_ jj_ cc_, stp b21 j21 [] (gName L j21) = (xx_, jj_, cc_) := ⟨_, _, _, rfl⟩
       have hj22 : j22 < L.length := stp_lt ⟨hj21, gName_in hL hj21⟩ e22
       refine TriL.c2 rfl (op_callh (ltb rfl) fn51_q rfl rfl (rname_run hL _ id hj21 b21 e22)) ?_
       refine TriL.c1 rfl (op_fal (ltb rfl) fo46_4_q rfl) ?_
       refine TriL.c1 rfl (op_stl lk9_q rfl rfl rfl rfl rfl (leb rfl)) ?_
       refine TriL.nil (Tri.region ?_)
       refine TriL.c1 rfl (op_mv (ltb rfl) rfl) ?_
       obtain ⟨x23, j23, b23, e23⟩ : ∃ xx_ jj_ cc_, stp b22 j22 0 (gGiven L j22) = (xx_, jj_, cc_) := ⟨_, _, _, rfl⟩
       have hj23 : j23 < L.length := stp_lt ⟨hj22, gGiven_in hL hj22⟩ e23
       refine TriL.c2 rfl (op_callh (ltb rfl) fn90_q rfl rfl (rgiven_run hL _ id hj22 b22 e23)) ?_
       refine TriL.c1 rfl (op_fal (ltb rfl) fo46_5_q rfl) ?_
       refine TriL.c1 rfl (op_stl lk3_q rfl rfl rfl rfl rfl (leb rfl)) ?_
       refine TriL.nil (Tri.seq (Tri.region ?_))
       refine TriL.c1 rfl (op_mv (ltb rfl) rfl) ?_
       obtain ⟨x24, j24, b24, e24⟩ : ∃ xx_ jj_ cc_, stp b23 j23 () (gNeeds L [[59]] j23) = (xx_, jj_, cc_) := ⟨_, _, _, rfl⟩
       have hj24 : j24 < L.length := stp_lt ⟨hj23, gNeeds_in hL hj23⟩ e24
       refine TriL.c2 rfl (op_callh (ltb rfl) fn52_q rfl rfl (rneed1_run hL _ id hj23 b23 [59] e24)) ?_
       refine TriL.nil (Tri.seq (Tri.region ?_))
       refine TriL.c1 rfl (op_ldl (ltb rfl) lk46_q rfl rfl rfl) ?_
       refine TriL.c1 rfl (op_stl lk46_q rfl rfl rfl rfl rfl (leb rfl)) ?_
       refine TriL.nil (Tri.ret ?_)
       simp [bRest, bRest0, *] at e; obtain ⟨rfl, rfl, rfl⟩ := e
       exact ⟨.inr rfl, (ResOK.r1 rfl (.cell lk46_q rfl rfl rfl rfl .nil)).cast rfl, rfl⟩
      ·refine Tri.seq (Tri.region ?_)
       refine TriL.c1 rfl (op_bin (ltb rfl) rfl rfl rfl) ?_
       refine TriL.c1 rfl (op_as (ltb rfl) rfl) ?_
       refine TriL.nil ?_
       refine Tri.cond rfl (fun hc7 => ?_) (fun hc7 => ?_)
       ·refine Tri.seq (Tri.region ?_)
        refine TriL.c1 rfl (op_mv (ltb rfl) rfl) ?_
        obtain ⟨x25, j25, b25, e25⟩ : ∃ xx_ jj_ cc_, stp b i () (gNeeds L [[111, 102]] i) = (xx_, jj_, cc_) := ⟨_, _, _, rfl⟩
        have hj25 : j25 < L.length := stp_lt ⟨hi, gNeeds_in hL hi⟩ e25
        refine TriL.c2 rfl (op_callh (ltb rfl) fn52_q rfl rfl (rneed1_run hL _ id hi b [111, 102] e25)) ?_
        refine TriL.nil (Tri.seq (Tri.region ?_))
        refine TriL.c1 rfl (op_mv (ltb rfl) rfl) ?_
        obtain ⟨x26, j26, b26, e26⟩ : ∃ xx_ jj_ cc_, stp b25 j25 [] (gName L j25) = (xx_, jj_, cc_) := ⟨_, _, _, rfl⟩
        have hj26 : j26 < L.length := stp_lt ⟨hj25, gName_in hL hj25⟩ e26
        refine TriL.c2 rfl (op_callh (ltb rfl) fn51_q rfl rfl (rname_run hL _ id hj25 b25 e26)) ?_
        refine TriL.c2 rfl (op_litt («as» := [_]) (ltb rfl) se40_q zAe40_q rfl rfl rfl (leb rfl) rfl) ?_
        refine TriL.c1 rfl (op_fal (ltb rfl) fo46_8_q rfl) ?_
        refine TriL.c1 rfl (op_stl lk40_q rfl rfl rfl rfl rfl (leb rfl)) ?_
        refine TriL.nil (Tri.blk ?_)
        refine Tri.ofKept (Kept.keep [.h, .b 3, .t 72, .s 0, .s 3, .s 4, .b 4] rfl (by decide) (Kept.now ?_))
        -- LOOP 1
        refine Tri.loopk (fun ((q, cc, a) : Nat × Bool × List AV) => [(.h, .hp (HatB H id L q cc)), (.b 3, .bx [.v (.int .i64 x.kind), .v (.str x.msg), .v (.str x.field), .v (.str x.dest), .v (.str x.also), .v (.int .i64 x.num), .v (.int .i64 x.other), .v (.int .i64 x.ty), .ow 72 a, .v (.int .u64 (x.dv.n : Int)), .v (.str x.dv.s), .v (.sl (x.dv.m.map Tree.av))]), (.t 72, .tk false 9 1 a)]) _ (fun ((q, cc, a) : Nat × Bool × List AV) => ∃ (n : Nat) (acc : List Str), a = acc.map .str ∧ bMore L n acc q cc = bMore L (L.length - j26) [x26] j26 b26 ∧ q < L.length ∧ L.length - q ≤ n ∧ acc.length ≤ q + 1) (fun ((q, cc, a) : Nat × Bool × List AV) => L.length - q) (j26, b26, [AV.str x26]) rfl ⟨L.length - j26, [x26], rfl, rfl, hj26, by omega, (by simp)⟩ ?_
        rintro ⟨q, cc, a⟩ ⟨n, acc, rfl, hI, hq, hn, hac⟩
        refine Tri.seq (Tri.seq (Tri.region ?_))
        refine TriL.c1 rfl (op_mv (ltb rfl) rfl) ?_
        cases hp27 : bTake L [44] q cc with
        | true => 
         refine TriL.c2 rfl (op_callh (ltb rfl) fn50_q rfl rfl (rtakeT hL _ id hq cc hp27)) ?_
         refine TriL.nil ?_
         refine Tri.condT rfl rfl ?_
         refine Tri.skip (Tri.blk ?_)
         refine Tri.drawn mixed rfl ?_
         refine TriD.c1 rfl (op_fal (ltb rfl) fo46_8_q rfl) ?_
         refine TriD.c1 rfl (op_ldl (ltb rfl) lk40_q rfl rfl rfl) ?_
         refine TriD.c1 rfl (op_mv (ltb rfl) rfl) ?_
         obtain ⟨x28, j28, b28, e28⟩ : ∃ xx_ jj_ cc_, stp cc (q + 1) [] (gName L (q + 1)) = (xx_, jj_, cc_) := ⟨_, _, _, rfl⟩
         have hj28 : j28 < L.length := stp_lt ⟨(bTake_lt hL hq hp27), gName_in hL (bTake_lt hL hq hp27)⟩ e28
         refine TriD.c2 rfl (op_callh (ltb rfl) fn51_q rfl rfl (rname_run hL _ id (bTake_lt hL hq hp27) cc e28)) ?_
         refine TriD.c1 rfl (op_lit («as» := [_]) (ltb rfl) se40_q zAe40_q rfl rfl rfl (leb rfl)) ?_
         refine TriD.c3 rfl (op_app (ltb rfl) se40_q rfl rfl rfl rfl rfl (by simp only [List.length_map, List.length_cons, List.length_nil]; have := hL.len; omega) (by simp only [List.length_map, List.length_cons, List.length_nil]; have := hL.len; omega)) ?_
         refine TriD.c1 rfl (op_fal (ltb rfl) fo46_8_q rfl) ?_
         refine TriD.c1 rfl (op_stl lk40_q rfl rfl rfl rfl rfl (leb rfl)) ?_
         refine TriD.nil (by kernel_rfl) (Kept.keep [.h, .b 3, .t 81, .s 0, .s 3, .s 4, .b 4] rfl (by decide) (Kept.ren 81 72 (by decide) rfl (Kept.now ?_)))
         exact ⟨(_, _, _), by dsimp only; have := stp_name e28; omega, ⟨n - 1, acc ++ [x28], by simp, by rw [← hI, bMore_yes (by omega) hp27 e28], hj28, by have := stp_name e28; omega, by have := stp_name e28; simp; omega⟩, rfl⟩
        | false => 
         refine TriL.c2 rfl (op_callh (ltb rfl) fn50_q rfl rfl (rtakeF hL _ id hq cc hp27)) ?_
         refine TriL.nil ?_
         refine Tri.condF rfl rfl ?_
         refine Tri.exit (Tri.seq (Tri.region ?_))
         refine TriL.c1 rfl (op_mv (ltb rfl) rfl) ?_
         obtain ⟨x29, j29, b29, e29⟩ : ∃ xx_ jj_ cc_, stp cc q () (gNeeds L [[59]] q) = (xx_, jj_, cc_) := ⟨_, _, _, rfl⟩
         have hj29 : j29 < L.length := stp_lt ⟨hq, gNeeds_in hL hq⟩ e29
         refine TriL.c2 rfl (op_callh (ltb rfl) fn52_q rfl rfl (rneed1_run hL _ id hq cc [59] e29)) ?_
         refine TriL.nil (Tri.seq (Tri.region ?_))
         refine TriL.c1 rfl (op_ldl (ltb rfl) lk46_q rfl rfl rfl) ?_
         refine TriL.c1 rfl (op_stl lk46_q rfl rfl rfl rfl rfl (leb rfl)) ?_
         refine TriL.nil (Tri.ret ?_)
         have hm := hI.symm.trans (bMore_no (n := n) (acc := acc) hp27); simp [bRest, bRest0, *] at e; obtain ⟨rfl, rfl, rfl⟩ := e
         exact ⟨.inr rfl, (ResOK.r1 rfl (.cell lk46_q rfl rfl rfl rfl .nil)).cast rfl, rfl⟩
       ·refine Tri.seq (Tri.region ?_)
        refine TriL.c1 rfl (op_bin (ltb rfl) rfl rfl rfl) ?_
        refine TriL.c1 rfl (op_as (ltb rfl) rfl) ?_
        refine TriL.nil ?_
        refine Tri.cond rfl (fun hc8 => ?_) (fun hc8 => ?_)
        ·refine Tri.seq (Tri.region ?_)
         refine TriL.c1 rfl (op_mv (ltb rfl) rfl) ?_
         obtain ⟨x30, j30, b30, e30⟩ : ∃ xx_ jj_ cc_, stp b i 0 (gGiven L i) = (xx_, jj_, cc_) := ⟨_, _, _, rfl⟩
         have hj30 : j30 < L.length := stp_lt ⟨hi, gGiven_in hL hi⟩ e30
         refine TriL.c2 rfl (op_callh (ltb rfl) fn90_q rfl rfl (rgiven_run hL _ id hi b e30)) ?_
         refine TriL.c1 rfl (op_fal (ltb rfl) fo46_5_q rfl) ?_
         refine TriL.c1 rfl (op_stl lk3_q rfl rfl rfl rfl rfl (leb rfl)) ?_
         refine TriL.nil (Tri.seq (Tri.region ?_))
         refine TriL.c1 rfl (op_mv (ltb rfl) rfl) ?_
         obtain ⟨x31, j31, b31, e31⟩ : ∃ xx_ jj_ cc_, stp b30 j30 0 (gTy L (whP false) j30) = (xx_, jj_, cc_) := ⟨_, _, _, rfl⟩
         have hj31 : j31 < L.length := stp_lt ⟨hj30, gTy_in hL hj30⟩ e31
         refine TriL.c2 rfl (op_callh (ltb rfl) fn88_q rfl rfl (rty_run hL _ id hj30 b30 false e31)) ?_
         refine TriL.c1 rfl (op_fal (ltb rfl) fo46_7_q rfl) ?_
         refine TriL.c1 rfl (op_stl lk3_q rfl rfl rfl rfl rfl (leb rfl)) ?_
         refine TriL.nil (Tri.seq (Tri.region ?_))
         refine TriL.c1 rfl (op_mv (ltb rfl) rfl) ?_
         obtain ⟨x32, j32, b32, e32⟩ : ∃ xx_ jj_ cc_, stp b31 j31 () (gNeeds L [[100, 101, 102, 97, 117, 108, 116]] j31) = (xx_, jj_, cc_) := ⟨_, _, _, rfl⟩
         have hj32 : j32 < L.length := stp_lt ⟨hj31, gNeeds_in hL hj31⟩ e32
         refine TriL.c2 rfl (op_callh (ltb rfl) fn52_q rfl rfl (rneed1_run hL _ id hj31 b31 [100, 101, 102, 97, 117, 108, 116] e32)) ?_
         refine TriL.nil (Tri.region ?_)
         refine TriL.c1 rfl (op_mv (ltb rfl) rfl) ?_
         refine TriL.c1 rfl (op_fal (ltb rfl) fo46_7_q rfl) ?_
         refine TriL.c1 rfl (op_ldl (ltb rfl) lk3_q rfl rfl rfl) ?_
         obtain ⟨x33, j33, b33, e33⟩ : ∃ xx_ jj_ cc_, stp b32 j32 (.mk 0 [] []) (gVal L x31 j32) = (xx_, jj_, cc_) := ⟨_, _, _, rfl⟩
         have hj33 : j33 < L.length := stp_lt ⟨hj32, gVal_in hL hj32⟩ e33
         refine TriL.c2 rfl (op_callh (ltb rfl) fn91_q rfl rfl (rdef_run hL _ id hj32 b32 x31 (stp_dflt (stp_ty e31) e32) e33)) ?_
         refine TriL.c1 rfl (op_fal (ltb rfl) fo46_9_q rfl) ?_
         refine TriL.c1 rfl (op_stl lk44_q rfl rfl rfl rfl rfl (leb rfl)) ?_
         refine TriL.nil (Tri.seq (Tri.region ?_))
         refine TriL.c1 rfl (op_mv (ltb rfl) rfl) ?_
         obtain ⟨x34, j34, b34, e34⟩ : ∃ xx_ jj_ cc_, stp b33 j33 () (gNeeds L [[59]] j33) = (xx_, jj_, cc_) := ⟨_, _, _, rfl⟩
         have hj34 : j34 < L.length := stp_lt ⟨hj33, gNeeds_in hL hj33⟩ e34
         refine TriL.c2 rfl (op_callh (ltb rfl) fn52_q rfl rfl (rneed1_run hL _ id hj33 b33 [59] e34)) ?_
         refine TriL.nil (Tri.seq (Tri.region ?_))
         refine TriL.c1 rfl (op_ldl (ltb rfl) lk46_q rfl rfl rfl) ?_
         refine TriL.c1 rfl (op_stl lk46_q rfl rfl rfl rfl rfl (leb rfl)) ?_
         refine TriL.nil (Tri.ret ?_)
         simp [bRest, bRest0, *] at e; obtain ⟨rfl, rfl, rfl⟩ := e
         exact ⟨.inr rfl, (ResOK.r1 rfl (.cell lk46_q rfl rfl rfl rfl .nil)).cast rfl, rfl⟩
        ·refine Tri.skip (Tri.seq (Tri.region ?_))
         refine TriL.c1 rfl (op_mv (ltb rfl) rfl) ?_
         obtain ⟨x35, j35, b35, e35⟩ : ∃ xx_ jj_ cc_, stp b i () (gNeeds L [[59]] i) = (xx_, jj_, cc_) := ⟨_, _, _, rfl⟩
         have hj35 : j35 < L.length := stp_lt ⟨hi, gNeeds_in hL hi⟩ e35
         refine TriL.c2 rfl (op_callh (ltb rfl) fn52_q rfl rfl (rneed1_run hL _ id hi b [59] e35)) ?_
         refine TriL.nil (Tri.seq (Tri.region ?_))
         refine TriL.c1 rfl (op_ldl (ltb rfl) lk46_q rfl rfl rfl) ?_
         refine TriL.c1 rfl (op_stl lk46_q rfl rfl rfl rfl rfl (leb rfl)) ?_
         refine TriL.nil (Tri.ret ?_)
         simp [bRest, bRest0, *] at e; obtain ⟨rfl, rfl, rfl⟩ := e
         exact ⟨.inr rfl, (ResOK.r1 rfl (.cell lk46_q rfl rfl rfl rfl .nil)).cast rfl, rfl⟩
/- the document: a step; all steps of a text. -/
theorem fn49_q : isFn Tryz.prog 49 = true := by kernel_rfl
theorem fn53_q : isFn Tryz.prog 53 = true := by kernel_rfl
theorem bRest_lt {L : List Tk} (hL : Toks L) {x : Stp} {i : Nat} (hi : i < L.length) {b : Bool} {y : Stp} {j : Nat} {c : Bool} (e : bRest L x i b = (y, j, c)) (h0 : (bRest0 L x i b).2.1 < L.length) : j < L.length := by
 cases e
 exact stp_lt2 h0 (gNeeds_in hL h0)
theorem bMore_lt {L : List Tk} (hL : Toks L) : ∀ {n : Nat} {acc : List Str} {i : Nat} {b : Bool}, i < L.length → (bMore L n acc i b).2.1 < L.length
 | 0, acc, i, b, hi => hi
 | n + 1, acc, i, b, hi => by
  unfold bMore
  split
  ·rename_i h
   exact bMore_lt hL (stp_lt2 (bTake_lt hL hi h) (gName_in hL (bTake_lt hL hi h)))
  ·exact hi
theorem bTwo_lt2 {L : List Tk} (hL : Toks L) {x : Stp} {i : Nat} (hi : i < L.length) {b : Bool} : (bTwo L x i b).2.1 < L.length := bTwo_lt hL hi (y := (bTwo L x i b).1) (c := (bTwo L x i b).2.2) rfl
theorem bRest0_lt {L : List Tk} (hL : Toks L) {x : Stp} {i : Nat} (hi : i < L.length) {b : Bool} : (bRest0 L x i b).2.1 < L.length := by
 have N : ∀ {b : Bool} {w : Str} {i : Nat}, i < L.length → (stp b i () (gNeeds L [w] i)).2.1 < L.length := fun h => stp_lt2 h (gNeeds_in hL h)
 have A : ∀ {b : Bool} {i : Nat}, i < L.length → (stp b i [] (gName L i)).2.1 < L.length := fun h => stp_lt2 h (gName_in hL h)
 have U : ∀ {b : Bool} {i : Nat}, i < L.length → (stp b i 0 (gNum L i)).2.1 < L.length := fun h => stp_lt2 h (gNum_in hL h)
 have G : ∀ {b : Bool} {i : Nat}, i < L.length → (stp b i 0 (gGiven L i)).2.1 < L.length := fun h => stp_lt2 h (gGiven_in hL h)
 have T : ∀ {b : Bool} {i : Nat} {w : Bool}, i < L.length → (stp b i 0 (gTy L (whP w) i)).2.1 < L.length := fun h => stp_lt2 h (gTy_in hL h)
 have W : ∀ {b : Bool} {i : Nat} {t : Int}, i < L.length → (stp b i (.mk 0 [] []) (gVal L t i)).2.1 < L.length := fun h => stp_lt2 h (gVal_in hL h)
 unfold bRest0
 split
 ·exact A (N hi)
 split
 ·exact U (N hi)
 split
 ·exact T (N hi)
 split
 ·exact G (A (N (bTwo_lt2 hL hi)))
 split
 ·exact bTwo_lt2 hL (A (N hi))
 split
 ·exact G (A (N (A (N hi))))
 split
 ·exact bMore_lt hL (A (N hi))
 split
 ·exact W (N (T (G hi)))
 ·exact hi
theorem bRest_lt_ {L : List Tk} (hL : Toks L) {x : Stp} {i : Nat} (hi : i < L.length) {b : Bool} {y : Stp} {j : Nat} {c : Bool} (e : bRest L x i b = (y, j, c)) : j < L.length := bRest_lt hL hi e (bRest0_lt hL hi)
/-- the document's step -/
def bOne (L : List Tk) (i : Nat) (b : Bool) : Stp × Nat × Bool :=
 let k := stp b i 0 (gKind L i)
 let m := stp k.2.2 k.2.1 [] (gName L k.2.1)
 let d := stp m.2.2 m.2.1 () (gNeeds L [[46]] m.2.1)
 let f := stp d.2.2 d.2.1 [] (gName L d.2.1)
 bRest L { stp0 with kind := k.1, msg := m.1, field := f.1 } f.2.1 f.2.2
/-- the words so far -/
def KI (L : List Tk) (b : Bool) (i k : Nat) (kd : Int) (q : Nat) : Prop :=
 (kd = 0 ∧ q = i ∧ (b = true ∨ ∀ m, m < k → gTake L (stepWords.getD m []) i = false)) ∨ (b = false ∧ kd ≠ 0 ∧ gKind L i = .ok kd q)
theorem word10 {k : Nat} (h : k < stepWords.length) : stepWords.getD k [] = stepWords[k] := by
 rw [List.getD_eq_getElem?_getD, List.getElem?_eq_getElem h]; rfl
theorem kind_word {k : Nat} (h : k < stepWords.length) : stepKind stepWords[k] = ((k + 1 : Nat) : Int) ∧ stepWords[k].length ≠ 1 := by
 have h2 : k < 10 := h
 have : k = 0 ∨ k = 1 ∨ k = 2 ∨ k = 3 ∨ k = 4 ∨ k = 5 ∨ k = 6 ∨ k = 7 ∨ k = 8 ∨ k = 9 := by omega
 rcases this with rfl | rfl | rfl | rfl | rfl | rfl | rfl | rfl | rfl | rfl <;> exact ⟨rfl, by simp [stepWords]⟩
theorem kind_find {s : Str} (h : stepKind s ≠ 0) : ∃ m, m < 10 ∧ stepWords.getD m [] = s := by
 apply Classical.byContradiction
 intro hn
 have hn' : ∀ m, m < 10 → stepWords.getD m [] ≠ s := fun m hm e => hn ⟨m, hm, e⟩
 apply h
 have e0 := hn' 0 (by decide)
 have e1 := hn' 1 (by decide)
 have e2 := hn' 2 (by decide)
 have e3 := hn' 3 (by decide)
 have e4 := hn' 4 (by decide)
 have e5 := hn' 5 (by decide)
 have e6 := hn' 6 (by decide)
 have e7 := hn' 7 (by decide)
 have e8 := hn' 8 (by decide)
 have e9 := hn' 9 (by decide)
 simp only [stepWords, List.getD_cons_zero, List.getD_cons_succ] at e0 e1 e2 e3 e4 e5 e6 e7 e8 e9
 simp only [stepKind, stepWords, ixFrom, beq_iff_eq, e0, e1, e2, e3, e4, e5, e6, e7, e8, e9, if_false]
 decide
theorem ki_hit {L : List Tk} (hL : Toks L) {b : Bool} {i k : Nat} (hi : i < L.length) (hk : k < stepWords.length) (h : bTake L stepWords[k] i b = true) : b = false ∧ gKind L i = .ok ((k + 1 : Nat) : Int) (i + 1) := by
 simp only [bTake, Bool.and_eq_true, Bool.not_eq_true'] at h
 refine ⟨h.1, ?_⟩
 have h2 := h.2
 simp only [gTake, Bool.and_eq_true, beq_iff_eq, Bool.or_eq_true, decide_eq_true_eq] at h2
 obtain ⟨hs, hk2⟩ := h2
 obtain ⟨w1, w2⟩ := kind_word hk
 have hk1 : (tkAt L i).k = 1 := by
  rcases hk2 with h | h
  ·exact h
  ·exfalso
   have := hL.m (tkAt L i) (by rw [tkAt_eq hi]; exact List.getElem_mem hi) h
   rw [hs] at this; exact w2 this
 unfold gKind gOf
 rw [if_pos ⟨hk1, by simp [kindP, hs, w1]; omega⟩]
 show PR.ok (stepKind (tkAt L i).s) (i + 1) = _
 rw [hs, w1]
theorem ki_step {L : List Tk} {b : Bool} {i k : Nat} {kd : Int} {q : Nat} (h : KI L b i k kd q) (h0 : kd = 0) (hk : k < stepWords.length) (ht : bTake L stepWords[k] q b = false) : KI L b i (k + 1) kd q := by
 rcases h with ⟨h1, h2, h3⟩ | ⟨_, h2, _⟩
 ·subst h2
  refine .inl ⟨h1, rfl, ?_⟩
  rcases h3 with h3 | h3
  ·exact .inl h3
  ·cases b with
   | true => exact .inl rfl
   | false =>
    refine .inr fun m hm => ?_
    rcases Nat.lt_or_eq_of_le (Nat.le_of_lt_succ hm) with h | h
    ·exact h3 m h
    ·subst h; rw [word10 hk]; simpa [bTake] using ht
 ·exact absurd h0 h2
theorem ki_q {L : List Tk} {b : Bool} {i k : Nat} {kd : Int} {q : Nat} (h : KI L b i k kd q) (h0 : kd = 0) : q = i := by
 rcases h with ⟨_, h2, _⟩ | ⟨_, h2, _⟩
 ·exact h2
 ·exact absurd h0 h2
theorem ki_ok {L : List Tk} {b : Bool} {i k : Nat} {kd : Int} {q : Nat} (h : KI L b i k kd q) (h0 : kd ≠ 0) : stp b i 0 (gKind L i) = (kd, q, b) := by
 rcases h with ⟨h1, _⟩ | ⟨h1, _, h3⟩
 ·exact absurd h1 h0
 ·subst h1; rw [h3]; rfl
theorem ki_bad {L : List Tk} {b : Bool} {i k : Nat} {kd : Int} {q : Nat} (h : KI L b i k kd q) (h0 : kd = 0) (hk : stepWords.length ≤ k) : stp b i 0 (gKind L i) = (kd, q, true) := by
 rcases h with ⟨h1, h2, h3⟩ | ⟨_, h2, _⟩
 ·subst h1 h2
  cases b with
  | true => rfl
  | false =>
   have h3 := h3.resolve_left (by decide)
   have : gKind L q = .bad q := by
    unfold gKind gOf
    rw [if_neg]
    ·rfl
    ·rintro ⟨hk1, hp⟩
     have hne : stepKind (tkAt L q).s ≠ 0 := by simpa [kindP] using hp
     obtain ⟨m, hm, e⟩ := kind_find hne
     have := h3 m (Nat.lt_of_lt_of_le hm hk)
     rw [e] at this
     simp [gTake, hk1] at this
   rw [this]; rfl
 ·exact absurd h0 h2
theorem ki_hit2 {L : List Tk} (hL : Toks L) {b : Bool} {i k : Nat} {kd : Int} {q : Nat} (hi : i < L.length) (h : KI L b i k kd q) (h0 : kd = 0) (hk : k < stepWords.length) (ht : bTake L stepWords[k] q b = true) : KI L b i (k + 1) (IntKind.i64.wrap ((k : Int) + 1)) (q + 1) := by
 have hq := ki_q h h0
 subst hq
 have h2 := ki_hit hL hi hk ht
 have hk2 : k < 10 := hk
 rw [inc (by omega)]
 exact .inr ⟨h2.1, by omega, h2.2⟩
theorem ki_lt {L : List Tk} (hL : Toks L) {b : Bool} {i k : Nat} {kd : Int} {q : Nat} (hi : i < L.length) (h : KI L b i k kd q) : q < L.length := by
 rcases h with ⟨_, rfl, _⟩ | ⟨_, _, h3⟩
 ·exact hi
 ·exact PR.ok_lt (gKind_in hL hi) h3
theorem r_stepwords : Pure Tryz.prog 49 [] (.sl (stepWords.map .str)) := by
 refine Pure.of_tri Tryz.func49 rfl rfl (Nat.zero_le _) fun H => ?_
 refine Tri.seq (Tri.region ?_)
 refine TriL.c1 rfl (op_as (ltb rfl) rfl) ?_
 refine TriL.nil (Tri.seq (Tri.region ?_))
 refine TriL.c1 rfl (op_lit («as» := [_, _, _, _, _, _, _, _, _, _]) (ltb rfl) se40_q zAe40_q rfl rfl rfl (leb rfl)) ?_
 refine TriL.c1 rfl (op_as (ltb rfl) rfl) ?_
 refine TriL.nil (Tri.ret ?_)
 exact ⟨.inr rfl, (ResOK.r1 rfl (.tmp rfl .nil)).cast rfl, rfl⟩
theorem rone_run {L : List Tk} (hL : Toks L) (H : Hp) (id : Nat) {i : Nat} (hi : i < L.length) (b : Bool) {j : Nat} {c : Bool} {y : Stp} (e : bOne L i b = (y, j, c)) : Run Tryz.prog 24 [.op id 0] (HatB H id L i b) y.av (HatB H id L j c) := by
 refine Run.of_tri Tryz.func24 rfl rfl (ltb rfl) ?_
 refine Tri.seq (Tri.region ?_)
 refine TriL.c2 rfl (op_all (ltb rfl) zA46_q rfl) ?_
 refine TriL.nil (Tri.seq (Tri.region ?_))
 refine TriL.c1 rfl (op_call (ltb rfl) fn49_q rfl r_stepwords) ?_
 refine TriL.c1 rfl (op_as (ltb rfl) rfl) ?_
 refine TriL.nil (Tri.seq (Tri.region ?_))
 refine TriL.c1 rfl (op_bld (ltb rfl) spl46_q zA46_q rfl rfl) ?_
 refine TriL.c2 rfl (op_all (ltb rfl) zA46_q rfl) ?_
 refine TriL.c1 rfl (op_stl lk46_q rfl rfl rfl rfl rfl (leb rfl)) ?_
 refine TriL.nil ?_
 refine Tri.joinu [.s 0, .s 2, .b 2] (fun ((kd1, q1) : Int × Nat) => [(.b 4, .bx ((Stp.cells { stp0 with kind := kd1 }).map .v)), (.s 4, .sv (.lp 4 0)), (.h, .hp (HatB H id L q1 b))]) (fun ((kd1, q1) : Int × Nat) => ∃ k, KI L b i k kd1 q1 ∧ (stepWords.length ≤ k ∨ kd1 ≠ 0)) rfl ?_ ?_
 ·refine Tri.seq (Tri.region ?_)
  refine TriL.c1 rfl (op_as (ltb rfl) rfl) ?_
  refine TriL.nil (Tri.blk ?_)
  refine Tri.ofKept (Kept.keep [.s 5, .b 4, .h, .s 0, .s 2, .b 2, .s 3, .s 4] rfl (by decide) (Kept.now ?_))
  -- LOOP 1
  refine Tri.loopk (fun ((k, kd, q) : Nat × Int × Nat) => [(.s 5, .sv (.v (.int .i64 (k : Int)))), (.b 4, .bx ((Stp.cells { stp0 with kind := kd }).map .v)), (.h, .hp (HatB H id L q b))]) _ (fun ((k, kd, q) : Nat × Int × Nat) => KI L b i k kd q) (fun ((k, kd, q) : Nat × Int × Nat) => stepWords.length - k) (0, 0, i) rfl (.inl ⟨rfl, rfl, .inr (fun m hm => absurd hm (Nat.not_lt_zero m))⟩) ?_
  rintro ⟨k, kd, q⟩ hI
  have hq := ki_lt hL hi hI
  refine Tri.seq (Tri.seq (Tri.region ?_))
  iterate 2 (refine TriL.c1 rfl (op_mv (ltb rfl) rfl) ?_)
  refine TriL.c1 rfl (op_lenl (ltb rfl) un40_q rfl) ?_
  refine TriL.c1 rfl (op_bin (ltb rfl) rfl rfl rfl) ?_
  refine TriL.c1 rfl (op_mv (ltb rfl) rfl) ?_
  refine TriL.split (d := 12) rfl (fun hg1 => ?_) (fun hg1 => ?_)
  ·have hk := ltm hg1
   refine TriL.g1 rfl (ltb rfl) rfl hg1 (op_fal (ltb rfl) fo46_0_q rfl) ?_
   refine TriL.g1 rfl (ltb rfl) rfl hg1 (op_ldl (ltb rfl) lk3_q rfl rfl rfl) ?_
   refine TriL.g1 rfl (ltb rfl) rfl hg1 (op_bin (ltb rfl) rfl rfl rfl) ?_
   refine TriL.c1 rfl (op_pickt (ltb rfl) rfl hg1 rfl) ?_
   refine TriL.nil ?_
   refine Tri.cond rfl (fun hc2 => ?_) (fun hc2 => ?_)
   ·refine Tri.skip (Tri.seq (Tri.blk (Tri.seq (Tri.region ?_))))
    iterate 3 (refine TriL.c1 rfl (op_mv (ltb rfl) rfl) ?_)
    refine TriL.c1 rfl (op_iak (ltb rfl) ie40_q rfl rfl (Int.natCast_nonneg _) (ixm hk) rfl) ?_
    refine TriL.c1 rfl (op_ldk (ltb rfl) lk9_q rfl rfl) ?_
    cases hp1 : bTake L stepWords[k] q b with
    | true => 
     refine TriL.c2 rfl (op_callh (ltb rfl) fn50_q rfl rfl (rtakeT hL _ id hq b hp1)) ?_
     refine TriL.nil ?_
     refine Tri.condT rfl rfl ?_
     refine Tri.region ?_
     refine TriL.c1 rfl (op_mv (ltb rfl) rfl) ?_
     refine TriL.c1 rfl (op_bin (ltb rfl) rfl rfl rfl) ?_
     refine TriL.c1 rfl (op_fal (ltb rfl) fo46_0_q rfl) ?_
     refine TriL.c1 rfl (op_stl lk3_q rfl rfl rfl rfl rfl (leb rfl)) ?_
     refine TriL.nil (Tri.region ?_)
     refine TriL.c1 rfl (op_mv (ltb rfl) rfl) ?_
     refine TriL.c1 rfl (op_bin (ltb rfl) rfl rfl rfl) ?_
     refine TriL.c1 rfl (op_as (ltb rfl) rfl) ?_
     refine TriL.kept (Kept.seti 5 rfl (inc (by have : k < 10 := hk; omega)) (Kept.keep [.s 5, .b 4, .h, .s 0, .s 2, .b 2, .s 3, .s 4] rfl (by decide) (Kept.now ?_)))
     exact ⟨(k + 1, _, _), by dsimp only; omega, ki_hit2 hL hi hI (by simpa using hc2) hk hp1, rfl⟩
    | false => 
     refine TriL.c2 rfl (op_callh (ltb rfl) fn50_q rfl rfl (rtakeF hL _ id hq b hp1)) ?_
     refine TriL.nil ?_
     refine Tri.condF rfl rfl ?_
     refine Tri.skip (Tri.region ?_)
     refine TriL.c1 rfl (op_mv (ltb rfl) rfl) ?_
     refine TriL.c1 rfl (op_bin (ltb rfl) rfl rfl rfl) ?_
     refine TriL.c1 rfl (op_as (ltb rfl) rfl) ?_
     refine TriL.kept (Kept.seti 5 rfl (inc (by have : k < 10 := hk; omega)) (Kept.keep [.s 5, .b 4, .h, .s 0, .s 2, .b 2, .s 3, .s 4] rfl (by decide) (Kept.now ?_)))
     exact ⟨(k + 1, _, _), by dsimp only; omega, ki_step hI (by simpa using hc2) hk hp1, rfl⟩
   ·refine Tri.ofKept (Kept.keep [.b 4, .s 4, .h, .s 0, .s 2, .b 2] rfl (by decide) (Kept.now ?_))
    refine Tri.exit ?_
    exact ⟨(_, _), ⟨k, hI, .inr (by simpa using hc2)⟩, rfl⟩
  ·have hk := gem hg1
   iterate 3 (refine TriL.skipu rfl rfl (ltb rfl) (ltb rfl) rfl hg1 ?_)
   refine TriL.c1 rfl (op_pickf (ltb rfl) rfl hg1 rfl) ?_
   refine TriL.nil ?_
   refine Tri.condF rfl rfl ?_
   refine Tri.ofKept (Kept.keep [.b 4, .s 4, .h, .s 0, .s 2, .b 2] rfl (by decide) (Kept.now ?_))
   refine Tri.exit ?_
   exact ⟨(_, _), ⟨k, hI, .inl (gem hg1)⟩, rfl⟩
 ·rintro ⟨kd1, q1⟩ ⟨k, hI, hke⟩
  have hq1 := ki_lt hL hi hI
  refine Tri.joinu [.s 0, .s 2, .b 2] (fun ((kd2, q2, c2) : Int × Nat × Bool) => [(.b 4, .bx ((Stp.cells { stp0 with kind := kd2 }).map .v)), (.s 4, .sv (.lp 4 0)), (.h, .hp (HatB H id L q2 c2))]) (fun ((kd2, q2, c2) : Int × Nat × Bool) => stp b i 0 (gKind L i) = (kd2, q2, c2)) rfl ?_ ?_
  ·refine Tri.seq (Tri.region ?_)
   refine TriL.c1 rfl (op_fal (ltb rfl) fo46_0_q rfl) ?_
   refine TriL.c1 rfl (op_ldl (ltb rfl) lk3_q rfl rfl rfl) ?_
   refine TriL.c1 rfl (op_bin (ltb rfl) rfl rfl rfl) ?_
   refine TriL.nil ?_
   refine Tri.cond rfl (fun hc3 => ?_) (fun hc3 => ?_)
   ·-- region 9 ref.go:134
    refine Tri.region ?_
    refine TriL.c1 rfl (op_mv (ltb rfl) rfl) ?_
    refine TriL.c1 rfl (op_nckc (ltb rfl) rfl) ?_
    refine TriL.c1 rfl (op_fac (ltb rfl) fo66_2_q rfl) ?_
    refine TriL.c1 rfl (op_stc lk4_q rfl rfl Hp.set_obj rfl rfl rfl) ?_
    refine TriL.kept (Kept.seth rfl (HatB_bad H id L _ _) (Kept.keep [.b 4, .s 4, .h, .s 0, .s 2, .b 2] rfl (by decide) (Kept.now ?_)))
    exact ⟨(_, _, _), ki_bad hI (by simpa using hc3) (hke.resolve_right (by simpa using hc3)), rfl⟩
   ·refine Tri.ofKept (Kept.keep [.b 4, .s 4, .h, .s 0, .s 2, .b 2] rfl (by decide) (Kept.now ?_))
    refine Tri.skip ?_
    exact ⟨(_, _, _), ki_ok hI (by simpa using hc3), rfl⟩
  ·rintro ⟨kd2, q2, c2⟩ e0
   have hq2 := stp_lt ⟨hi, gKind_in hL hi⟩ e0
   refine Tri.seq (Tri.region ?_)
   refine TriL.c1 rfl (op_mv (ltb rfl) rfl) ?_
   obtain ⟨x2, j2, b2, e2⟩ : ∃ xx_ jj_ cc_, stp c2 q2 [] (gName L q2) = (xx_, jj_, cc_) := ⟨_, _, _, rfl⟩
   have hj2 : j2 < L.length := stp_lt ⟨hq2, gName_in hL hq2⟩ e2
   refine TriL.c2 rfl (op_callh (ltb rfl) fn51_q rfl rfl (rname_run hL _ id hq2 c2 e2)) ?_
   refine TriL.c1 rfl (op_fal (ltb rfl) fo46_1_q rfl) ?_
   refine TriL.c1 rfl (op_stl lk9_q rfl rfl rfl rfl rfl (leb rfl)) ?_
   refine TriL.nil (Tri.seq (Tri.region ?_))
   refine TriL.c1 rfl (op_mv (ltb rfl) rfl) ?_
   obtain ⟨x3, j3, b3, e3⟩ : ∃ xx_ jj_ cc_, stp b2 j2 () (gNeeds L [[46]] j2) = (xx_, jj_, cc_) := ⟨_, _, _, rfl⟩
   have hj3 : j3 < L.length := stp_lt ⟨hj2, gNeeds_in hL hj2⟩ e3
   refine TriL.c2 rfl (op_callh (ltb rfl) fn52_q rfl rfl (rneed1_run hL _ id hj2 b2 [46] e3)) ?_
   refine TriL.nil (Tri.seq (Tri.region ?_))
   refine TriL.c1 rfl (op_mv (ltb rfl) rfl) ?_
   obtain ⟨x4, j4, b4, e4⟩ : ∃ xx_ jj_ cc_, stp b3 j3 [] (gName L j3) = (xx_, jj_, cc_) := ⟨_, _, _, rfl⟩
   have hj4 : j4 < L.length := stp_lt ⟨hj3, gName_in hL hj3⟩ e4
   refine TriL.c2 rfl (op_callh (ltb rfl) fn51_q rfl rfl (rname_run hL _ id hj3 b3 e4)) ?_
   refine TriL.c1 rfl (op_fal (ltb rfl) fo46_2_q rfl) ?_
   refine TriL.c1 rfl (op_stl lk9_q rfl rfl rfl rfl rfl (leb rfl)) ?_
   refine TriL.nil (Tri.seq (Tri.region ?_))
   refine TriL.c1 rfl (op_mv (ltb rfl) rfl) ?_
   refine TriL.c1 rfl (op_ldl (ltb rfl) lk46_q rfl rfl rfl) ?_
   obtain ⟨x5, j5, b5, e5⟩ : ∃ xx_ jj_ cc_, bRest L { stp0 with kind := kd2, msg := x2, field := x4 } j4 b4 = (xx_, jj_, cc_) := ⟨_, _, _, rfl⟩
   have hj5 : j5 < L.length := bRest_lt_ hL hj4 e5
   refine TriL.c2 rfl (op_callh (ltb rfl) fn53_q rfl rfl (rrest_run hL _ id hj4 b4 { stp0 with kind := kd2, msg := x2, field := x4 } e5)) ?_
   refine TriL.c1 rfl (op_stl lk46_q rfl rfl rfl rfl rfl (leb rfl)) ?_
   refine TriL.nil (Tri.ret ?_)
   simp only [bOne, e0, e2, e3, e4, e5] at e; obtain ⟨rfl, rfl, rfl⟩ := (Prod.mk.injEq .. ▸ e : _)
   exact ⟨.inr rfl, (ResOK.r1 rfl (.cell lk46_q rfl rfl rfl rfl .nil)).cast rfl, rfl⟩
/- Plain laws: what the document makes of tokens is what the grammar says, or wrong where it says. No condition. -/
def Fol {α : Type} (t : α × Nat × Bool) (r : PR α) : Prop := match r with
 | .ok a j => t = (a, j, false)
 | .bad j => t.2 = (j, true)
theorem Fol.stp {α : Type} {i : Nat} {d : α} {r : PR α} : Fol (X.stp false i d r) r := by cases r <;> rfl
theorem stp_snd {α : Type} {i : Nat} {d : α} {r : PR α} : (X.stp true i d r).2 = (i, true) := rfl
theorem Fol.cases {α : Type} {t : α × Nat × Bool} {r : PR α} (h : Fol t r) : (∃ a j, r = .ok a j ∧ t = (a, j, false)) ∨ ∃ j, r = .bad j ∧ t.2 = (j, true) := by
 cases r with
 | ok a j => exact .inl ⟨a, j, rfl, h⟩
 | bad j => exact .inr ⟨j, rfl, h⟩
/-- one behind the other -/
theorem Fol.bind {α β : Type} {t : α × Nat × Bool} {r : PR α} {f : α → Nat → PR β} {u : β × Nat × Bool} (h : Fol t r) (hok : ∀ a j, t = (a, j, false) → Fol u (f a j)) (hbad : ∀ j, t.2 = (j, true) → u.2 = (j, true)) : Fol u (r.bind f) := by
 cases r with
 | ok a j => exact hok a j h
 | bad j => exact hbad j h
section
variable {L : List Tk}
theorem bTwo_fol {x : Stp} {i : Nat} : Fol (bTwo L x i false) ((gNeeds L [[105, 110, 116, 111]] i).bind fun _ a => (gName L a).bind fun s a => (gGiven L a).bind fun n a => .ok { x with dest := s, num := n } a) := by
 unfold bTwo
 refine (Fol.stp (i := i) (d := ())).bind (fun _ a e => ?_) (fun j e => ?_)
 ·simp only [e]
  refine (Fol.stp (i := a) (d := ([] : Str))).bind (fun s a e => ?_) (fun j e => ?_)
  ·simp only [e]
   refine (Fol.stp (i := a) (d := (0 : Int))).bind (fun n a e => ?_) (fun j e => ?_)
   ·simp only [e]; rfl
   ·simp only [e]
  ·simp only [e, stp_snd]
 ·simp only [e, stp_snd]
theorem bTwo_true {x : Stp} {i : Nat} : (bTwo L x i true).2 = (i, true) := rfl
theorem bMore_true {n : Nat} {acc : List Str} {i : Nat} : (bMore L n acc i true).2 = (i, true) := by
 cases n with
 | zero => rfl
 | succ n => rfl
theorem bMore_fol : ∀ {n : Nat} {acc : List Str} {i : Nat}, Fol (bMore L n acc i false) (gMore L n acc i)
 | 0, acc, i => rfl
 | n + 1, acc, i => by
  unfold bMore gMore
  by_cases h : gTake L [44] i = true
  ·rw [if_pos (by simp [bTake, h]), if_pos h]
   refine (Fol.stp (i := i + 1) (d := ([] : Str))).bind (fun s a e => ?_) (fun j e => ?_)
   ·simp only [e]; exact bMore_fol
   ·simp only [e, bMore_true]
  ·rw [if_neg (by simpa [bTake] using h), if_neg h]; rfl
theorem bRest0_true {x : Stp} {i : Nat} : (bRest0 L x i true).2 = (i, true) := by
 unfold bRest0
 repeat' split
 all_goals first | rfl | exact bMore_true
theorem bRest0_fol {x : Stp} {i : Nat} : Fol (bRest0 L x i false) (gRest0 L x i) := by
 unfold bRest0 gRest0
 by_cases h1 : x.kind = 1
 ·rw [if_pos (by simp [h1]), if_pos h1]
  refine (Fol.stp (i := i) (d := ())).bind (fun _ a e => ?_) (fun j e => by simp only [e, stp_snd])
  simp only [e]
  refine (Fol.stp (i := a) (d := ([] : Str))).bind (fun _ a e => ?_) (fun j e => by simp only [e])
  simp only [e]; rfl
 rw [if_neg (by simpa using h1), if_neg h1]
 by_cases h2 : x.kind = 2
 ·rw [if_pos (by simp [h2]), if_pos h2]
  refine (Fol.stp (i := i) (d := ())).bind (fun _ a e => ?_) (fun j e => by simp only [e, stp_snd])
  simp only [e]
  refine (Fol.stp (i := a) (d := (0 : Int))).bind (fun _ a e => ?_) (fun j e => by simp only [e])
  simp only [e]; rfl
 rw [if_neg (by simpa using h2), if_neg h2]
 by_cases h3 : x.kind = 3
 ·rw [if_pos (by simp [h3]), if_pos h3]
  refine (Fol.stp (i := i) (d := ())).bind (fun _ a e => ?_) (fun j e => by simp only [e, stp_snd])
  simp only [e, whP_t]
  refine (Fol.stp (i := a) (d := (0 : Int))).bind (fun _ a e => ?_) (fun j e => by simp only [e])
  simp only [e]; rfl
 rw [if_neg (by simpa using h3), if_neg h3]
 by_cases h4 : x.kind = 4
 ·rw [if_pos (by simp [h4]), if_pos (.inl h4)]
  have hg : gFields L x i = ((gNeeds L [[105, 110, 116, 111]] i).bind fun _ a => (gName L a).bind fun s a => (gGiven L a).bind fun n a => .ok { x with dest := s, num := n } a).bind fun y a => (gNeeds L [[44]] a).bind fun _ a => (gName L a).bind fun u b => (gGiven L b).bind fun m c => .ok { y with also := u, other := m } c := by
   unfold gFields
   rw [if_neg (by omega)]
   simp only [PR.bind_ok]
   cases gNeeds L [[105, 110, 116, 111]] i with
   | bad j => rfl
   | ok _ a =>
    simp only [PR.bind_ok]
    cases gName L a with
    | bad j => rfl
    | ok s a =>
     simp only [PR.bind_ok]
     rw [if_neg (by omega)]
     simp only [PR.bind_ok]
     cases gGiven L a with
     | bad j => rfl
     | ok n a => simp only [PR.bind_ok]; rw [if_pos h4]
  rw [hg]
  refine bTwo_fol.bind (fun y a e => ?_) (fun j e => by simp only [e, stp_snd])
  simp only [e]
  refine (Fol.stp (i := a) (d := ())).bind (fun _ a e => ?_) (fun j e => by simp only [e, stp_snd])
  simp only [e]
  refine (Fol.stp (i := a) (d := ([] : Str))).bind (fun _ a e => ?_) (fun j e => by simp only [e, stp_snd])
  simp only [e]
  refine (Fol.stp (i := a) (d := (0 : Int))).bind (fun _ a e => ?_) (fun j e => by simp only [e])
  simp only [e]; rfl
 rw [if_neg (by simpa using h4)]
 by_cases h5 : x.kind = 5
 ·rw [if_pos (by simp [h5]), if_pos (.inr (.inl h5))]
  have hg : gFields L x i = (gNeeds L [[44]] i).bind fun _ a => (gName L a).bind fun u b => (gNeeds L [[105, 110, 116, 111]] b).bind fun _ a => (gName L a).bind fun s a => (gGiven L a).bind fun n a => .ok { { x with also := u } with dest := s, num := n } a := by
   unfold gFields
   rw [if_pos h5]
   cases gNeeds L [[44]] i with
   | bad j => rfl
   | ok _ a =>
    simp only [PR.bind_ok]
    cases gName L a with
    | bad j => rfl
    | ok u a =>
     simp only [PR.bind_ok]
     cases gNeeds L [[105, 110, 116, 111]] a with
     | bad j => rfl
     | ok _ a =>
      simp only [PR.bind_ok]
      cases gName L a with
      | bad j => rfl
      | ok s a =>
       simp only [PR.bind_ok]
       rw [if_neg (by simp [h5])]
       simp only [PR.bind_ok]
       cases gGiven L a with
       | bad j => rfl
       | ok n a => simp only [PR.bind_ok]; rw [if_neg (by simp [h5])]
  rw [hg]
  refine (Fol.stp (i := i) (d := ())).bind (fun _ a e => ?_) (fun j e => by simp only [e, stp_snd, bTwo_true])
  simp only [e]
  refine (Fol.stp (i := a) (d := ([] : Str))).bind (fun u a e => ?_) (fun j e => by simp only [e, bTwo_true])
  simp only [e]
  exact bTwo_fol
 rw [if_neg (by simpa using h5)]
 by_cases h6 : x.kind = 6
 ·rw [if_pos (by simp [h6]), if_pos (.inr (.inr h6))]
  have hg : gFields L x i = (gNeeds L [[105, 110, 116, 111]] i).bind fun _ a => (gName L a).bind fun s a => (gNeeds L [[97, 115]] a).bind fun _ a => (gName L a).bind fun u a => (gGiven L a).bind fun n a => .ok { x with dest := s, also := u, num := n } a := by
   unfold gFields
   rw [if_neg (by omega)]
   simp only [PR.bind_ok]
   cases gNeeds L [[105, 110, 116, 111]] i with
   | bad j => rfl
   | ok _ a =>
    simp only [PR.bind_ok]
    cases gName L a with
    | bad j => rfl
    | ok s a =>
     simp only [PR.bind_ok]
     rw [if_pos h6]
     cases gNeeds L [[97, 115]] a with
     | bad j => rfl
     | ok _ a =>
      simp only [PR.bind_ok]
      cases gName L a with
      | bad j => rfl
      | ok u a =>
       simp only [PR.bind_ok]
       cases gGiven L a with
       | bad j => rfl
       | ok n a => simp only [PR.bind_ok]; rw [if_neg (by simp [h6])]
  rw [hg]
  refine (Fol.stp (i := i) (d := ())).bind (fun _ a e => ?_) (fun j e => by simp only [e, stp_snd])
  simp only [e]
  refine (Fol.stp (i := a) (d := ([] : Str))).bind (fun u a e => ?_) (fun j e => by simp only [e, stp_snd])
  simp only [e]
  refine (Fol.stp (i := a) (d := ())).bind (fun u a e => ?_) (fun j e => by simp only [e, stp_snd])
  simp only [e]
  refine (Fol.stp (i := a) (d := ([] : Str))).bind (fun u a e => ?_) (fun j e => by simp only [e, stp_snd])
  simp only [e]
  refine (Fol.stp (i := a) (d := (0 : Int))).bind (fun u a e => ?_) (fun j e => by simp only [e])
  simp only [e]; rfl
 rw [if_neg (by simpa using h6), if_neg (show ¬(x.kind = 4 ∨ x.kind = 5 ∨ x.kind = 6) by omega)]
 by_cases h8 : x.kind = 8
 ·rw [if_pos (by simp [h8]), if_pos h8]
  refine (Fol.stp (i := i) (d := ())).bind (fun _ a e => ?_) (fun j e => by simp only [e, stp_snd, bMore_true])
  simp only [e]
  unfold gNames
  have key : Fol (let s := X.stp false a [] (gName L a); bMore L (L.length - s.2.1) [s.1] s.2.1 s.2.2) ((gName L a).bind fun s j => gMore L (L.length - j) [s] j) := by
   refine (Fol.stp (i := a) (d := ([] : Str))).bind (fun s a e => ?_) (fun j e => by simp only [e, bMore_true])
   simp only [e]; exact bMore_fol
  refine key.bind (fun l k e => ?_) (fun j e => ?_)
  ·simp only at e; simp only [e]; rfl
  ·simp only at e; simp only [e]
 rw [if_neg (by simpa using h8), if_neg h8]
 by_cases h9 : x.kind = 9
 ·rw [if_pos (by simp [h9]), if_pos h9]
  refine (Fol.stp (i := i) (d := (0 : Int))).bind (fun _ a e => ?_) (fun j e => by simp only [e, stp_snd])
  simp only [e, whP_f]
  refine (Fol.stp (i := a) (d := (0 : Int))).bind (fun _ a e => ?_) (fun j e => by simp only [e, stp_snd])
  simp only [e]
  refine (Fol.stp (i := a) (d := ())).bind (fun _ a e => ?_) (fun j e => by simp only [e, stp_snd])
  simp only [e]
  refine (Fol.stp (i := a) (d := (Val.mk 0 [] []))).bind (fun _ a e => ?_) (fun j e => by simp only [e])
  simp only [e]; rfl
 rw [if_neg (by simpa using h9), if_neg h9]
 rfl
theorem bRest_true {x : Stp} {i : Nat} : (bRest L x i true).2 = (i, true) := by
 unfold bRest
 simp only [bRest0_true, stp_snd]
theorem bRest_fol {x : Stp} {i : Nat} : Fol (bRest L x i false) (gRest L x i) := by
 unfold bRest gRest
 refine bRest0_fol.bind (fun y a e => ?_) (fun j e => by simp only [e, stp_snd])
 simp only [e]
 refine (Fol.stp (i := a) (d := ())).bind (fun _ a e => ?_) (fun j e => by simp only [e])
 simp only [e]; rfl
theorem bOne_fol {i : Nat} : Fol (bOne L i false) (gStep L i) := by
 unfold bOne gStep
 refine (Fol.stp (i := i) (d := (0 : Int))).bind (fun k a e => ?_) (fun j e => by simp only [e, stp_snd, bRest_true])
 simp only [e]
 refine (Fol.stp (i := a) (d := ([] : Str))).bind (fun k a e => ?_) (fun j e => by simp only [e, stp_snd, bRest_true])
 simp only [e]
 refine (Fol.stp (i := a) (d := ())).bind (fun k a e => ?_) (fun j e => by simp only [e, stp_snd, bRest_true])
 simp only [e]
 refine (Fol.stp (i := a) (d := ([] : Str))).bind (fun k a e => ?_) (fun j e => by simp only [e, bRest_true])
 simp only [e]
 exact bRest_fol
theorem bOne_cases {i j : Nat} {c : Bool} {y : Stp} (e : bOne L i false = (y, j, c)) : (c = false ∧ gStep L i = .ok y j) ∨ (c = true ∧ gStep L i = .bad j) := by
 rcases (bOne_fol (L := L) (i := i)).cases with ⟨a, k, h1, h2⟩ | ⟨k, h1, h2⟩
 ·rw [e] at h2; cases h2; exact .inl ⟨rfl, h1⟩
 ·rw [e] at h2; cases h2; exact .inr ⟨rfl, h1⟩
theorem bOne_lt (hL : Toks L) {i : Nat} (hi : i < L.length) {b : Bool} {y : Stp} {j : Nat} {c : Bool} (e : bOne L i b = (y, j, c)) : j < L.length := by
 have h1 := stp_lt2 (b := b) (d := (0 : Int)) hi (gKind_in hL hi)
 have h2 := stp_lt2 (b := (X.stp b i 0 (gKind L i)).2.2) (d := ([] : Str)) h1 (gName_in hL h1)
 have h3 := stp_lt2 (b := (X.stp (X.stp b i 0 (gKind L i)).2.2 (X.stp b i 0 (gKind L i)).2.1 ([] : Str) (gName L (X.stp b i 0 (gKind L i)).2.1)).2.2) (d := ()) h2 (gNeeds_in hL (ws := [[46]]) h2)
 exact bRest_lt_ hL (stp_lt2 h3 (gName_in hL h3)) e
end
/- the document: the steps of a text, and what it answers. -/
theorem fn23_q : isFn Tryz.prog 23 = true := by kernel_rfl
theorem fn24_q : isFn Tryz.prog 24 = true := by kernel_rfl
theorem spl66_q : spl Tryz.prog 66 = some [(0, 1), (1, 1), (2, 1)] := by kernel_rfl
theorem zA66_q : zeroA Tryz.prog 66 = some [AV.sl [], AV.int IntKind.i64 (0), AV.bool false] := by kernel_rfl
/-- what the document has read -/
def SI (L : List Tk) (q : Nat) (cc : Bool) (xs ys : List AV) : Prop :=
 ∃ acc : List (Stp × Nat), xs = acc.map (fun p => p.1.av) ∧ ys = acc.map (fun p => AV.int .i64 (p.2 : Int)) ∧ q < L.length ∧ acc.length ≤ L.length + 1 ∧
  (cc = false → acc.length ≤ q ∧ ∃ n, gSteps L n acc q = gSteps L L.length [] 0 ∧ L.length - q ≤ n) ∧ (cc = true → gSteps L L.length [] 0 = .bad q)
theorem si_start {L : List Tk} (h : 0 < L.length) : SI L 0 false [] [] := ⟨[], rfl, rfl, h, by simp, fun _ => ⟨by simp, L.length, rfl, by omega⟩, fun h => absurd h (by decide)⟩
theorem si_next {L : List Tk} (hL : Toks L) {q j : Nat} {cc c : Bool} {xs ys : List AV} {y : Stp} (h : SI L q cc xs ys) (hcc : cc = false) (hk : (tkAt L q).k ≠ 0) (e : bOne L q cc = (y, j, c)) : SI L j c (xs ++ [y.av]) (ys ++ [.int .i64 ((tkAt L q).pos : Int)]) := by
 subst hcc
 obtain ⟨acc, rfl, rfl, hq, _, h2, _⟩ := h
 obtain ⟨hac, n, hn, hnq⟩ := h2 rfl
 have hj := bOne_lt hL hq e
 rw [gSteps_step (by omega) hk] at hn
 rcases bOne_cases e with ⟨rfl, h3⟩ | ⟨rfl, h3⟩
 ·have := gStep_next h3
  rw [h3] at hn
  exact ⟨acc ++ [(y, (tkAt L q).pos)], by simp, by simp, hj, by simp; omega, fun _ => ⟨by simp; omega, n - 1, hn, by omega⟩, fun h => absurd h (by decide)⟩
 ·rw [h3] at hn
  exact ⟨acc ++ [(y, (tkAt L q).pos)], by simp, by simp, hj, by simp; omega, fun h => absurd h (by decide), fun _ => hn.symm⟩
theorem si_m {L : List Tk} {q j : Nat} {cc c : Bool} {y : Stp} (hcc : cc = false) (hq : q < L.length) (e : bOne L q cc = (y, j, c)) : (if c = true then 0 else L.length - j + 1) < (if cc = true then 0 else L.length - q + 1) := by
 subst hcc
 rcases bOne_cases e with ⟨rfl, h3⟩ | ⟨rfl, h3⟩
 ·have := gStep_next h3
  simp; omega
 ·simp
theorem si_len {L : List Tk} (hL : Toks L) {q : Nat} {cc : Bool} {xs ys : List AV} (h : SI L q cc xs ys) : xs.length ≤ 1000001 ∧ ys.length ≤ 1000001 := by
 obtain ⟨acc, rfl, rfl, hq, h1, _⟩ := h
 have := hL.len
 simp; omega
theorem si_q {L : List Tk} {q : Nat} {cc : Bool} {xs ys : List AV} (h : SI L q cc xs ys) : q < L.length := by
 obtain ⟨_, _, _, h, _⟩ := h; exact h
theorem si_bad {s : Str} (hs : s.length ≤ 6000) (h2 : (lexGo s 0).2 = none) {q : Nat} {cc : Bool} {xs ys : List AV} (h : SI (lexT s) q cc xs ys) (hcc : cc = true) : (mSteps s).av = .tup [.sl [], .sl [], .int .i64 ((tkAt (lexT s) q).pos : Int), .int .i64 2] := by
 subst hcc
 obtain ⟨_, _, _, _, _, _, h⟩ := h
 rw [mSteps_eq hs h2, h rfl]; rfl
theorem si_ok {s : Str} (hs : s.length ≤ 6000) (h2 : (lexGo s 0).2 = none) {q : Nat} {cc : Bool} {xs ys : List AV} (h : SI (lexT s) q cc xs ys) (hcc : cc = false) (hk : (tkAt (lexT s) q).k = 0) : (mSteps s).av = .tup [.sl xs, .sl ys, .int .i64 (s.length : Int), .int .i64 0] := by
 subst hcc
 obtain ⟨acc, rfl, rfl, _, _, h, _⟩ := h
 obtain ⟨_, n, hn, _⟩ := h rfl
 rw [gSteps_end hk] at hn
 rw [mSteps_eq hs h2, ← hn]; rfl
theorem HatB_top {H : Hp} {L : List Tk} {j k : Nat} {b : Bool} (hk : k < H.next) : (HatB ⟨H.next + 1, H.obj⟩ H.next L j b).obj k = H.obj k := by
 simp only [HatB, Hp.set]; rw [if_neg (by omega)]
theorem rsteps_bad (s : Str) (n : Nat) (e : Int) (he : e ≠ 0) (hm : mSteps s = ⟨[], n, e⟩) (hA : Pure Tryz.prog 23 [.str s, .int .i64 6000] (.tup [.sl [], .int .i64 (n : Int), .int .i64 e])) : Pure Tryz.prog 14 [.str s] (mSteps s).av := by
 intro H; refine Run.of_triF Tryz.func14 rfl rfl (ltb rfl) (MR.ops mSteps_m) ?_
 refine Tri.seq (Tri.region ?_)
 iterate 4 (refine TriL.c1 rfl (op_as (ltb rfl) rfl) ?_)
 refine TriL.nil (Tri.seq (Tri.region ?_))
 refine TriL.c1 rfl (op_mv (ltb rfl) rfl) ?_
 refine TriL.c1 rfl (op_call (ltb rfl) fn23_q rfl hA) ?_
 refine TriL.c1 rfl (op_mv (ltb rfl) rfl) ?_
 iterate 3 (refine TriL.c1 rfl (op_ext (ltb rfl) rfl rfl) ?_)
 iterate 3 (refine TriL.c1 rfl (op_as (ltb rfl) rfl) ?_)
 refine TriL.nil (Tri.seq (Tri.seq (Tri.region ?_)))
 refine TriL.c1 rfl (op_mv (ltb rfl) rfl) ?_
 refine TriL.c1 rfl (op_bin (ltb rfl) rfl rfl rfl) ?_
 refine TriL.nil ?_
 refine Tri.condT rfl (by simpa using he) ?_
 refine Tri.seq (Tri.region ?_)
 iterate 2 (refine TriL.c1 rfl (op_mv (ltb rfl) rfl) ?_)
 iterate 4 (refine TriL.c1 rfl (op_as (ltb rfl) rfl) ?_)
 refine TriL.nil (Tri.ret ?_)
 exact ⟨.inr rfl, (ResOK.r4 rfl (.tmp rfl (.tmp rfl (.tmp rfl (.tmp rfl .nil))))).cast (by rw [hm]; rfl), ⟨_, rfl, Nat.le_refl _, fun _ _ => rfl⟩⟩
theorem rsteps_ok (s : Str) (hs : s.length ≤ 6000) (h2 : (lexGo s 0).2 = none) (hA : Pure Tryz.prog 23 [.str s, .int .i64 6000] (.tup [.sl ((lexT s).map Tk.av), .int .i64 (s.length : Int), .int .i64 0])) : Pure Tryz.prog 14 [.str s] (mSteps s).av := by
 have hL := lexT_toks hs
 intro H; refine Run.of_triF Tryz.func14 rfl rfl (ltb rfl) (MR.ops mSteps_m) ?_
 refine Tri.seq (Tri.region ?_)
 iterate 4 (refine TriL.c1 rfl (op_as (ltb rfl) rfl) ?_)
 refine TriL.nil (Tri.seq (Tri.region ?_))
 refine TriL.c1 rfl (op_mv (ltb rfl) rfl) ?_
 refine TriL.c1 rfl (op_call (ltb rfl) fn23_q rfl hA) ?_
 refine TriL.c1 rfl (op_mv (ltb rfl) rfl) ?_
 iterate 3 (refine TriL.c1 rfl (op_ext (ltb rfl) rfl rfl) ?_)
 iterate 3 (refine TriL.c1 rfl (op_as (ltb rfl) rfl) ?_)
 refine TriL.nil (Tri.seq (Tri.seq (Tri.region ?_)))
 refine TriL.c1 rfl (op_mv (ltb rfl) rfl) ?_
 refine TriL.c1 rfl (op_bin (ltb rfl) rfl rfl rfl) ?_
 refine TriL.nil ?_
 refine Tri.condF rfl rfl ?_
 refine Tri.skip (Tri.seq (Tri.region ?_))
 refine TriL.c1 rfl (op_mv (ltb rfl) rfl) ?_
 refine TriL.c1 rfl (op_bld (ltb rfl) spl66_q zA66_q rfl rfl) ?_
 refine TriL.c2 rfl (op_box (ltb rfl) rfl rfl rfl) ?_
 refine TriL.c1 rfl (op_as (ltb rfl) rfl) ?_
 refine TriL.nil (Tri.seq ?_)
 refine Tri.ofKept (Kept.pub 24 rfl rfl (Kept.op 9 rfl rfl (Kept.cls 24 rfl rfl rfl rfl (Kept.now ?_))))
 refine Tri.region ?_
 refine TriL.c2 rfl (op_litt («as» := []) (ltb rfl) se23_q zAe23_q rfl rfl rfl (leb rfl) rfl) ?_
 refine TriL.c2 rfl (op_litt («as» := []) (ltb rfl) se34_q zAe34_q rfl rfl rfl (leb rfl) rfl) ?_
 iterate 2 (refine TriL.c1 rfl (op_as (ltb rfl) rfl) ?_)
 refine TriL.nil (Tri.seq (Tri.blk ?_))
 refine Tri.ofKept (Kept.keep [.h, .s 10, .t 25, .s 11, .t 26, .s 0, .s 9] rfl (by decide) (Kept.now ?_))
 -- LOOP 1
 refine Tri.loopk (fun ((q, cc, xs, ys) : Nat × Bool × List AV × List AV) => [(.h, .hp (HatB ⟨H.next + 1, H.obj⟩ H.next (lexT s) q cc)), (.s 10, .sv (.ow 25 xs)), (.t 25, .tk false 46 12 xs), (.s 11, .sv (.ow 26 ys)), (.t 26, .tk false 3 1 ys)]) _ (fun ((q, cc, xs, ys) : Nat × Bool × List AV × List AV) => SI (lexT s) q cc xs ys) (fun ((q, cc, xs, ys) : Nat × Bool × List AV × List AV) => (if cc = true then 0 else (lexT s).length - q + 1)) (0, false, [], []) rfl (si_start (lexT_pos s)) ?_
 rintro ⟨q, cc, xs, ys⟩ hI
 have hq := si_q hI
 refine Tri.seq (Tri.seq ?_)
 refine Tri.drawn mixed rfl ?_
 refine TriD.c1 rfl (op_mv (ltb rfl) rfl) ?_
 refine TriD.c1 rfl (op_nckc (ltb rfl) rfl) ?_
 refine TriD.c1 rfl (op_fac (ltb rfl) fo66_2_q rfl) ?_
 refine TriD.c1 rfl (op_ldc (ltb rfl) lk4_q rfl rfl Hp.set_obj rfl) ?_
 refine TriD.c1 rfl (op_un (ltb rfl) rfl rfl) ?_
 refine TriD.c1 rfl (op_mv (ltb rfl) rfl) ?_
 refine TriD.split (d := 32) rfl (fun hg1 => ?_) (fun hg1 => ?_)
 ·refine TriD.g1 rfl (ltb rfl) rfl hg1 (op_mv (ltb rfl) rfl) ?_
  refine TriD.g1 rfl (ltb rfl) rfl hg1 (op_nckc (ltb rfl) rfl) ?_
  refine TriD.g1 rfl (ltb rfl) rfl hg1 (op_fac (ltb rfl) fo66_0_q rfl) ?_
  refine TriD.g1 rfl (ltb rfl) rfl hg1 (op_ldc (ltb rfl) lk61_q rfl rfl Hp.set_obj rfl) ?_
  refine TriD.g1 rfl (ltb rfl) rfl hg1 (op_mv (ltb rfl) rfl) ?_
  refine TriD.g1 rfl (ltb rfl) rfl hg1 (op_nckc (ltb rfl) rfl) ?_
  refine TriD.g1 rfl (ltb rfl) rfl hg1 (op_fac (ltb rfl) fo66_1_q rfl) ?_
  refine TriD.g1 rfl (ltb rfl) rfl hg1 (op_ldc (ltb rfl) lk3_q rfl rfl Hp.set_obj rfl) ?_
  refine TriD.g1 rfl (ltb rfl) rfl hg1 (op_iak (ltb rfl) ie61_q rfl rfl (Int.natCast_nonneg _) (tkAt_ix hq) rfl) ?_
  refine TriD.g1 rfl (ltb rfl) rfl hg1 (op_fak (ltb rfl) fo68_0_q rfl) ?_
  refine TriD.g1 rfl (ltb rfl) rfl hg1 (op_ldk (ltb rfl) lk3_q rfl rfl) ?_
  refine TriD.g1 rfl (ltb rfl) rfl hg1 (op_bin (ltb rfl) rfl rfl rfl) ?_
  refine TriD.c1 rfl (op_pickt (ltb rfl) rfl hg1 rfl) ?_
  refine TriD.nil (by kernel_rfl) (Kept.now ?_)
  refine Tri.cond rfl (fun hc2 => ?_) (fun hc2 => ?_)
  ·refine Tri.skip (Tri.blk (Tri.seq ?_))
   refine Tri.drawn mixed rfl ?_
   iterate 2 (refine TriD.c1 rfl (op_mv (ltb rfl) rfl) ?_)
   refine TriD.c1 rfl (op_nckc (ltb rfl) rfl) ?_
   refine TriD.c1 rfl (op_fac (ltb rfl) fo66_0_q rfl) ?_
   refine TriD.c1 rfl (op_ldc (ltb rfl) lk61_q rfl rfl Hp.set_obj rfl) ?_
   refine TriD.c1 rfl (op_mv (ltb rfl) rfl) ?_
   refine TriD.c1 rfl (op_nckc (ltb rfl) rfl) ?_
   refine TriD.c1 rfl (op_fac (ltb rfl) fo66_1_q rfl) ?_
   refine TriD.c1 rfl (op_ldc (ltb rfl) lk3_q rfl rfl Hp.set_obj rfl) ?_
   refine TriD.c1 rfl (op_iak (ltb rfl) ie61_q rfl rfl (Int.natCast_nonneg _) (tkAt_ix hq) rfl) ?_
   refine TriD.c1 rfl (op_fak (ltb rfl) fo68_4_q rfl) ?_
   refine TriD.c1 rfl (op_ldk (ltb rfl) lk3_q rfl rfl) ?_
   refine TriD.c1 rfl (op_lit («as» := [_]) (ltb rfl) se34_q zAe34_q rfl rfl rfl (leb rfl)) ?_
   refine TriD.c3 rfl (op_app (ltb rfl) se34_q rfl rfl rfl rfl rfl (by have := si_len hL hI; simp only [List.length_cons, List.length_nil]; omega) (by have := si_len hL hI; simp only [List.length_cons, List.length_nil]; omega)) ?_
   refine TriD.c1 rfl (op_as (ltb rfl) rfl) ?_
   refine TriD.nil (by kernel_rfl) (Kept.now ?_)
   refine Tri.region ?_
   iterate 2 (refine TriL.c1 rfl (op_mv (ltb rfl) rfl) ?_)
   obtain ⟨x1, j1, b1, e1⟩ : ∃ xx_ jj_ cc_, bOne (lexT s) q cc = (xx_, jj_, cc_) := ⟨_, _, _, rfl⟩
   have hj1 : j1 < _ := bOne_lt hL hq e1
   refine TriL.c2 rfl (op_callh (ltb rfl) fn24_q rfl rfl (rone_run hL ⟨H.next + 1, H.obj⟩ H.next hq cc e1)) ?_
   refine TriL.c1 rfl (op_lit («as» := [_]) (ltb rfl) se23_q zAe23_q rfl rfl rfl (leb rfl)) ?_
   refine TriL.c3 rfl (op_app (ltb rfl) se23_q rfl rfl rfl rfl rfl (by have := si_len hL hI; simp only [List.length_cons, List.length_nil]; omega) (by have := si_len hL hI; simp only [List.length_cons, List.length_nil]; omega)) ?_
   refine TriL.c1 rfl (op_as (ltb rfl) rfl) ?_
   refine TriL.kept (Kept.keep [.h, .s 10, .t 64, .s 11, .t 59, .s 0, .s 9] rfl (by decide) (Kept.ren 64 25 (by decide) rfl (Kept.ren 59 26 (by decide) rfl (Kept.now ?_))))
   exact ⟨(_, _, _, _), si_m (by simp_all) hq e1, si_next hL hI (by simp_all) (by simp_all) e1, rfl⟩
  ·refine Tri.exit (Tri.seq (Tri.seq (Tri.region ?_)))
   refine TriL.c1 rfl (op_mv (ltb rfl) rfl) ?_
   refine TriL.c1 rfl (op_nckc (ltb rfl) rfl) ?_
   refine TriL.c1 rfl (op_fac (ltb rfl) fo66_2_q rfl) ?_
   refine TriL.c1 rfl (op_ldc (ltb rfl) lk4_q rfl rfl Hp.set_obj rfl) ?_
   refine TriL.nil ?_
   refine Tri.cond rfl (fun hc3 => ?_) (fun hc3 => ?_)
   ·refine Tri.seq ?_
    refine Tri.drawn mixed rfl ?_
    refine TriD.c1 rfl (op_mv (ltb rfl) rfl) ?_
    refine TriD.c1 rfl (op_nckc (ltb rfl) rfl) ?_
    refine TriD.c1 rfl (op_fac (ltb rfl) fo66_0_q rfl) ?_
    refine TriD.c1 rfl (op_ldc (ltb rfl) lk61_q rfl rfl Hp.set_obj rfl) ?_
    refine TriD.c1 rfl (op_mv (ltb rfl) rfl) ?_
    refine TriD.c1 rfl (op_nckc (ltb rfl) rfl) ?_
    refine TriD.c1 rfl (op_fac (ltb rfl) fo66_1_q rfl) ?_
    refine TriD.c1 rfl (op_ldc (ltb rfl) lk3_q rfl rfl Hp.set_obj rfl) ?_
    refine TriD.c1 rfl (op_iak (ltb rfl) ie61_q rfl rfl (Int.natCast_nonneg _) (tkAt_ix hq) rfl) ?_
    refine TriD.c1 rfl (op_fak (ltb rfl) fo68_4_q rfl) ?_
    refine TriD.c1 rfl (op_ldk (ltb rfl) lk3_q rfl rfl) ?_
    iterate 4 (refine TriD.c1 rfl (op_as (ltb rfl) rfl) ?_)
    refine TriD.nil (by kernel_rfl) (Kept.now ?_)
    refine Tri.ret ?_
    exact ⟨.inr rfl, (ResOK.r4 rfl (.tmp rfl (.tmp rfl (.tmp rfl (.tmp rfl .nil))))).cast (si_bad hs h2 hI (by simp_all)).symm, ⟨_, rfl, Nat.le_succ _, fun k hk => HatB_top hk⟩⟩
   ·refine Tri.skip (Tri.seq (Tri.region ?_))
    iterate 3 (refine TriL.c1 rfl (op_mv (ltb rfl) rfl) ?_)
    refine TriL.c1 rfl (op_lens (ltb rfl) un9_q rfl) ?_
    iterate 4 (refine TriL.c1 rfl (op_as (ltb rfl) rfl) ?_)
    refine TriL.nil (Tri.ret ?_)
    exact ⟨.inr rfl, (ResOK.r4 rfl (.tmp rfl (.tmp rfl (.tmp rfl (.tmp rfl .nil))))).cast (si_ok hs h2 hI (by simp_all) (by simp_all)).symm, ⟨_, rfl, Nat.le_succ _, fun k hk => HatB_top hk⟩⟩
 ·iterate 12 (refine TriD.skipu rfl rfl (ltb rfl) (ltb rfl) rfl hg1 ?_)
  refine TriD.c1 rfl (op_pickf (ltb rfl) rfl hg1 rfl) ?_
  refine TriD.nil (by kernel_rfl) (Kept.now ?_)
  refine Tri.condF rfl rfl ?_
  refine Tri.exit (Tri.seq (Tri.seq (Tri.region ?_)))
  refine TriL.c1 rfl (op_mv (ltb rfl) rfl) ?_
  refine TriL.c1 rfl (op_nckc (ltb rfl) rfl) ?_
  refine TriL.c1 rfl (op_fac (ltb rfl) fo66_2_q rfl) ?_
  refine TriL.c1 rfl (op_ldc (ltb rfl) lk4_q rfl rfl Hp.set_obj rfl) ?_
  refine TriL.nil ?_
  refine Tri.cond rfl (fun hc4 => ?_) (fun hc4 => ?_)
  ·refine Tri.seq ?_
   refine Tri.drawn mixed rfl ?_
   refine TriD.c1 rfl (op_mv (ltb rfl) rfl) ?_
   refine TriD.c1 rfl (op_nckc (ltb rfl) rfl) ?_
   refine TriD.c1 rfl (op_fac (ltb rfl) fo66_0_q rfl) ?_
   refine TriD.c1 rfl (op_ldc (ltb rfl) lk61_q rfl rfl Hp.set_obj rfl) ?_
   refine TriD.c1 rfl (op_mv (ltb rfl) rfl) ?_
   refine TriD.c1 rfl (op_nckc (ltb rfl) rfl) ?_
   refine TriD.c1 rfl (op_fac (ltb rfl) fo66_1_q rfl) ?_
   refine TriD.c1 rfl (op_ldc (ltb rfl) lk3_q rfl rfl Hp.set_obj rfl) ?_
   refine TriD.c1 rfl (op_iak (ltb rfl) ie61_q rfl rfl (Int.natCast_nonneg _) (tkAt_ix hq) rfl) ?_
   refine TriD.c1 rfl (op_fak (ltb rfl) fo68_4_q rfl) ?_
   refine TriD.c1 rfl (op_ldk (ltb rfl) lk3_q rfl rfl) ?_
   iterate 4 (refine TriD.c1 rfl (op_as (ltb rfl) rfl) ?_)
   refine TriD.nil (by kernel_rfl) (Kept.now ?_)
   refine Tri.ret ?_
   exact ⟨.inr rfl, (ResOK.r4 rfl (.tmp rfl (.tmp rfl (.tmp rfl (.tmp rfl .nil))))).cast (si_bad hs h2 hI (by simp_all)).symm, ⟨_, rfl, Nat.le_succ _, fun k hk => HatB_top hk⟩⟩
  ·refine Tri.skip (Tri.seq (Tri.region ?_))
   iterate 3 (refine TriL.c1 rfl (op_mv (ltb rfl) rfl) ?_)
   refine TriL.c1 rfl (op_lens (ltb rfl) un9_q rfl) ?_
   iterate 4 (refine TriL.c1 rfl (op_as (ltb rfl) rfl) ?_)
   refine TriL.nil (Tri.ret ?_)
   exact ⟨.inr rfl, (ResOK.r4 rfl (.tmp rfl (.tmp rfl (.tmp rfl (.tmp rfl .nil))))).cast (si_ok hs h2 hI (by simp_all) (by simp_all)).symm, ⟨_, rfl, Nat.le_succ _, fun k hk => HatB_top hk⟩⟩
theorem rsteps_pure (s : Str) (hs : s.length ≤ 1073741824) : Pure Tryz.prog 14 [.str s] (mSteps s).av := by
 have hA := rall_pure s 6000 hs
 by_cases h : 6000 < s.length
 ·rw [allV_long (by omega)] at hA
  exact rsteps_bad s 0 3 (by decide) (if_pos h) hA
 ·cases e : lexGo s 0 with
  | mk ts o =>
   cases o with
   | some p =>
    rw [allV_bad (by omega) e] at hA
    exact rsteps_bad s p 2 (by decide) (by unfold mSteps; rw [if_neg h, e]) hA
   | none =>
    rw [allV_ok (by omega) e] at hA
    have e2 : (lexGo s 0).2 = none := by rw [e]
    have e3 : lexT s = ts ++ [(⟨0, [], 0, false, s.length⟩ : Tk)] := by unfold lexT; rw [e]; rfl
    rw [← e3] at hA
    exact rsteps_ok s (by omega) e2 hA
/- the statements of the migrations' texts: what they ask. -/
theorem fn10_q : isFn Tryz.prog 10 = true := by kernel_rfl
theorem fn13_q : isFn Tryz.prog 13 = true := by kernel_rfl
theorem fn14_q : isFn Tryz.prog 14 = true := by kernel_rfl
theorem fn15_q : isFn Tryz.prog 15 = true := by kernel_rfl
theorem fn19_q : isFn Tryz.prog 19 = true := by kernel_rfl
theorem fn20_q : isFn Tryz.prog 20 = true := by kernel_rfl
theorem fn6_q : isFn Tryz.prog 6 = true := by kernel_rfl
theorem fn7_q : isFn Tryz.prog 7 = true := by kernel_rfl
theorem fn9_q : isFn Tryz.prog 9 = true := by kernel_rfl
theorem se52_q : se Tryz.prog 52 = some (44, 3, 48) := by kernel_rfl
theorem un34_q : Tryz.prog.underlying 34 = some (TypeDesc.slice 3) := Tryz.underlying34
theorem un4_q : Tryz.prog.underlying 4 = some TypeDesc.bool := Tryz.underlying4
theorem zAe52_q : zeroA Tryz.prog 44 = some [AV.int IntKind.u64 (0), AV.str [], AV.sl []] := by kernel_rfl
theorem names_self (a : List Str) (ha : a.length ≤ 9223372036854775807) : Pure Tryz.prog 19 [.sl (a.map .str), .sl (a.map .str)] (.bool true) := by
 refine Pure.of_tri Tryz.func19 rfl rfl (ltb rfl) fun H => ?_
 refine Tri.seq (Tri.region ?_)
 refine TriL.c1 rfl (op_as (ltb rfl) rfl) ?_
 refine TriL.nil (Tri.seq (Tri.seq (Tri.region ?_)))
 refine TriL.c1 rfl (op_mv (ltb rfl) rfl) ?_
 refine TriL.c1 rfl (op_lenl (ltb rfl) un40_q rfl) ?_
 refine TriL.c1 rfl (op_mv (ltb rfl) rfl) ?_
 refine TriL.c1 rfl (op_lenl (ltb rfl) un40_q rfl) ?_
 refine TriL.c1 rfl (op_bin (ltb rfl) rfl rfl rfl) ?_
 refine TriL.nil ?_
 refine Tri.condF rfl (by simp) ?_
 refine Tri.skip (Tri.seq (Tri.seq (Tri.region ?_)))
 refine TriL.c1 rfl (op_as (ltb rfl) rfl) ?_
 refine TriL.nil (Tri.blk ?_)
 refine Tri.ofKept (Kept.keep [.s 5, .h, .s 0, .s 1] rfl (by decide) (Kept.now ?_))
 -- LOOP 1
 refine Tri.loopk (fun (i : Nat) => [(.s 5, .sv (.v (.int .i64 (i : Int))))]) _ (fun (i : Nat) => True) (fun (i : Nat) => a.length - i) 0 rfl trivial ?_
 rintro i hI
 refine Tri.seq (Tri.seq (Tri.region ?_))
 iterate 2 (refine TriL.c1 rfl (op_mv (ltb rfl) rfl) ?_)
 refine TriL.c1 rfl (op_lenl (ltb rfl) un40_q rfl) ?_
 refine TriL.c1 rfl (op_bin (ltb rfl) rfl rfl rfl) ?_
 refine TriL.nil ?_
 refine Tri.cond rfl (fun hc1 => ?_) (fun hc1 => ?_)
 ·have hi := ltm hc1
  refine Tri.skip (Tri.seq (Tri.blk (Tri.seq ?_)))
  refine Tri.drawn mixed rfl ?_
  iterate 2 (refine TriD.c1 rfl (op_mv (ltb rfl) rfl) ?_)
  refine TriD.c1 rfl (op_iak (ltb rfl) ie40_q rfl rfl (Int.natCast_nonneg _) (ixm hi) rfl) ?_
  refine TriD.c1 rfl (op_ldk (ltb rfl) lk9_q rfl rfl) ?_
  iterate 2 (refine TriD.c1 rfl (op_mv (ltb rfl) rfl) ?_)
  refine TriD.c1 rfl (op_iak (ltb rfl) ie40_q rfl rfl (Int.natCast_nonneg _) (ixm hi) rfl) ?_
  refine TriD.c1 rfl (op_ldk (ltb rfl) lk9_q rfl rfl) ?_
  refine TriD.c1 rfl (op_bin (ltb rfl) rfl rfl rfl) ?_
  refine TriD.nil (by kernel_rfl) (Kept.now ?_)
  refine Tri.condF rfl (by simp) ?_
  refine Tri.skip (Tri.region ?_)
  refine TriL.c1 rfl (op_mv (ltb rfl) rfl) ?_
  refine TriL.c1 rfl (op_bin (ltb rfl) rfl rfl rfl) ?_
  refine TriL.c1 rfl (op_as (ltb rfl) rfl) ?_
  refine TriL.kept (Kept.seti 5 rfl (inc (by omega)) (Kept.keep [.s 5, .h, .s 0, .s 1] rfl (by decide) (Kept.now ?_)))
  exact ⟨i + 1, by omega, trivial, rfl⟩
 ·have hi := gem hc1
  refine Tri.exit (Tri.seq (Tri.region ?_))
  refine TriL.c1 rfl (op_as (ltb rfl) rfl) ?_
  refine TriL.nil (Tri.ret ?_)
  exact ⟨.inr rfl, (ResOK.r1 rfl (.tmp rfl .nil)).cast rfl, rfl⟩
theorem ints_self (a : List (Stp × Nat)) (ha : a.length ≤ 9223372036854775807) : Pure Tryz.prog 15 [fromV a, fromV a] (.bool true) := by
 refine Pure.of_tri Tryz.func15 rfl rfl (ltb rfl) fun H => ?_
 refine Tri.seq (Tri.region ?_)
 refine TriL.c1 rfl (op_as (ltb rfl) rfl) ?_
 refine TriL.nil (Tri.seq (Tri.seq (Tri.region ?_)))
 refine TriL.c1 rfl (op_mv (ltb rfl) rfl) ?_
 refine TriL.c1 rfl (op_lenl (ltb rfl) un34_q rfl) ?_
 refine TriL.c1 rfl (op_mv (ltb rfl) rfl) ?_
 refine TriL.c1 rfl (op_lenl (ltb rfl) un34_q rfl) ?_
 refine TriL.c1 rfl (op_bin (ltb rfl) rfl rfl rfl) ?_
 refine TriL.nil ?_
 refine Tri.condF rfl (by simp) ?_
 refine Tri.skip (Tri.seq (Tri.seq (Tri.region ?_)))
 refine TriL.c1 rfl (op_as (ltb rfl) rfl) ?_
 refine TriL.nil (Tri.blk ?_)
 refine Tri.ofKept (Kept.keep [.s 5, .h, .s 0, .s 1] rfl (by decide) (Kept.now ?_))
 -- LOOP 1
 refine Tri.loopk (fun (i : Nat) => [(.s 5, .sv (.v (.int .i64 (i : Int))))]) _ (fun (i : Nat) => True) (fun (i : Nat) => a.length - i) 0 rfl trivial ?_
 rintro i hI
 refine Tri.seq (Tri.seq (Tri.region ?_))
 iterate 2 (refine TriL.c1 rfl (op_mv (ltb rfl) rfl) ?_)
 refine TriL.c1 rfl (op_lenl (ltb rfl) un34_q rfl) ?_
 refine TriL.c1 rfl (op_bin (ltb rfl) rfl rfl rfl) ?_
 refine TriL.nil ?_
 refine Tri.cond rfl (fun hc1 => ?_) (fun hc1 => ?_)
 ·have hi := ltm hc1
  refine Tri.skip (Tri.seq (Tri.blk (Tri.seq ?_)))
  refine Tri.drawn mixed rfl ?_
  iterate 2 (refine TriD.c1 rfl (op_mv (ltb rfl) rfl) ?_)
  refine TriD.c1 rfl (op_iak (ltb rfl) ie34_q rfl rfl (Int.natCast_nonneg _) (ixm hi) rfl) ?_
  refine TriD.c1 rfl (op_ldk (ltb rfl) lk3_q rfl rfl) ?_
  iterate 2 (refine TriD.c1 rfl (op_mv (ltb rfl) rfl) ?_)
  refine TriD.c1 rfl (op_iak (ltb rfl) ie34_q rfl rfl (Int.natCast_nonneg _) (ixm hi) rfl) ?_
  refine TriD.c1 rfl (op_ldk (ltb rfl) lk3_q rfl rfl) ?_
  refine TriD.c1 rfl (op_bin (ltb rfl) rfl rfl rfl) ?_
  refine TriD.nil (by kernel_rfl) (Kept.now ?_)
  refine Tri.condF rfl (by simp) ?_
  refine Tri.skip (Tri.region ?_)
  refine TriL.c1 rfl (op_mv (ltb rfl) rfl) ?_
  refine TriL.c1 rfl (op_bin (ltb rfl) rfl rfl rfl) ?_
  refine TriL.c1 rfl (op_as (ltb rfl) rfl) ?_
  refine TriL.kept (Kept.seti 5 rfl (inc (by omega)) (Kept.keep [.s 5, .h, .s 0, .s 1] rfl (by decide) (Kept.now ?_)))
  exact ⟨i + 1, by omega, trivial, rfl⟩
 ·have hi := gem hc1
  refine Tri.exit (Tri.seq (Tri.region ?_))
  refine TriL.c1 rfl (op_as (ltb rfl) rfl) ?_
  refine TriL.nil (Tri.ret ?_)
  exact ⟨.inr rfl, (ResOK.r1 rfl (.tmp rfl .nil)).cast rfl, rfl⟩
theorem samevals_self (v : Val) (h : v.m = []) : Pure Tryz.prog 20 [.sl [.agg [.int .u64 (v.n : Int), .str v.s, .sl (v.m.map Tree.av)]], .sl [.agg [.int .u64 (v.n : Int), .str v.s, .sl (v.m.map Tree.av)]]] (.bool true) := by
 have := r_samevals1 [v] [v] (by simp) (fun u hu => by simp at hu; subst hu; rw [h]; simp) (fun u hu t ht => by simp at hu; subst hu; rw [h] at ht; cases ht)
 rw [show eqb [v] [v] = true from eqb_true.2 rfl] at this
 simp only [List.map_cons, List.map_nil, Val.av_eq] at this
 exact this
theorem same_self (a : List Stp) (ha : a.length ≤ 9223372036854775807) (hn : ∀ x ∈ a, x.names.length ≤ 9223372036854775807) (hm : ∀ x ∈ a, x.dv.m = []) : Pure Tryz.prog 9 [.sl (a.map Stp.av), .sl (a.map Stp.av)] (.bool true) := by
 refine Pure.of_tri Tryz.func9 rfl rfl (ltb rfl) fun H => ?_
 refine Tri.seq (Tri.region ?_)
 refine TriL.c1 rfl (op_as (ltb rfl) rfl) ?_
 refine TriL.nil (Tri.seq (Tri.seq (Tri.region ?_)))
 refine TriL.c1 rfl (op_mv (ltb rfl) rfl) ?_
 refine TriL.c1 rfl (op_lenl (ltb rfl) un23_q rfl) ?_
 refine TriL.c1 rfl (op_mv (ltb rfl) rfl) ?_
 refine TriL.c1 rfl (op_lenl (ltb rfl) un23_q rfl) ?_
 refine TriL.c1 rfl (op_bin (ltb rfl) rfl rfl rfl) ?_
 refine TriL.nil ?_
 refine Tri.condF rfl (by simp) ?_
 refine Tri.skip (Tri.seq (Tri.seq (Tri.region ?_)))
 refine TriL.c1 rfl (op_as (ltb rfl) rfl) ?_
 refine TriL.nil (Tri.blk ?_)
 refine Tri.ofKept (Kept.keep [.s 5, .h, .s 0, .s 1] rfl (by decide) (Kept.now ?_))
 -- LOOP 1
 refine Tri.loopk (fun (i : Nat) => [(.s 5, .sv (.v (.int .i64 (i : Int))))]) _ (fun (i : Nat) => True) (fun (i : Nat) => a.length - i) 0 rfl trivial ?_
 rintro i hI
 refine Tri.seq (Tri.seq (Tri.region ?_))
 iterate 2 (refine TriL.c1 rfl (op_mv (ltb rfl) rfl) ?_)
 refine TriL.c1 rfl (op_lenl (ltb rfl) un23_q rfl) ?_
 refine TriL.c1 rfl (op_bin (ltb rfl) rfl rfl rfl) ?_
 refine TriL.nil ?_
 refine Tri.cond rfl (fun hc1 => ?_) (fun hc1 => ?_)
 ·have hi := ltm hc1
  refine Tri.skip (Tri.seq (Tri.blk (Tri.seq ?_)))
  refine Tri.drawn mixed rfl ?_
  iterate 2 (refine TriD.c1 rfl (op_mv (ltb rfl) rfl) ?_)
  refine TriD.c1 rfl (op_iak (ltb rfl) ie23_q rfl rfl (Int.natCast_nonneg _) (ixmE (fun _ => rfl) hi) rfl) ?_
  refine TriD.c1 rfl (op_ldk (ltb rfl) lk46_q rfl rfl) ?_
  iterate 2 (refine TriD.c1 rfl (op_mv (ltb rfl) rfl) ?_)
  refine TriD.c1 rfl (op_iak (ltb rfl) ie23_q rfl rfl (Int.natCast_nonneg _) (ixmE (fun _ => rfl) hi) rfl) ?_
  refine TriD.c1 rfl (op_ldk (ltb rfl) lk46_q rfl rfl) ?_
  iterate 2 (refine TriD.c2 rfl (op_all (ltb rfl) zA46_q rfl) ?_)
  iterate 2 (refine TriD.c1 rfl (op_stl lk46_q rfl rfl rfl rfl rfl (leb rfl)) ?_)
  refine TriD.nil (by kernel_rfl) (Kept.now ?_)
  refine Tri.seq (Tri.seq (Tri.region ?_))
  refine TriL.c1 rfl (op_fal (ltb rfl) fo46_0_q rfl) ?_
  refine TriL.c1 rfl (op_ldl (ltb rfl) lk3_q rfl rfl rfl) ?_
  refine TriL.c1 rfl (op_fal (ltb rfl) fo46_0_q rfl) ?_
  refine TriL.c1 rfl (op_ldl (ltb rfl) lk3_q rfl rfl rfl) ?_
  refine TriL.c1 rfl (op_bin (ltb rfl) rfl rfl rfl) ?_
  refine TriL.c1 rfl (op_mv (ltb rfl) rfl) ?_
  refine TriL.g1 rfl (ltb rfl) rfl (by simp) (op_fal (ltb rfl) fo46_1_q rfl) ?_
  refine TriL.g1 rfl (ltb rfl) rfl (by simp) (op_ldl (ltb rfl) lk9_q rfl rfl rfl) ?_
  refine TriL.g1 rfl (ltb rfl) rfl (by simp) (op_fal (ltb rfl) fo46_1_q rfl) ?_
  refine TriL.g1 rfl (ltb rfl) rfl (by simp) (op_ldl (ltb rfl) lk9_q rfl rfl rfl) ?_
  refine TriL.g1 rfl (ltb rfl) rfl (by simp) (op_bin (ltb rfl) rfl rfl rfl) ?_
  refine TriL.c1 rfl (op_pickf (ltb rfl) rfl (by simp) rfl) ?_
  refine TriL.c1 rfl (op_mv (ltb rfl) rfl) ?_
  refine TriL.g1 rfl (ltb rfl) rfl (by simp) (op_fal (ltb rfl) fo46_2_q rfl) ?_
  refine TriL.g1 rfl (ltb rfl) rfl (by simp) (op_ldl (ltb rfl) lk9_q rfl rfl rfl) ?_
  refine TriL.g1 rfl (ltb rfl) rfl (by simp) (op_fal (ltb rfl) fo46_2_q rfl) ?_
  refine TriL.g1 rfl (ltb rfl) rfl (by simp) (op_ldl (ltb rfl) lk9_q rfl rfl rfl) ?_
  refine TriL.g1 rfl (ltb rfl) rfl (by simp) (op_bin (ltb rfl) rfl rfl rfl) ?_
  refine TriL.c1 rfl (op_pickf (ltb rfl) rfl (by simp) rfl) ?_
  refine TriL.c1 rfl (op_mv (ltb rfl) rfl) ?_
  refine TriL.g1 rfl (ltb rfl) rfl (by simp) (op_fal (ltb rfl) fo46_3_q rfl) ?_
  refine TriL.g1 rfl (ltb rfl) rfl (by simp) (op_ldl (ltb rfl) lk9_q rfl rfl rfl) ?_
  refine TriL.g1 rfl (ltb rfl) rfl (by simp) (op_fal (ltb rfl) fo46_3_q rfl) ?_
  refine TriL.g1 rfl (ltb rfl) rfl (by simp) (op_ldl (ltb rfl) lk9_q rfl rfl rfl) ?_
  refine TriL.g1 rfl (ltb rfl) rfl (by simp) (op_bin (ltb rfl) rfl rfl rfl) ?_
  refine TriL.c1 rfl (op_pickf (ltb rfl) rfl (by simp) rfl) ?_
  refine TriL.c1 rfl (op_mv (ltb rfl) rfl) ?_
  refine TriL.g1 rfl (ltb rfl) rfl (by simp) (op_fal (ltb rfl) fo46_4_q rfl) ?_
  refine TriL.g1 rfl (ltb rfl) rfl (by simp) (op_ldl (ltb rfl) lk9_q rfl rfl rfl) ?_
  refine TriL.g1 rfl (ltb rfl) rfl (by simp) (op_fal (ltb rfl) fo46_4_q rfl) ?_
  refine TriL.g1 rfl (ltb rfl) rfl (by simp) (op_ldl (ltb rfl) lk9_q rfl rfl rfl) ?_
  refine TriL.g1 rfl (ltb rfl) rfl (by simp) (op_bin (ltb rfl) rfl rfl rfl) ?_
  refine TriL.c1 rfl (op_pickf (ltb rfl) rfl (by simp) rfl) ?_
  refine TriL.c1 rfl (op_mv (ltb rfl) rfl) ?_
  refine TriL.g1 rfl (ltb rfl) rfl (by simp) (op_fal (ltb rfl) fo46_5_q rfl) ?_
  refine TriL.g1 rfl (ltb rfl) rfl (by simp) (op_ldl (ltb rfl) lk3_q rfl rfl rfl) ?_
  refine TriL.g1 rfl (ltb rfl) rfl (by simp) (op_fal (ltb rfl) fo46_5_q rfl) ?_
  refine TriL.g1 rfl (ltb rfl) rfl (by simp) (op_ldl (ltb rfl) lk3_q rfl rfl rfl) ?_
  refine TriL.g1 rfl (ltb rfl) rfl (by simp) (op_bin (ltb rfl) rfl rfl rfl) ?_
  refine TriL.c1 rfl (op_pickf (ltb rfl) rfl (by simp) rfl) ?_
  refine TriL.c1 rfl (op_mv (ltb rfl) rfl) ?_
  refine TriL.g1 rfl (ltb rfl) rfl (by simp) (op_fal (ltb rfl) fo46_6_q rfl) ?_
  refine TriL.g1 rfl (ltb rfl) rfl (by simp) (op_ldl (ltb rfl) lk3_q rfl rfl rfl) ?_
  refine TriL.g1 rfl (ltb rfl) rfl (by simp) (op_fal (ltb rfl) fo46_6_q rfl) ?_
  refine TriL.g1 rfl (ltb rfl) rfl (by simp) (op_ldl (ltb rfl) lk3_q rfl rfl rfl) ?_
  refine TriL.g1 rfl (ltb rfl) rfl (by simp) (op_bin (ltb rfl) rfl rfl rfl) ?_
  refine TriL.c1 rfl (op_pickf (ltb rfl) rfl (by simp) rfl) ?_
  refine TriL.c1 rfl (op_mv (ltb rfl) rfl) ?_
  refine TriL.g1 rfl (ltb rfl) rfl (by simp) (op_fal (ltb rfl) fo46_7_q rfl) ?_
  refine TriL.g1 rfl (ltb rfl) rfl (by simp) (op_ldl (ltb rfl) lk3_q rfl rfl rfl) ?_
  refine TriL.g1 rfl (ltb rfl) rfl (by simp) (op_fal (ltb rfl) fo46_7_q rfl) ?_
  refine TriL.g1 rfl (ltb rfl) rfl (by simp) (op_ldl (ltb rfl) lk3_q rfl rfl rfl) ?_
  refine TriL.g1 rfl (ltb rfl) rfl (by simp) (op_bin (ltb rfl) rfl rfl rfl) ?_
  refine TriL.c1 rfl (op_pickf (ltb rfl) rfl (by simp) rfl) ?_
  refine TriL.nil ?_
  refine Tri.condF rfl (by simp) ?_
  refine Tri.skip (Tri.seq (Tri.region ?_))
  refine TriL.c1 rfl (op_fal (ltb rfl) fo46_8_q rfl) ?_
  refine TriL.c1 rfl (op_ldl (ltb rfl) lk40_q rfl rfl rfl) ?_
  refine TriL.c1 rfl (op_fal (ltb rfl) fo46_8_q rfl) ?_
  refine TriL.c1 rfl (op_ldl (ltb rfl) lk40_q rfl rfl rfl) ?_
  refine TriL.c1 rfl (op_call (ltb rfl) fn19_q rfl (names_self _ (hn _ (List.getElem_mem hi)))) ?_
  refine TriL.c1 rfl (op_un (ltb rfl) rfl rfl) ?_
  refine TriL.c1 rfl (op_mv (ltb rfl) rfl) ?_
  refine TriL.g1 rfl (ltb rfl) rfl (congrArg not rfl) (op_fal (ltb rfl) fo46_9_q rfl) ?_
  refine TriL.g1 rfl (ltb rfl) rfl (congrArg not rfl) (op_ldl (ltb rfl) lk44_q rfl rfl rfl) ?_
  refine TriL.g1 rfl (ltb rfl) rfl (congrArg not rfl) (op_lit («as» := [_]) (ltb rfl) se52_q zAe52_q rfl rfl rfl (leb rfl)) ?_
  refine TriL.g1 rfl (ltb rfl) rfl (congrArg not rfl) (op_fal (ltb rfl) fo46_9_q rfl) ?_
  refine TriL.g1 rfl (ltb rfl) rfl (congrArg not rfl) (op_ldl (ltb rfl) lk44_q rfl rfl rfl) ?_
  refine TriL.g1 rfl (ltb rfl) rfl (congrArg not rfl) (op_lit («as» := [_]) (ltb rfl) se52_q zAe52_q rfl rfl rfl (leb rfl)) ?_
  refine TriL.g1 rfl (ltb rfl) rfl (congrArg not rfl) (op_call (ltb rfl) fn20_q rfl (samevals_self _ (hm _ (List.getElem_mem hi)))) ?_
  refine TriL.g1 rfl (ltb rfl) rfl (congrArg not rfl) (op_un (ltb rfl) rfl rfl) ?_
  refine TriL.c1 rfl (op_pickf (ltb rfl) rfl (congrArg not rfl) rfl) ?_
  refine TriL.nil ?_
  refine Tri.condF rfl (congrArg not rfl) ?_
  refine Tri.skip (Tri.region ?_)
  refine TriL.c1 rfl (op_mv (ltb rfl) rfl) ?_
  refine TriL.c1 rfl (op_bin (ltb rfl) rfl rfl rfl) ?_
  refine TriL.c1 rfl (op_as (ltb rfl) rfl) ?_
  refine TriL.kept (Kept.seti 5 rfl (inc (by omega)) (Kept.keep [.s 5, .h, .s 0, .s 1] rfl (by decide) (Kept.now ?_)))
  exact ⟨i + 1, by omega, trivial, rfl⟩
 ·have hi := gem hc1
  refine Tri.exit (Tri.seq (Tri.region ?_))
  refine TriL.c1 rfl (op_as (ltb rfl) rfl) ?_
  refine TriL.nil (Tri.ret ?_)
  exact ⟨.inr rfl, (ResOK.r1 rfl (.tmp rfl .nil)).cast rfl, rfl⟩
theorem num_pure (n : Int) : Pure Tryz.prog 10 [.int .i64 n] (.int .i64 n) := by
 refine Pure.of_tri Tryz.func10 rfl rfl (ltb rfl) fun H => ?_
 refine Tri.seq (Tri.region ?_)
 refine TriL.c1 rfl (op_as (ltb rfl) rfl) ?_
 refine TriL.nil (Tri.seq (Tri.region ?_))
 refine TriL.c1 rfl (op_mv (ltb rfl) rfl) ?_
 refine TriL.c1 rfl (op_as (ltb rfl) rfl) ?_
 refine TriL.nil (Tri.ret ?_)
 exact ⟨.inr rfl, (ResOK.r1 rfl (.tmp rfl .nil)).cast rfl, rfl⟩
/-- the tokens, with as many steps as needed -/
def lexF : Nat → List UInt8 → Nat → List Tk × Option Nat
 | 0, _, _ => ([], none)
 | n + 1, r, p => match r with
  | [] => ([], none)
  | c :: r' =>
   if isBl c then lexF n r' (p + 1)
   else if isRem (c :: r') then lexF n ((c :: r').drop (spn noNl (c :: r') - 1 + 1)) (p + spn noNl (c :: r'))
   else
    if (nxtT (c :: r')).2 = 0 then ([], some p)
    else (⟨(nxtT (c :: r')).1.k, (nxtT (c :: r')).1.s, (nxtT (c :: r')).1.n, (nxtT (c :: r')).1.neg, p⟩ :: (lexF n ((c :: r').drop ((nxtT (c :: r')).2 - 1 + 1)) (p + (nxtT (c :: r')).2)).1, (lexF n ((c :: r').drop ((nxtT (c :: r')).2 - 1 + 1)) (p + (nxtT (c :: r')).2)).2)
theorem lexF_eq : ∀ (n : Nat) (r : List UInt8) (p : Nat), r.length < n → lexGo r p = lexF n r p
 | 0, r, p, h => by omega
 | n + 1, [], p, h => by rw [lexGo_nil]; rfl
 | n + 1, c :: r, p, h => by
  rw [lexGo, lexF]
  have e1 := lexF_eq n r (p + 1) (by simp at h; omega)
  have e2 := lexF_eq n ((c :: r).drop (spn noNl (c :: r) - 1 + 1)) (p + spn noNl (c :: r)) (by rw [List.length_drop]; simp at h ⊢; omega)
  have e3 := lexF_eq n ((c :: r).drop ((nxtT (c :: r)).2 - 1 + 1)) (p + (nxtT (c :: r)).2) (by rw [List.length_drop]; simp at h ⊢; omega)
  rw [e1, e2, e3]
def stpL : Stp := ⟨10, [77], [97], [], [], 0, 0, 0, [], .mk 0 [] []⟩
theorem live_lex1 : lexGo [100, 114, 111, 112, 32, 77, 46, 97, 59] 0 = lexF 10 [100, 114, 111, 112, 32, 77, 46, 97, 59] 0 := lexF_eq _ _ _ (by decide)
theorem live_lex2 : lexGo [100, 114, 111, 112, 32, 77, 32, 97, 59] 0 = lexF 10 [100, 114, 111, 112, 32, 77, 32, 97, 59] 0 := lexF_eq _ _ _ (by decide)
theorem live_m1 : mSteps [100, 114, 111, 112, 32, 77, 46, 97, 59] = ⟨[(stpL, 0)], 9, 0⟩ := by
 rw [mSteps_eq (by decide) (by rw [live_lex1]; rfl)]
 unfold lexT mOf
 rw [live_lex1]
 rfl
theorem live_m2 : mSteps [100, 114, 111, 112, 32, 77, 32, 97, 59] = ⟨[], 7, 2⟩ := by
 rw [mSteps_eq (by decide) (by rw [live_lex2]; rfl)]
 unfold mOf lexT
 rw [live_lex2]
 rfl
theorem live1 : Pure Tryz.prog 7 [.str [100, 114, 111, 112, 32, 77, 46, 97, 59]] (.tup [.sl [stpL.av], .int .i64 9, .int .i64 0]) := by
 have := parse_pure [100, 114, 111, 112, 32, 77, 46, 97, 59] (by decide)
 unfold parseV mParse at this
 rw [live_m1] at this
 exact this
theorem live2 : Pure Tryz.prog 7 [.str [100, 114, 111, 112, 32, 77, 32, 97, 59]] (.tup [.sl [], .int .i64 7, .int .i64 2]) := by
 have := parse_pure [100, 114, 111, 112, 32, 77, 32, 97, 59] (by decide)
 unfold parseV mParse at this
 rw [live_m2] at this
 exact this
theorem live_pure : Pure Tryz.prog 6 [] (.bool true) := by
 refine Pure.of_tri Tryz.func6 rfl rfl (Nat.zero_le _) fun H => ?_
 refine Tri.seq (Tri.region ?_)
 refine TriL.c1 rfl (op_as (ltb rfl) rfl) ?_
 refine TriL.nil (Tri.seq (Tri.region ?_))
 refine TriL.c1 rfl (op_call (ltb rfl) fn7_q rfl live1) ?_
 refine TriL.c1 rfl (op_mv (ltb rfl) rfl) ?_
 iterate 3 (refine TriL.c1 rfl (op_ext (ltb rfl) rfl rfl) ?_)
 iterate 3 (refine TriL.c1 rfl (op_as (ltb rfl) rfl) ?_)
 refine TriL.nil (Tri.seq (Tri.region ?_))
 refine TriL.c1 rfl (op_call (ltb rfl) fn7_q rfl live2) ?_
 refine TriL.c1 rfl (op_mv (ltb rfl) rfl) ?_
 iterate 3 (refine TriL.c1 rfl (op_ext (ltb rfl) rfl rfl) ?_)
 iterate 3 (refine TriL.c1 rfl (op_as (ltb rfl) rfl) ?_)
 refine TriL.nil (Tri.seq (Tri.region ?_))
 refine TriL.c1 rfl (op_mv (ltb rfl) rfl) ?_
 refine TriL.c1 rfl (op_call (ltb rfl) fn10_q rfl (num_pure _)) ?_
 refine TriL.c1 rfl (op_bin (ltb rfl) rfl rfl rfl) ?_
 refine TriL.c1 rfl (op_mv (ltb rfl) rfl) ?_
 refine TriL.g1 rfl (ltb rfl) rfl rfl (op_mv (ltb rfl) rfl) ?_
 refine TriL.g1 rfl (ltb rfl) rfl rfl (op_bld (ltb rfl) spl46_q zA46_q rfl rfl) ?_
 refine TriL.g1 rfl (ltb rfl) rfl rfl (op_lit («as» := [_]) (ltb rfl) se23_q zAe23_q rfl rfl rfl (leb rfl)) ?_
 refine TriL.g1 rfl (ltb rfl) rfl rfl (op_call (ltb rfl) fn9_q rfl (same_self [stpL] (by decide) (by decide) (by simp [stpL, Val.m]))) ?_
 refine TriL.c1 rfl (op_pickt (ltb rfl) rfl rfl rfl) ?_
 refine TriL.c1 rfl (op_mv (ltb rfl) rfl) ?_
 refine TriL.g1 rfl (ltb rfl) rfl rfl (op_mv (ltb rfl) rfl) ?_
 refine TriL.g1 rfl (ltb rfl) rfl rfl (op_call (ltb rfl) fn10_q rfl (num_pure _)) ?_
 refine TriL.g1 rfl (ltb rfl) rfl rfl (op_bin (ltb rfl) rfl rfl rfl) ?_
 refine TriL.c1 rfl (op_pickt (ltb rfl) rfl rfl rfl) ?_
 refine TriL.c1 rfl (op_mv (ltb rfl) rfl) ?_
 refine TriL.g1 rfl (ltb rfl) rfl rfl (op_mv (ltb rfl) rfl) ?_
 refine TriL.g1 rfl (ltb rfl) rfl rfl (op_bin (ltb rfl) rfl rfl rfl) ?_
 refine TriL.c1 rfl (op_pickt (ltb rfl) rfl rfl rfl) ?_
 refine TriL.c1 rfl (op_as (ltb rfl) rfl) ?_
 refine TriL.nil (Tri.ret ?_)
 exact ⟨.inr rfl, (ResOK.r1 rfl (.tmp rfl .nil)).cast rfl, rfl⟩
theorem starts_law (s : Str) : Pure Tryz.prog 5 [.str s] (.bool true) := by
 refine Pure.of_tri Tryz.func5 rfl rfl (ltb rfl) fun H => ?_
 refine Tri.seq (Tri.region ?_)
 refine TriL.c1 rfl (op_as (ltb rfl) rfl) ?_
 refine TriL.nil (Tri.seq (Tri.seq (Tri.region ?_)))
 refine TriL.c1 rfl (op_mv (ltb rfl) rfl) ?_
 refine TriL.c1 rfl (op_lens (ltb rfl) un9_q rfl) ?_
 refine TriL.c1 rfl (op_bin (ltb rfl) rfl rfl rfl) ?_
 refine TriL.nil ?_
 refine Tri.cond rfl (fun hc1 => ?_) (fun hc1 => ?_)
 ·refine Tri.seq (Tri.region ?_)
  refine TriL.c1 rfl (op_call (ltb rfl) fn6_q rfl live_pure) ?_
  refine TriL.c1 rfl (op_as (ltb rfl) rfl) ?_
  refine TriL.nil (Tri.ret ?_)
  exact ⟨.inr rfl, (ResOK.r1 rfl (.tmp rfl .nil)).cast rfl, rfl⟩
 ·refine Tri.skip (Tri.seq (Tri.region ?_))
  refine TriL.c1 rfl (op_mv (ltb rfl) rfl) ?_
  refine TriL.c1 rfl (op_call (ltb rfl) fn13_q rfl (starts_pure s (by have := of_decide_eq_false hc1; omega))) ?_
  refine TriL.c1 rfl (op_mv (ltb rfl) rfl) ?_
  iterate 2 (refine TriL.c1 rfl (op_ext (ltb rfl) rfl rfl) ?_)
  iterate 2 (refine TriL.c1 rfl (op_as (ltb rfl) rfl) ?_)
  refine TriL.nil (Tri.seq (Tri.region ?_))
  refine TriL.c1 rfl (op_mv (ltb rfl) rfl) ?_
  refine TriL.c1 rfl (op_call (ltb rfl) fn14_q rfl (rsteps_pure s (by have := of_decide_eq_false hc1; omega))) ?_
  refine TriL.c1 rfl (op_mv (ltb rfl) rfl) ?_
  iterate 4 (refine TriL.c1 rfl (op_ext (ltb rfl) rfl rfl) ?_)
  iterate 4 (refine TriL.c1 rfl (op_as (ltb rfl) rfl) ?_)
  refine TriL.nil (Tri.seq (Tri.region ?_))
  iterate 2 (refine TriL.c1 rfl (op_mv (ltb rfl) rfl) ?_)
  refine TriL.c1 rfl (op_call (ltb rfl) fn15_q rfl (ints_self _ (by have := (mSteps_lim (s := s)).2; omega))) ?_
  refine TriL.c1 rfl (op_mv (ltb rfl) rfl) ?_
  iterate 2 (refine TriL.g1 rfl (ltb rfl) rfl rfl (op_mv (ltb rfl) rfl) ?_)
  refine TriL.g1 rfl (ltb rfl) rfl rfl (op_bin (ltb rfl) rfl rfl rfl) ?_
  refine TriL.g1 rfl (ltb rfl) rfl rfl (op_eqb (ltb rfl) un4_q rfl rfl) ?_
  refine TriL.c1 rfl (op_pickt (ltb rfl) rfl rfl rfl) ?_
  refine TriL.c1 rfl (op_mv (ltb rfl) rfl) ?_
  refine TriL.g1 rfl (ltb rfl) rfl (by simp) (op_call (ltb rfl) fn6_q rfl live_pure) ?_
  refine TriL.c1 rfl (op_pickt (ltb rfl) rfl (by simp) rfl) ?_
  refine TriL.c1 rfl (op_as (ltb rfl) rfl) ?_
  refine TriL.nil (Tri.ret ?_)
  exact ⟨.inr rfl, (ResOK.r1 rfl (.tmp rfl .nil)).cast rfl, rfl⟩
/- What a row that lists the library's tables, utf8's and the errors gives of the package variables (seats of X0M). No condition. -/
theorem fn2_q : isFn Tryz.prog 2 = true := by kernel_rfl
/-- A row's wrap that keeps both: what is listed, and the world's shape. -/
theorem returns_listed {H : Type} {enc : TypeId × Value → H} {a : Assume} {C : Checked} {os : Os} {f : FuncId} {fn : Func} {s : ChangeSpec} {conds : List PathCond} {apart fresh handsOn again : Bool} {X : World → Array Value → Prop}
  (hX : ∀ (w w' : World) (args : Array Value), w.heap = w'.heap → X w args → X w' args) (own : ownKnob C.prog.godebug = none) (started : os.Started) (noInit : C.prog.inits.idxOf? f = none) (hfn : C.prog.funcs[f]? = some fn)
  (witness : ∃ (w : World) (tape : Tape) (i : Input), w.os = os ∧ (w.forCall tape i).Shaped C.prog ∧ i.vars = [] ∧ Input.okWide C.prog (w.forCall tape i) .any w.heap.size f i ∧
   ((s.pre enc C.prog fn conds apart (w.forCall tape i).memory i.args ∧ X (w.forCall tape i).memory i.args) ∧ sizedMet enc C.prog fn (OpenSpec.ofChange s) apart (w.forCall tape i).memory i.args) ∧ a.holds C.prog (lone (Frame.enter C.prog f i.args .normal) [] (w.forCall tape i)))
  (contract : ∀ (W : World) (base : Nat) (args : Array Value) (ds gs : List (DataW H)) (before : List MemPlace), (∀ (j : Nat) t v, fn.params[j]? = some t → args[j]? = some v → Value.okWide C.prog W .any base t v) →
   DataW.Whole enc C.prog fn.params.toList s.vars apart W args.toList ds gs before → X W args → W.ShapedOpen C.prog →
   Calls C.prog f args W fun e W' => ∃ v, e = .returned v ∧ s.post enc C.prog fn apart fresh handsOn again W args v W') :
  ReturnsInHanded a C os f .any (fun w args => (s.pre enc C.prog fn conds apart w args ∧ X w args) ∧ sizedMet enc C.prog fn (OpenSpec.ofChange s) apart w args) (s.post enc C.prog fn apart fresh handsOn again) := by
 refine returnsInHanded_of_calls own started noInit witness fun w tape i _ hsh _ hok hpre _ => ?_
 obtain ⟨_, _, _, fn2_q, hfn2, _, _, _, _, hval⟩ := hok
 cases Option.some.inj (hfn2.symm.trans hfn)
 obtain ⟨⟨⟨ds, gs, before, hw, _⟩, hx⟩, _⟩ := hpre
 refine (contract (w.forCall tape i) w.heap.size i.args ds gs before hval (DataW.Whole.of_heap (w' := w.forCall tape i) (by rfl) hw) (hX _ _ _ (by rfl) hx) hsh).mono ?_
 rintro e W' ⟨v, rfl, hp⟩
 exact ChangeSpec.post_blind hp
theorem laid_cons {P : Program} {W : World} {n : String} {d : DataW Unit} {r : List (String × DataW Unit)} {ps : List MemPlace} (h : DataW.LaidVars P W ((n, d) :: r) ps) :
  (∃ g t cs fuel p, P.globalNamed n = some g ∧ (P.globals[g]?).map (·.type) = some t ∧ W.var? P n = some cs ∧ DataW.trod (fun _ => ()) P W 0 (fun _ => true) false fuel t cs.toList = some (d, p)) ∧ ∃ q, DataW.LaidVars P W r q := by
 obtain ⟨g, t, cs, fuel, p, q, h1, h2, h3, h4, h5, _⟩ := h
 exact ⟨⟨g, t, cs, fuel, p, h1, h2, h3, h4⟩, q, h5⟩
theorem gErrS : Tryz.prog.globalNamed "strconv.ErrSyntax" = some 3 := by kernel_rfl
theorem gErrR : Tryz.prog.globalNamed "strconv.ErrRange" = some 4 := by kernel_rfl
theorem tErrS : (Tryz.prog.globals[3]?).map (·.type) = some 168 := by kernel_rfl
theorem tErrR : (Tryz.prog.globals[4]?).map (·.type) = some 168 := by kernel_rfl
theorem tPow : (Tryz.prog.globals[5]?).map (·.type) = some 242 := by kernel_rfl
theorem gDB : Tryz.prog.globalNamed "math/bits.deBruijn64tab" = some 7 := by kernel_rfl
/-- an error's variable -/
theorem err_cell {W : World} {n : String} {g : Nat} {name : String} {d : DataW Unit} {r : List (String × DataW Unit)} {ps : List MemPlace} (hg : Tryz.prog.globalNamed n = some g) (ht : (Tryz.prog.globals[g]?).map (·.type) = some 168)
  (h : DataW.LaidVars Tryz.prog W ((n, .iface name d) :: r) ps) : ∃ te pe, W.cell? ⟨g, 0, none⟩ = some (.iface te pe) := by
 obtain ⟨⟨g', t, cs, fuel, p, h1, h2, h3, h4⟩, _⟩ := laid_cons h
 obtain rfl := Option.some.inj (hg.symm.trans h1)
 obtain rfl := Option.some.inj (ht.symm.trans h2)
 obtain ⟨_, u, v, h5, _, _⟩ := iface_of_trod Tryz.underlying168 h4
 refine ⟨u, v, ?_⟩
 rw [World.var?_cell hg h3 0, ← Array.getElem?_toList, h5]; rfl
theorem var_lt {P : Program} {W : World} {n : String} {g : Nat} {cs : Array Value} (hg : P.globalNamed n = some g) (h : W.var? P n = some cs) : g < W.heap.size := by
 simp only [World.var?, hg, Option.bind_some] at h
 split at h
 ·rename_i e; exact (Array.getElem?_eq_some_iff.1 e).1
 ·cases h
theorem pow_tab {W : World} {r : List (String × DataW Unit)} {ps : List MemPlace} (h : DataW.LaidVars Tryz.prog W (("internal/strconv.uint64pow10", Rows.laid_internal_strconv_uint64pow10) :: r) ps) :
  Lib.TabIs Tryz.prog W "internal/strconv.uint64pow10" .u64 Lib.pow10Tab := by
 obtain ⟨⟨g', t, cs, fuel, p, h1, h2, h3, h4⟩, _⟩ := laid_cons h
 obtain rfl := Option.some.inj (gPow.symm.trans h1)
 obtain rfl := Option.some.inj (tPow.symm.trans h2)
 have e : (Rows.laid_internal_strconv_uint64pow10 : DataW Unit) = Lib.tabData .u64 Lib.pow10Tab := by rfl
 rw [e] at h4
 unfold Lib.TabIs
 rw [h3, ← Lib.cells_of_tab Tryz.underlying242 Tryz.underlying41 (by kernel_rfl) (by kernel_rfl) h4]
theorem maxLen_cell {W : World} (h : W.ShapedOpen Tryz.prog) : ∃ m, W.cell? ⟨2, 0, none⟩ = some (.int .i64 m) :=
 Go.Proofs.cell_of_shapedOpen_int (zero := #[.int .i64 0]) (t := 3) h (of_decide_eq_true (by kernel_rfl)) (by kernel_rfl) rfl (by kernel_rfl) (by kernel_rfl) Tryz.underlying3
abbrev laid7 : List (String × DataW Unit) := [("math/bits.deBruijn32tab", Rows.laid_math_bits_deBruijn32tab), ("math/bits.deBruijn64tab", Rows.laid_math_bits_deBruijn64tab), ("internal/strconv.uint64pow10", Rows.laid_internal_strconv_uint64pow10), ("unicode/utf8.acceptRanges", Rows.laid_unicode_utf8_acceptRanges), ("strconv.ErrRange", Rows.laid_strconv_ErrRange), ("strconv.ErrSyntax", Rows.laid_strconv_ErrSyntax), ("unicode/utf8.first", Rows.laid_unicode_utf8_first)]
theorem acceptD : (Rows.laid_unicode_utf8_acceptRanges : DataW Unit) = Lib.acceptData := by rfl
theorem firstD : (Rows.laid_unicode_utf8_first : DataW Unit) = Lib.firstData := by rfl
theorem known7 {W : World} (h : laidMetH Tryz.prog laid7 W) (hs : W.ShapedOpen Tryz.prog) : gok W ∧ gN ≤ W.heap.size := by
 rw [MakeChecks.laidMetH_plain _ _ _ (by kernel_rfl)] at h
 have h1 : Lib.VarReads Tryz.prog W "unicode/utf8.first" Lib.firstData := firstD ▸ Lib.laidMet.reads h (by simp [laid7])
 have h2 : Lib.VarReads Tryz.prog W "unicode/utf8.acceptRanges" Lib.acceptData := acceptD ▸ Lib.laidMet.reads h (by simp [laid7])
 have h3 := utf8Tabs_of_readsT (ρ := Tryz.laysVS_ren) (U8Types.of196 Tryz.laysVS) ⟨by kernel_rfl, by kernel_rfl, by kernel_rfl, by kernel_rfl, by kernel_rfl, by kernel_rfl, by kernel_rfl⟩ h1 h2
 obtain ⟨ps, h, _⟩ := h
 obtain ⟨_, q1, l1⟩ := laid_cons h
 obtain ⟨⟨g, t, cs, fuel, p, k1, _, k3, _⟩, q2, l2⟩ := laid_cons l1
 obtain ⟨_, q3, l3⟩ := laid_cons l2
 obtain ⟨_, q4, l4⟩ := laid_cons l3
 obtain ⟨_, q5, l5⟩ := laid_cons l4
 have := var_lt gDB k3
 exact ⟨⟨h3, err_cell gErrS tErrS l5, err_cell gErrR tErrR l4, pow_tab l2, maxLen_cell hs⟩, this⟩
end Go.Proofs.YtabihkfhoohfnaaGreatDoor.X
