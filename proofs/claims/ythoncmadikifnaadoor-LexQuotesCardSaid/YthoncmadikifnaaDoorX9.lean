/- The program logic's rules: conversions, cuts, ranges over texts, results, and what a state may forget. No condition. -/
import Derived.Test.YthoncmadikifnaaDoorX8
import Derived.Laws.RangeString
set_option linter.unusedVariables false
set_option linter.unusedSimpArgs false
namespace Go.Proofs.YthoncmadikifnaaDoor.X
open Go Go.RowKit

/-- Bytes as elements. -/
def bsl (l : List UInt8) : List AV := l.map fun c => .int .u8 (c.toNat : Int)
theorem bytesOf_bsl (l : List UInt8) : bytesOf (bsl l) = some l := by
  induction l with
  | nil => rfl
  | cons c l ih =>
    have ih' : bytesOf (List.map (fun c => AV.int .u8 (c.toNat : Int)) l) = some l := ih
    simp only [bsl, List.map_cons, bytesOf, ih', Option.map_some]
    simp
theorem bytesOf_get : ∀ {xs : List AV} {l : List UInt8}, bytesOf xs = some l → ∃ ns : List Int, xs = ns.map (AV.int .u8) ∧ l = ns.map fun n => UInt8.ofNat n.toNat
  | [], l, h => by simp [bytesOf] at h; subst h; exact ⟨[], rfl, rfl⟩
  | x :: xs, l, h => by
    cases x <;> first | (simp [bytesOf] at h; done) | skip
    rename_i k n
    cases k <;> first | (simp [bytesOf] at h; done) | skip
    simp only [bytesOf] at h
    cases hr : bytesOf xs with
    | none => rw [hr] at h; cases h
    | some r =>
      rw [hr] at h; cases h
      obtain ⟨ns, h1, h2⟩ := bytesOf_get hr
      exact ⟨n :: ns, by rw [h1]; rfl, by rw [h2]; rfl⟩
theorem foldl_push (ns : List Int) : ∀ (b : ByteArray), ns.foldl (fun r n => r.push (UInt8.ofNat n.toNat)) b = ⟨(b.data.toList ++ ns.map fun n => UInt8.ofNat n.toNat).toArray⟩ := by
  induction ns with
  | nil => intro b; simp
  | cons n ns ih =>
    intro b
    rw [List.foldl_cons, ih]
    simp [ByteArray.push]
section
variable {P : Program} {N : Nat} {s : St} {d : Nat} {ty : TypeId} {pos : String} {af : Array Edge} {g : Option (Nat × Bool)}
/-- string(b) -/
theorem op_b2s {t1 t2 el : TypeId} {x : Operand} {xs : List AV} {l : List UInt8} (hN : d < N) (h1 : P.underlying t1 = some (.slice el)) (h2 : P.underlying el = some (.int .u8)) (h3 : P.underlying t2 = some .string) (hx : opv x s = some (.sl xs)) (hb : bytesOf xs = some l) :
    OpOK P N ⟨some d, .convert t1 t2 x, ty, pos, af, g⟩ s (rd x) [(.s d, .sv (.v (.str l)))] :=
  OpOK.val rfl hN fun E G L a w t hr hR => by
    have hv := opv_sound hr hR hx
    obtain ⟨ns, rfl, rfl⟩ := bytesOf_get hb
    refine ⟨.string ⟨(ns.map fun (n : Int) => UInt8.ofNat n.toNat).toArray⟩, ?_, V.str _⟩
    have key : ∃ A c, a.eval x = .slice A ns.length c ∧ ∀ ad, A = some ad → (loadCells ad ns.length).run P w = .ok (ns.map (Value.int .u8)).toArray w := by
      have hok : okEls 1 (ns.map (AV.int .u8)) = true := by simp [okEls, AV.cells]
      rcases V_sl_news hr.kn hv hok (by omega) with ⟨h0, A, c, e⟩ | ⟨ad, c, news, e, hl, hn, _, hL⟩
      · have : ns = [] := by simpa using h0
        subst this
        exact ⟨A, c, e, fun ad _ => by simp [loadCells, loadCellsFrom]⟩
      · refine ⟨some ad, c, by simpa using e, ?_⟩
        rintro _ ⟨⟩
        have hnews : news = ns.map (Value.int .u8) := by
          apply List.ext_getElem?
          intro j
          by_cases hj : j < ns.length
          · have := (hL.2 j (.int .u8 ns[j]) 0 (.int .u8 ns[j]) (by simp [hj]) (by simp [AV.cells])).2
            have hj2 : j < news.length := by rw [hl]; simpa using hj
            simp only [Nat.mul_one, Nat.add_zero, List.getD_eq_getElem?_getD, List.getElem?_eq_getElem hj2, Option.getD_some] at this
            rw [List.getElem?_eq_getElem hj2, V_int this]
            simp [hj]
          · rw [List.getElem?_eq_none (by rw [hl]; simp; omega), List.getElem?_eq_none (by simp; omega)]
        have := run_loadCells_list (P := P) w ad news hn
        rw [hnews] at this
        simpa using this
    obtain ⟨A, c, e, hload⟩ := key
    have hrun : (convert t1 t2 (.slice A ns.length c)).run P w = .ok (.string ⟨(ns.map fun (n : Int) => UInt8.ofNat n.toNat).toArray⟩) w := by
      rw [run_convert_bytes_string w t1 t2 el A ns.length c h1 h2 h3]
      cases A with
      | none =>
        have hz : ns = [] := by
          rcases V_sl_news hr.kn hv (by simp [okEls, AV.cells] : okEls 1 (ns.map (AV.int .u8)) = true) (by omega) with ⟨h0, _⟩ | ⟨ad, c', news, e', _⟩
          · simpa using h0
          · rw [e] at e'; cases e'
        subst hz
        simp [Conv.bytesToString, ByteArray.empty, ByteArray.emptyWithCapacity]
        rfl
      | some ad =>
        rw [run_bytesToString w ad ns.length c ns (hload ad rfl), foldl_push]
        simp [ByteArray.empty, ByteArray.emptyWithCapacity]
        try rfl
    simp only [execOp, Sem.run_bind, e, hrun, Result.andThen_ok, Sem.run_pure]
/-- []byte(s) -/
theorem op_s2b {t1 t2 el : TypeId} {td : TypeDesc} {x : Operand} {l : List UInt8} (hN : d < N) (h1 : P.underlying t1 = some td) (h2 : P.underlying t2 = some (.slice el)) (h3 : P.underlying el = some (.int .u8)) (hx : opv x s = some (.str l)) :
    OpOK P N ⟨some d, .convert t1 t2 x, ty, pos, af, g⟩ s (rd x) [(.s d, .sv (.v (.sl (bsl l))))] := by
  intro t hR E G L a w hr K Q hK
  have hv := V_str (opv_sound hr hR hx)
  have hrun := Lib.run_convert_string_bytes (P := P) w t1 t2 el ⟨l.toArray⟩ h1 h2 h3
  have e1 : (⟨l.toArray⟩ : ByteArray).size = l.length := by simp [ByteArray.size]
  have hg : w.grownBy (Lib.bytesWorld w el ⟨l.toArray⟩) none := ⟨rfl, rfl, rfl, by rw [Lib.bytesWorld_size]; omega, fun k hk _ => Lib.bytesWorld_at_old w el _ k hk⟩
  obtain ⟨hle, hr1⟩ := hr.known hg (Nat.le_refl _) (cells := l.map fun c => Value.int .u8 (c.toNat : Int)) (fun o v e => by
    have ho : o < l.length := by have := (List.getElem?_eq_some_iff.1 e).1; simpa using this
    rw [Lib.bytesWorld_cell w el ⟨l.toArray⟩ o (by rw [e1]; exact ho)]
    simp only [List.getElem?_map, List.getElem?_eq_getElem ho, Option.map_some, Option.some.injEq] at e
    rw [← e]
    simp [List.getD_eq_getElem?_getD, List.getElem?_eq_getElem ho])
  have hV : V (G.add w.heap.size (l.map fun c => Value.int .u8 (c.toNat : Int))) (.slice (some ⟨w.heap.size, 0, none⟩) l.length (grownCap w l.length 0 el)) (.sl (bsl l)) := by
    have hlen : l.length = (bsl l).length := by simp [bsl]
    have := V.slN (G := G.add w.heap.size (l.map fun c => Value.int .u8 (c.toNat : Int))) w.heap.size 0 (grownCap w l.length 0 el) 1 (bsl l) (fun i _ => .int .u8 ((l.getD i 0).toNat : Int)) (by rw [← hlen]; exact grownCap_ge _ _ _ _) ?_ ?_ ?_ ?_
    · rw [← hlen] at this; exact this
    all_goals intro i e
    · intro he
      simp only [bsl, List.getElem?_map] at he
      cases hc : l[i]? with
      | none => rw [hc] at he; cases he
      | some c => rw [hc] at he; cases he; rfl
    all_goals intro j c he hj
    all_goals simp only [bsl, List.getElem?_map] at he
    all_goals cases hc : l[i]? with
      | none => rw [hc] at he; cases he
      | some u =>
        rw [hc] at he; cases he
        have hj0 : j = 0 := by
          have := (List.getElem?_eq_some_iff.1 hj).1
          simp [AV.cells] at this; exact this
        subst hj0
        simp [AV.cells] at hj
        subst hj
        first
        | rfl
        | (simp only [List.getD_eq_getElem?_getD, hc, Option.getD_some]; exact .int _ _)
        | (simp [add_kn, hc, List.getD_eq_getElem?_getD])
  unfold Oper.wp
  have he : (execOp a.eval ⟨some d, .convert t1 t2 x, ty, pos, af, g⟩).run P w = .ok (.value (.slice (some ⟨w.heap.size, 0, none⟩) l.length (grownCap w l.length 0 el))) (Lib.bytesWorld w el ⟨l.toArray⟩) := by
    rw [e1] at hrun
    simp only [execOp, Sem.run_bind, hv, hrun, Result.andThen_ok, Sem.run_pure]
  rw [he]
  exact hK _ _ _ L (hr1.put d hN _ (.v (.sl (bsl l))) hV)

/-! ### Cuts -/
def obnd (x : Option Operand) (dflt : Int) (s : St) : Option Int :=
  match x with
  | none => some dflt
  | some x => match opv x s with
    | some (.int _ n) => some n
    | _ => none
def rdo (x : Option Operand) : List Comp :=
  match x with
  | none => []
  | some x => rd x
theorem obnd_sound {E : Ent} {G : Gh} {L : Loc} {a : Act} {w : World} {t : St} (hr : Rel E N G L a w t) {x : Option Operand} {df n : Int} (hR : Reads (rdo x) s t) (h : obnd x df s = some n) : (x = none ∧ n = df) ∨ ∃ y k, x = some y ∧ a.eval y = .int k n := by
  cases x with
  | none => simp [obnd] at h; exact .inl ⟨rfl, h.symm⟩
  | some y =>
    refine .inr ?_
    simp only [obnd] at h
    split at h
    · rename_i k m hm
      cases h
      exact ⟨y, k, rfl, V_int (opv_sound hr hR hm)⟩
    · cases h
theorem bounds_run {E : Ent} {G : Gh} {L : Loc} {a : Act} {w : World} {t : St} (hr : Rel E N G L a w t) {lo hi : Option Operand} {l h : Int} (isS : Bool) (len cap : Nat) (hRl : Reads (rdo lo) s t) (hRh : Reads (rdo hi) s t) (h1 : obnd lo 0 s = some l) (h2 : obnd hi len s = some h)
    (h0 : 0 ≤ l) (hlh : l ≤ h) (hhc : h ≤ cap) : (Instr.sliceBounds isS len cap (lo.map a.eval) (hi.map a.eval) none).run P w = .ok (l.toNat, h.toNat, cap) w := by
  rcases obnd_sound hr hRl h1 with ⟨rfl, rfl⟩ | ⟨y, k, rfl, e1⟩ <;> rcases obnd_sound hr hRh h2 with ⟨rfl, rfl⟩ | ⟨z, k', rfl, e2⟩
  · simp [Instr.sliceBounds]
  · simp [Instr.sliceBounds, e2, run_sliceBound w k' h cap _ (by omega) hhc]
  · have hl : l ≤ (len : Int) := hlh
    simp [Instr.sliceBounds, e1, run_sliceBound w k l len _ h0 hl]
  · have hl : l ≤ ((h.toNat : Nat) : Int) := by omega
    simp [Instr.sliceBounds, e1, e2, run_sliceBound w k' h cap _ (by omega) hhc, run_sliceBound w k l h.toNat _ h0 hl]
/-- s[lo:hi] of a text -/
theorem op_cuts {t1 : TypeId} {x : Operand} {lo hi : Option Operand} {b : List UInt8} {l h : Int} (hN : d < N) (ht : P.underlying t1 = some .string) (hx : opv x s = some (.str b)) (h1 : obnd lo 0 s = some l) (h2 : obnd hi b.length s = some h) (h0 : 0 ≤ l) (hlh : l ≤ h) (hhc : h ≤ b.length) :
    OpOK P N ⟨some d, .slice t1 x lo hi none, ty, pos, af, g⟩ s (rd x ++ (rdo lo ++ rdo hi)) [(.s d, .sv (.v (.str ((b.drop l.toNat).take (h.toNat - l.toNat)))))] :=
  OpOK.val rfl hN fun E G L a w t hr hR => by
    have hv := V_str (opv_sound hr hR.left hx)
    refine ⟨.string ⟨((b.drop l.toNat).take (h.toNat - l.toNat)).toArray⟩, ?_, .str _⟩
    have e1 : (⟨b.toArray⟩ : ByteArray).size = b.length := by simp [ByteArray.size]
    have hb := bounds_run (P := P) hr false b.length b.length hR.right.left hR.right.right h1 h2 h0 hlh hhc
    have e2 : (⟨b.toArray⟩ : ByteArray).extract l.toNat h.toNat = ⟨((b.drop l.toNat).take (h.toNat - l.toNat)).toArray⟩ := by
      apply ByteArray.ext
      simp [ByteArray.data_extract, List.extract_toArray, List.extract_eq_take_drop]
    simp only [execOp, Sem.run_bind, hv, run_sliceAt_string w t1 _ _ _ _ ht, Instr.slice, run_underlying ht, Result.andThen_ok, Option.isSome_none, Bool.false_eq_true, if_false, Option.map_none, e1, hb, Sem.run_pure, e2]
/-- xs[lo:hi] of a slice that is known -/
theorem op_cutl {t1 : TypeId} {x : Operand} {lo hi : Option Operand} {xs : List AV} {esz : Nat} {l h : Int} (hN : d < N) (ht : ie P t1 = some esz) (hx : opv x s = some (.sl xs)) (hes : ∀ e ∈ xs, e.cells.length = esz) (h1 : obnd lo 0 s = some l) (h2 : obnd hi xs.length s = some h) (h0 : 0 ≤ l) (hlh : l ≤ h) (hhc : h ≤ xs.length) :
    OpOK P N ⟨some d, .slice t1 x lo hi none, ty, pos, af, g⟩ s (rd x ++ (rdo lo ++ rdo hi)) [(.s d, .sv (.v (.sl ((xs.drop l.toNat).take (h.toNat - l.toNat)))))] :=
  OpOK.val rfl hN fun E G L a w t hr hR => by
    have hv := opv_sound hr hR.left hx
    obtain ⟨el, inf, hu, hinf, hsize⟩ := ie_run ht
    have hel : P.elem t1 = el := by simp [Program.elem, hu]
    have hu2 : P.underlying t1 = some (.slice (P.elem t1)) := by rw [hel]; exact hu
    have hsz : (sizeOf (P.elem t1)).run P w = .ok esz w := by simp [sizeOf, typeInfo, hel, hinf, hsize]
    have hrun : ∀ (A : Option Addr) (c : Nat), xs.length ≤ c → (execOp a.eval ⟨some d, .slice t1 x lo hi none, ty, pos, af, g⟩).run P w = ((Instr.slice t1 (a.eval x) (lo.map a.eval) (hi.map a.eval) none).run P w).andThen (fun v w => .ok (.value v) w) := fun A c _ => by
      simp only [execOp, Sem.run_bind, run_sliceAt_slice w t1 _ _ _ _ hu2, Option.map_none, Sem.run_pure]
    generalize hav : a.eval x = u at hv hrun
    have hlen : ((xs.drop l.toNat).take (h.toNat - l.toNat)).length = h.toNat - l.toNat := by rw [List.length_take, List.length_drop]; omega
    cases hv with
    | slE A cap =>
      have hb := bounds_run (P := P) hr true 0 cap hR.right.left hR.right.right h1 (by simpa using h2) h0 hlh (by simp at hhc; omega)
      refine ⟨sliced A l.toNat h.toNat cap esz, ?_, ?_⟩
      · rw [hrun A cap (by simp), run_slice_any w t1 A 0 cap hu2, hb]
        simp [hsz]
      · have : h.toNat - l.toNat = 0 := by simp at hhc; omega
        simp only [sliced, this, List.drop_nil, List.take_nil]
        exact V.slE _ _
    | slN b off cap esz' _ vs hc he hk hf hvv =>
      have hb := bounds_run (P := P) hr true xs.length cap hR.right.left hR.right.right h1 h2 h0 hlh (by omega)
      refine ⟨sliced (some ⟨b, off, none⟩) l.toNat h.toNat cap esz, ?_, ?_⟩
      · rw [hrun (some ⟨b, off, none⟩) cap hc, run_slice_any w t1 _ xs.length cap hu2, hb]
        simp [hsz]
      · by_cases hlh' : h.toNat - l.toNat = 0
        · have : (xs.drop l.toNat).take (h.toNat - l.toNat) = [] := by rw [hlh']; simp
          rw [this]
          simp only [sliced, hlh']
          exact V.slE _ _
        · have hne : cap ≠ l.toNat := by omega
          have hes' : esz' = esz := by
            have hlt : l.toNat < xs.length := by omega
            rw [← he _ _ (List.getElem?_eq_getElem hlt)]
            exact hes _ (List.getElem_mem hlt)
          subst hes'
          simp only [sliced, if_neg hne, Option.map_some, Addr.add_lit]
          have hget : ∀ i e, ((xs.drop l.toNat).take (h.toNat - l.toNat))[i]? = some e → xs[l.toNat + i]? = some e := by
            intro i e q
            have hi : i < h.toNat - l.toNat := by have := (List.getElem?_eq_some_iff.1 q).1; omega
            rwa [List.getElem?_take, if_pos hi, List.getElem?_drop] at q
          have := V.slN (G := G) b (off + l.toNat * esz') (cap - l.toNat) esz' ((xs.drop l.toNat).take (h.toNat - l.toNat)) (fun i j => vs (l.toNat + i) j) (by omega) (fun i e q => he _ e (hget i e q))
            (fun i e j c q r => by
              have := hk _ e j c (hget i e q) r
              rw [Nat.add_mul] at this
              rw [← this]; congr 1; omega) (fun i e j c q r => hf _ e j c (hget i e q) r) (fun i e j c q r => hvv _ e j c (hget i e q) r)
          rw [hlen] at this
          exact this

/-! ### Ranges over texts -/
def dec (l : List UInt8) (pos : Nat) : Nat × Nat := Utf8.decode ⟨l.toArray⟩ pos
theorem op_rng {t1 : TypeId} {x : Operand} {l : List UInt8} (hN : d < N) (ht : P.underlying t1 = some .string) (hx : opv x s = some (.str l)) (hk : get s (.b d) = none) :
    OpOK P N ⟨some d, .range t1 x, ty, pos, af, g⟩ s (rd x ++ [.b d]) [(.s d, .sv (.lp d 0)), (.b d, .it l 0)] := by
  intro t hR E G L a w hr K Q hK
  have hv := V_str (opv_sound hr hR.left hx)
  have hk' : get t (.b d) = none := by rw [hR (.b d) (by simp)]; exact hk
  have hr1 := hr.alloc d hk' (.stringIter ⟨l.toArray⟩ 0) (.it l 0) rfl rfl rfl
  unfold Oper.wp
  have he : (execOp a.eval ⟨some d, .range t1 x, ty, pos, af, g⟩).run P w = .ok (.value (.pointer (some ⟨w.heap.size, 0, none⟩))) (w.alloc (.stringIter ⟨l.toArray⟩ 0)) := by
    simp only [execOp, Sem.run_bind, hv, run_range_string w t1 _ ht, Result.andThen_ok, Sem.run_pure]
    rfl
  rw [he]
  exact hK _ _ G _ (hr1.put d hN _ (.lp d 0) ⟨w.heap.size, by simp [Loc.setBox], rfl⟩)
theorem op_nxt1 {x : Operand} {k p : Nat} {l : List UInt8} (hN : d < N) (hx : opd x s = some (.lp k 0)) (hk : get s (.b k) = some (.it l p)) (hp : p < l.length) :
    OpOK P N ⟨some d, .next x true, ty, pos, af, g⟩ s (rd x ++ [.b k]) [(.s d, .sv (.v (.tup [.bool true, .int .i64 p, .int .i32 (dec l p).1]))), (.b k, .it l (p + (dec l p).2))] := by
  intro t hR E G L a w hr K Q hK
  obtain ⟨blk, hb, hv⟩ := opd_sound hr hR.left hx
  have hk' : get t (.b k) = some (.it l p) := by rw [hR (.b k) (by simp)]; exact hk
  obtain ⟨blk', o, hb', hbase, hh, ho, hno⟩ := hr.box k _ hk' rfl
  rw [hb] at hb'; cases hb'
  have ho' : o = .stringIter ⟨l.toArray⟩ p := ho
  subst ho'
  have e1 : (⟨l.toArray⟩ : ByteArray).size = l.length := by simp [ByteArray.size]
  have hlt := (Array.getElem?_eq_some_iff.1 hh).1
  let w1 : World := { w with heap := w.heap.setIfInBounds blk (.stringIter ⟨l.toArray⟩ (p + (dec l p).2)) }
  have hr1 := hr.turn (w' := w1) (cv := .it l (p + (dec l p).2)) hk' rfl rfl rfl hb (o := .stringIter ⟨l.toArray⟩ (p + (dec l p).2)) rfl rfl rfl rfl (by simp [w1]) (fun j hj => by simp only [w1]; rw [Array.getElem?_setIfInBounds_ne (Ne.symm hj)]) (by simp only [w1]; rw [Array.getElem?_setIfInBounds_self_of_lt hlt])
  unfold Oper.wp
  have he : (execOp a.eval ⟨some d, .next x true, ty, pos, af, g⟩).run P w = .ok (.value (.tuple #[.bool true, .int .i64 p, .int .i32 (dec l p).1])) w1 := by
    simp [execOp, hv, Instr.next, getObj, setObj, Sem.run, hh, e1, hp, goInt, w1, dec]
  rw [he]
  refine hK _ _ G L (hr1.put d hN _ (.v (.tup [.bool true, .int .i64 p, .int .i32 (dec l p).1])) (V.tup _ _ rfl fun j c e => ?_))
  match j, e with
  | 0, e => simp at e; subst e; exact .bool _
  | 1, e => simp at e; subst e; exact .int _ _
  | 2, e => simp at e; subst e; exact .int _ _
  | j + 3, e => simp at e
theorem op_nxt0 {x : Operand} {k p : Nat} {l : List UInt8} (hN : d < N) (hx : opd x s = some (.lp k 0)) (hk : get s (.b k) = some (.it l p)) (hp : l.length ≤ p) :
    OpOK P N ⟨some d, .next x true, ty, pos, af, g⟩ s (rd x ++ [.b k]) [(.s d, .sv (.v (.tup [.bool false])))] :=
  OpOK.val rfl hN fun E G L a w t hr hR => by
    obtain ⟨blk, hb, hv⟩ := opd_sound hr hR.left hx
    obtain ⟨blk', o, hb', hbase, hh, ho, hno⟩ := hr.box k (.it l p) (by rw [hR (.b k) (by simp)]; exact hk) rfl
    rw [hb] at hb'; cases hb'
    have ho' : o = .stringIter ⟨l.toArray⟩ p := ho
    subst ho'
    have e1 : (⟨l.toArray⟩ : ByteArray).size = l.length := by simp [ByteArray.size]
    have hp' : ¬ p < l.length := by omega
    refine ⟨.tuple #[.bool false], ?_, V.tup _ _ rfl fun j c e => ?_⟩
    · simp [execOp, hv, Instr.next, getObj, Sem.run, hh, e1, hp']
    · match j, e with
      | 0, e => simp at e; subst e; exact .bool _
      | j + 1, e => simp at e
/-- p == nil, p != nil -/
def isnil : Sv → Option Bool
  | .v .nilp => some true
  | .v (.kp _) => some false
  | .v (.op _ _) => some false
  | .lp _ _ => some false
  | .ta _ _ => some false
  | _ => none
theorem isnil_sound {G : Gh} {L : Loc} {v : Value} {x : Sv} {b : Bool} (hv : SV G L v x) (h : isnil x = some b) : ∃ p, v = .pointer p ∧ p.isNone = b := by
  cases x with
  | v a =>
    have hV : V G v a := hv
    cases hV <;> first | (simp [isnil] at h; done) | skip
    all_goals simp [isnil] at h
    all_goals subst h
    all_goals exact ⟨_, rfl, rfl⟩
  | lp k off => obtain ⟨blk, _, rfl⟩ := hv; simp [isnil] at h; subst h; exact ⟨_, rfl, rfl⟩
  | ow k xs => simp [isnil] at h
  | mv k n => simp [isnil] at h
  | om k n => simp [isnil] at h
  | ov k esz lo n => simp [isnil] at h
  | ta k off => obtain ⟨blk, m, c, _, rfl⟩ := hv; simp [isnil] at h; subst h; exact ⟨_, rfl, rfl⟩
  | cd g b a => simp [isnil] at h
theorem op_eqn {t1 t2 : TypeId} {x : Operand} {y : Sv} {b : Bool} (hN : d < N) (ht : P.underlying t1 = some (.pointer (P.pointee t1))) (hx : opd x s = some y) (hb : isnil y = some b) :
    OpOK P N ⟨some d, .binOp .eql t1 x (.const (.pointer none)) t2, ty, pos, af, g⟩ s (rd x) [(.s d, .sv (.v (.bool b)))] :=
  OpOK.val rfl hN fun E G L a w t hr hR => by
    obtain ⟨p, hp, hpb⟩ := isnil_sound (opd_sound hr hR hx) hb
    have hgd : (eqGuard .eql t1 x (.const (.pointer none)) (.pointer p) (.pointer none)).run P w = .ok () w := by simp [eqGuard]
    refine ⟨.bool b, ?_, .bool _⟩
    have he : a.eval (.const (.pointer none)) = .pointer none := rfl
    simp only [execOp, Sem.run_bind, hp, he, hgd, Result.andThen_ok, run_eql_pointer_nil w t1 p ht, Sem.run_pure, hpb]
theorem op_nen {t1 t2 : TypeId} {x : Operand} {y : Sv} {b : Bool} (hN : d < N) (ht : P.underlying t1 = some (.pointer (P.pointee t1))) (hx : opd x s = some y) (hb : isnil y = some b) :
    OpOK P N ⟨some d, .binOp .neq t1 x (.const (.pointer none)) t2, ty, pos, af, g⟩ s (rd x) [(.s d, .sv (.v (.bool (!b))))] :=
  OpOK.val rfl hN fun E G L a w t hr hR => by
    obtain ⟨p, hp, hpb⟩ := isnil_sound (opd_sound hr hR hx) hb
    have hgd : (eqGuard .neq t1 x (.const (.pointer none)) (.pointer p) (.pointer none)).run P w = .ok () w := by simp [eqGuard]
    refine ⟨.bool (!b), ?_, .bool _⟩
    have he : a.eval (.const (.pointer none)) = .pointer none := rfl
    simp only [execOp, Sem.run_bind, hp, he, hgd, Result.andThen_ok, run_neq_pointer_nil w t1 p ht, Sem.run_pure, hpb]
/-- make([]T, n): a local box of its own -/
theorem op_mkv {t1 el esz by_ : Nat} {x : Operand} {kl : IntKind} {c : Int} {zs : List AV} (hN : d < N) (ht : se P t1 = some (el, esz, by_)) (hz : zeroA P el = some zs) (h1 : esz = 1) (hx : opv x s = some (.int kl c)) (h0 : 0 ≤ c) (hc : c.toNat * by_ ≤ 281474976710656) (hc2 : c.toNat ≤ maxLen) (hd : get s (.b d) = none) :
    OpOK P N ⟨some d, .makeSlice t1 x x, ty, pos, af, g⟩ s (rd x ++ [.b d]) [(.s d, .sv (.mv d c.toNat)), (.b d, .bx ((List.replicate c.toNat zs).flatten.map .v))] := by
  intro t hR E G L a w hr K Q hK
  obtain ⟨i, z, hu, hi, hzz, hzs, hsz, hby, hpos⟩ := se_run ht
  subst h1
  have hd' : get t (.b d) = none := by rw [hR (.b d) (by simp)]; exact hd
  have hv := V_int (opv_sound hr hR.left hx)
  have hcc : c = (c.toNat : Int) := by omega
  unfold zeroA at hz
  rw [hi] at hz
  simp only [hzz] at hz
  obtain ⟨q1, q2⟩ := cavs_sound G hz
  have hzl : zs.length = 1 := by rw [← q1]; simpa using hzs
  obtain ⟨z0, rfl⟩ : ∃ z0, zs = [z0] := by
    match zs, hzl with
    | [z0], _ => exact ⟨z0, rfl⟩
  have hflat : (List.replicate c.toNat [z0]).flatten = List.replicate c.toNat z0 := by
    induction c.toNat with
    | zero => rfl
    | succ n ih => simp [List.replicate_succ, ih]
  have hrun := run_make (P := P) w t1 el i z hu hi hzz kl kl c c h0 (Int.le_refl _) (by
    have h : ((i.bytes * c.toNat : Nat) : Int) ≤ 281474976710656 := by rw [hby, Nat.mul_comm]; omega
    rw [Int.natCast_mul] at h; rwa [← hcc] at h) (by simp only [maxLen] at hc2; omega)
  rw [hsz, Nat.mul_one] at hrun
  have hok : ObjOK G (L.setBox d w.heap.size) (.cells (madeCells z.cells c.toNat) el) (.bx ((List.replicate c.toNat [z0]).flatten.map .v)) := by
    refine ⟨_, _, rfl, by rw [hflat]; simp [size_madeCells], fun j y e => ?_⟩
    rw [hflat] at e
    have hj : j < c.toNat := by have := (List.getElem?_eq_some_iff.1 e).1; simpa using this
    simp only [List.getElem?_map, List.getElem?_replicate, if_pos hj, Option.map_some, Option.some.injEq] at e
    subst e
    obtain ⟨r1, r2⟩ := q2 0 z0 rfl
    refine ⟨r1, ?_⟩
    have hj2 : j < (madeCells z.cells c.toNat).size := by rw [size_madeCells]; exact hj
    have hz0 : 0 < z.cells.size := by omega
    have e1 : (madeCells z.cells c.toNat)[j] = z.cells[0] := by
      simp only [madeCells, Array.getElem_map, Array.getElem_range, hzs, Nat.mod_one]
      exact getElem!_pos z.cells 0 hz0
    show V G ((madeCells z.cells c.toNat).getD j undef) z0
    rw [Array.getD_eq_getD_getElem?, Array.getElem?_eq_getElem hj2, e1]
    rw [List.getD_eq_getElem?_getD, Array.getElem?_toList, Array.getElem?_eq_getElem hz0] at r2
    exact r2
  have hr1 := hr.alloc d hd' (.cells (madeCells z.cells c.toNat) el) _ rfl rfl hok
  unfold Oper.wp
  have he : (execOp a.eval ⟨some d, .makeSlice t1 x x, ty, pos, af, g⟩).run P w = .ok (.value (.slice (some ⟨w.heap.size, 0, none⟩) c.toNat c.toNat)) (w.alloc (.cells (madeCells z.cells c.toNat) el)) := by
    simp only [execOp, Sem.run_bind, hv, hrun, Result.andThen_ok, Sem.run_pure]
  rw [he]
  exact hK _ _ G _ (hr1.put d hN _ (.mv d c.toNat) ⟨w.heap.size, c.toNat, by simp [Loc.setBox], rfl, Nat.le_refl _⟩)
end
end Go.Proofs.YthoncmadikifnaaDoor.X
