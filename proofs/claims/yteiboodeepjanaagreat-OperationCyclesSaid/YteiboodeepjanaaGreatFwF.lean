/- More rules: strings, maximum and minimum, cuts of slices, rows of the function's own, sums of a region. No program in sight. -/
import Derived.Test.YteiboodeepjanaaGreatFwE
import Derived.Great.BuildSlice
namespace Go.Proofs.YteiboodeepjanaaGreat
open Go.RowKit

section
variable {P : Program} {ops : Array Oper} {Q : Exit → Act → World → Prop} {N : Nat} {w0 : World} {L L' : List Res} {rest : List Oper} {e : Env} {o : Oper} {t : TypeId} {x y ix : Operand} {a : Addr} {v z : Value} {el sz by_ : Nat} {ps : List (Nat × Nat)}

/-! ### A piece of code whose ways meet again: what it leaves, and on -/
def Left (N : Nat) (w0 : World) (L : List Res) (wr : List Nat) (e : Env) (S : List (Nat × Value)) (a : Act) (w : World) : Prop := ∃ e', a = mk N e' ∧ Keeps wr e e' ∧ Ats S e' ∧ St w0 L w

theorem gc_sum {c d : Code} {K : List Res} (wr : List Nat) (S : List (Nat × Value)) (h : GC P (Exit.then (Left N w0 K wr e S) Q) N w0 L c e) (k : ∀ base, GC P Q N w0 K d (sets S (havoc wr e base))) : GC P Q N w0 L (.seq c d) e := ⟨fun w s => by
  refine wp_seq (wp_mono (h.h w s) ?_)
  intro x a' w' hq
  cases x with
  | normal =>
    obtain ⟨e', rfl, hk, ha, hs⟩ := hq
    have := (k e').h w' hs
    rw [havoc_keeps hk, sets_ats ha] at this
    exact this
  | exit id => exact hq
  | goto l => exact hq
  | ret => exact hq
  | panic ch => exact hq
  | outgrown => exact hq⟩
theorem gx_left {wr : List Nat} {e0 : Env} {S : List (Nat × Value)} {K : List Res} (hk : Keeps wr e0 e) (ha : Ats S e) (hs : Sub L K) : GX (Exit.then (Left N w0 K wr e0 S) Q) N w0 L .normal e := ⟨fun _ s => ⟨e, rfl, hk, ha, St.sub hs s⟩⟩

/-! ### Strings -/
def bAt (s : ByteArray) (m : Nat) : Int := ((s.data.toList.getD m 0).toNat : Int)
theorem bAt_range (s : ByteArray) (m : Nat) : 0 ≤ bAt s m ∧ bAt s m ≤ 255 := by
  unfold bAt
  have := (s.data.toList.getD m 0).toNat_lt
  omega
theorem w_sidx [CIsStr P t] {s : ByteArray} {m : Nat} {k : IntKind} {z : Int} (hop : o.op = .index t x ix) (hw : wantedE N ops e o = true) (hx : ev N e x = .string s) (hi : ev N e ix = .int k z) (hz : z = (m : Int)) (hm : m < s.size) :
    Det P ops N w0 L o e (.int .u8 (bAt s m)) :=
  det_pure hw fun w => by
    have ht := CIsStr.h (P := P) (t := t)
    unfold isStringT at ht
    split at ht
    · rename_i hu
      subst hz
      have hg : s[m]? = some s[m] := getElem?_pos s m hm
      have hb : bAt s m = (s[m].toNat : Int) := by
        unfold bAt
        have : m < s.data.size := hm
        simp only [List.getD_eq_getElem?_getD, Array.getElem?_toList, Array.getElem?_eq_getElem this, Option.getD_some]
        rfl
      unfold execOp
      simp [hop, hx, hi, Instr.index, run_underlying hu, asIntOf, hg, hb]
    · cases ht

theorem w_max {i j : Int} {ts : Array TypeId} (hop : o.op = .call { callee := .builtin .max, args := #[x, y], argTypes := ts }) (hw : wantedE N ops e o = true) (hx : ev N e x = .int .i64 i) (hy : ev N e y = .int .i64 j) : Det P ops N w0 L o e (.int .i64 (max i j)) :=
  det_pure hw fun w => by
    have : max i j = if i < j then j else i := by omega
    unfold execOp
    simp [hop, resolve, invoke, builtin, hx, hy, Builtin.max_, Builtin.max2, this]
theorem w_min {i j : Int} {ts : Array TypeId} (hop : o.op = .call { callee := .builtin .min, args := #[x, y], argTypes := ts }) (hw : wantedE N ops e o = true) (hx : ev N e x = .int .i64 i) (hy : ev N e y = .int .i64 j) : Det P ops N w0 L o e (.int .i64 (min i j)) :=
  det_pure hw fun w => by
    have : min i j = if j < i then j else i := by omega
    unfold execOp
    simp [hop, resolve, invoke, builtin, hx, hy, Builtin.min_, Builtin.min2, this]

/-! ### Cuts of slices -/
theorem w_cut_hi [CSlice P t el sz] {A : Option Addr} {n c m : Nat} {k : IntKind} {z : Int} (hop : o.op = .slice t x none (some ix) none) (hw : wantedE N ops e o = true) (hx : ev N e x = .slice A n c) (hi : ev N e ix = .int k z) (hz : z = (m : Int)) (hm : m ≤ c) :
    Det P ops N w0 L o e (.slice A m c) :=
  det_pure hw fun w => by
    have ht := CSlice.h (P := P) (t := t) (el := el) (sz := sz)
    unfold sliceSz at ht
    split at ht
    · rename_i el' hu
      obtain ⟨i, hinfo, heq⟩ := Option.map_eq_some_iff.1 ht
      subst hz
      have h0 : (0 : Int) ≤ (m : Int) ∧ (m : Int) ≤ (c : Int) := by omega
      have hmap : A.map (fun q : Addr => q.add 0) = A := by cases A <;> simp [Addr.add]
      unfold execOp
      simp only [hop, hx, hi, Option.map_none, Option.map_some, Instr.sliceAt, Sem.run_bind, run_underlying hu, Result.andThen_ok, Instr.slice, Instr.sliceBounds, Instr.sliceBound, asIntOf, Sem.run_pure, sizeOf, typeInfo]
      simp [h0, hinfo, hmap, program, Sem.run]
    · cases ht
theorem w_cut_lo [CSlice P t el sz] {A : Option Addr} {n c m : Nat} {k : IntKind} {z : Int} (hop : o.op = .slice t x (some ix) none none) (hw : wantedE N ops e o = true) (hx : ev N e x = .slice A n c) (hi : ev N e ix = .int k z) (hz : z = (m : Int)) (hm : m ≤ n) :
    Det P ops N w0 L o e (.slice (if c = m then A else A.map (·.add (m * sz))) (n - m) (c - m)) :=
  det_pure hw fun w => by
    have ht := CSlice.h (P := P) (t := t) (el := el) (sz := sz)
    unfold sliceSz at ht
    split at ht
    · rename_i el' hu
      obtain ⟨i, hinfo, heq⟩ := Option.map_eq_some_iff.1 ht
      injection heq with h1 h2
      subst hz h2
      have h0 : (0 : Int) ≤ (m : Int) ∧ (m : Int) ≤ (n : Int) := by omega
      unfold execOp
      simp only [hop, hx, hi, Option.map_none, Option.map_some, Instr.sliceAt, Sem.run_bind, run_underlying hu, Result.andThen_ok, Instr.slice, Instr.sliceBounds, Instr.sliceBound, asIntOf, Sem.run_pure, sizeOf, typeInfo]
      simp [h0, hinfo, program, Sem.run]
    · cases ht

/-! ### A row that was made whole: a block that is known whole, at an index that is not -/
theorem add_zero (b i : Nat) : (⟨b, 0, none⟩ : Addr).add i = ⟨b, i, none⟩ := by
  unfold Addr.add
  split <;> simp_all
theorem w_load_row [CNotAgg P t] {b i : Nat} {ty : TypeId} {cs : Array Value} (hop : o.op = .load t x) (hw : wantedE N ops e o = true) (hx : ev N e x = .pointer (some ((⟨b, 0, none⟩ : Addr).add i))) (hp : Pick L (Box b ty cs) L') (hc : cs[i]? = some v) : Det P ops N w0 L o e v :=
  w_load_box hop hw (by rw [hx, add_zero]) hp hc

theorem gw_makeN [CSlice P t el sz] [CZero P el z] [CBytes P el by_] {d n : Nat} {ty : TypeId} {pos : String} {af : Array Edge} {g : Option (Nat × Bool)} {kl kc : IntKind} {l c : Int} (hw : wantedE N ops e ⟨some d, .makeSlice t x y, ty, pos, af, g⟩ = true)
    (hx : ev N e x = .int kl l) (hy : ev N e y = .int kc c) (hl : l = (n : Int)) (hc : c = (n : Int)) (hb : by_ * n ≤ 281474976710656) (hn : n ≤ 9223372036854775807)
    (k : ∀ b, GW P ops Q N w0 (Box b el (madeCells z.cells (n * sz)) :: L) rest (upd e d (.slice (some ⟨b, 0, none⟩) n n))) : GW P ops Q N w0 L (⟨some d, .makeSlice t x y, ty, pos, af, g⟩ :: rest) e := ⟨fun w s => by
  have ht := CSlice.h (P := P) (t := t) (el := el) (sz := sz)
  have hz := CZero.h (P := P) (t := el) (z := z)
  have hby := CBytes.h (P := P) (t := el) (n := by_)
  unfold sliceSz at ht
  split at ht
  · rename_i el' hu
    obtain ⟨i, hinfo, heq⟩ := Option.map_eq_some_iff.1 ht
    injection heq with h1 h2
    subst h1 h2 hl hc
    obtain ⟨i', hi', hzi⟩ := Option.bind_eq_some_iff.1 hz
    rw [hinfo] at hi'
    injection hi' with hi'
    subst hi'
    unfold bytesB at hby
    rw [hinfo] at hby
    have hby' : i.bytes = by_ := by simpa using hby
    subst hby'
    have hr := run_make (P := P) w t el' i z hu hinfo hzi kl kc n n (by omega) (by omega) (by
      have : ((i.bytes * n : Nat) : Int) ≤ 281474976710656 := by omega
      rwa [Int.natCast_mul] at this) (by omega)
    simp only [Int.toNat_natCast] at hr
    refine wl_run (w' := w.alloc (.cells (madeCells z.cells (n * i.size)) el')) hw ?_ ((k w.heap.size).h _ (s.box el' _))
    unfold execOp
    simp [hx, hy, hr]
  · cases ht⟩
theorem made1 {n : Nat} (hsz : z.cells.size = 1) : madeCells z.cells (n * 1) = Array.replicate n (z.cells.getD 0 undef) := by
  rw [Nat.mul_one]
  unfold madeCells
  apply Array.ext
  · simp
  · intro j h3 h4
    simp at h3
    simp [hsz, Nat.mod_one]
theorem gw_make1 [CSlice P t el 1] [CZero P el z] [CBytes P el by_] {d n : Nat} {ty : TypeId} {pos : String} {af : Array Edge} {g : Option (Nat × Bool)} {kl kc : IntKind} {l c : Int} (hw : wantedE N ops e ⟨some d, .makeSlice t x y, ty, pos, af, g⟩ = true)
    (hx : ev N e x = .int kl l) (hy : ev N e y = .int kc c) (hl : l = (n : Int)) (hc : c = (n : Int)) (hb : by_ * n ≤ 281474976710656) (hn : n ≤ 9223372036854775807) (hsz : z.cells.size = 1)
    (k : ∀ b, GW P ops Q N w0 (Box b el (Array.replicate n (z.cells.getD 0 undef)) :: L) rest (upd e d (.slice (some ⟨b, 0, none⟩) n n))) : GW P ops Q N w0 L (⟨some d, .makeSlice t x y, ty, pos, af, g⟩ :: rest) e :=
  gw_makeN hw hx hy hl hc hb hn fun b => by rw [made1 hsz]; exact k b

/-! ### Slices that grow: rows of the function's own -/
def Own (A : Option Addr) (n c : Nat) (el : TypeId) (sz : Nat) (xs : List Value) : Res :=
  ⟨fun b => (Value.slice A n c).ownBlock = some b, fun w => w.ownsRow 0 el sz (.slice A n c) n xs, fun w w' h hp => by
    obtain ⟨h1, h2⟩ := hp
    refine ⟨h1, ?_⟩
    rcases h2 with h2 | ⟨g, cap, cur, hv, hg, hh, r⟩
    · exact Or.inl h2
    · refine Or.inr ⟨g, cap, cur, hv, hg, ?_, r⟩
      rw [← hh]
      exact h g (by rw [hv]; rfl)⟩

theorem own_form {A : Option Addr} {n c : Nat} {el : TypeId} {sz : Nat} {xs : List Value} {w : World} (h : (Own A n c el sz xs).p w) : xs.length = n * sz := h.1

/-- A slice that holds nothing is owned by whoever wants it. -/
theorem gw_own0 (el : TypeId) (sz : Nat) (k : GW P ops Q N w0 (Own none 0 0 el sz [] :: L) rest e) : GW P ops Q N w0 L rest e := ⟨fun w s =>
  k.h w (s.add (Ext.refl w) (World.ownsRow_nil w 0 el sz) fun b hb => by simp [Own, Value.ownBlock] at hb)⟩
theorem gc_own0 (el : TypeId) (sz : Nat) {c : Code} (k : GC P Q N w0 (Own none 0 0 el sz [] :: L) c e) : GC P Q N w0 L c e := ⟨fun w s =>
  k.h w (s.add (Ext.refl w) (World.ownsRow_nil w 0 el sz) fun b hb => by simp [Own, Value.ownBlock] at hb)⟩

/-- append(s, x...): s a row of the function's own, x whatever slice, read by a list of cells. -/
theorem gw_append [CSlice P t el sz] [CZero P el z] [CBytes P el by_] {d n c m c' : Nat} {A B : Option Addr} {ty : TypeId} {pos : String} {af : Array Edge} {g : Option (Nat × Bool)} {xs news : List Value}
    (hw : wantedE N ops e ⟨some d, .call { callee := .builtin .append, args := #[x, y], argTypes := #[t, t] }, ty, pos, af, g⟩ = true) (hx : ev N e x = .slice A n c) (hy : ev N e y = .slice B m c')
    (hp : Pick L (Own A n c el sz xs) L') (hl : news.length = m * sz) (hB : ∀ w, St w0 L w → 0 < m → ∃ ad, B = some ad ∧ ∀ j u, news[j]? = some u → w.cell? (ad.add j) = some u) (h1 : ∀ u ∈ news, u.oneCell' = true)
    (h63 : n + m ≤ maxLen) (hbytes : (n + m) * by_ ≤ 140737488355328) (hsz : 0 < sz) (hzs : z.cells.size = sz)
    (k : ∀ A' c'', GW P ops Q N w0 (Own A' (n + m) c'' el sz (xs ++ news) :: L') rest (upd e d (.slice A' (n + m) c''))) :
    GW P ops Q N w0 L (⟨some d, .call { callee := .builtin .append, args := #[x, y], argTypes := #[t, t] }, ty, pos, af, g⟩ :: rest) e := ⟨fun w s => by
  have ht := CSlice.h (P := P) (t := t) (el := el) (sz := sz)
  have hz := CZero.h (P := P) (t := el) (z := z)
  have hby := CBytes.h (P := P) (t := el) (n := by_)
  unfold sliceSz at ht
  split at ht
  · rename_i el' hu
    obtain ⟨i, hinfo, heq⟩ := Option.map_eq_some_iff.1 ht
    injection heq with e1 e2
    subst e1 e2
    obtain ⟨i', hi', hzi⟩ := Option.bind_eq_some_iff.1 hz
    rw [hinfo] at hi'
    injection hi' with hi'
    subst hi'
    unfold bytesB at hby
    rw [hinfo] at hby
    have hby' : i.bytes = by_ := by simpa using hby
    subst hby'
    have s1 := s.pick hp
    have hown : w.ownsRow 0 el' i.size (.slice A n c) n xs := s1.head
    have hrun : ∃ v' w', (Builtin.append_ #[t, t] ty #[.slice A n c, .slice B m c']).run P w = .ok v' w' ∧ w'.ownsRow 0 el' i.size v' (n + m) (xs ++ news) ∧ w.grownBy w' (Value.slice A n c).ownBlock ∧
        (v'.ownBlock = (Value.slice A n c).ownBlock ∨ v'.ownBlock = some w.heap.size) := by
      rcases Nat.eq_zero_or_pos m with h0 | h0
      · subst h0
        have hn : news = [] := List.eq_nil_of_length_eq_zero (by simpa using hl)
        subst hn
        refine ⟨.slice A n c, w, ?_, by simpa using hown, ⟨rfl, rfl, rfl, Nat.le_refl _, fun _ _ _ => rfl⟩, .inl rfl⟩
        rcases hown.2 with ⟨hv, rfl⟩ | ⟨g', cap, cur, hv, _, _, hnc, _⟩
        · injection hv with ha hn hc
          subst ha hc
          cases B <;> simp [Builtin.append_, run_underlying hu, sizeOf, typeInfo, hinfo, Builtin.lenOf, Builtin.firstCells, loadCells, loadCellsFrom]
        · injection hv with ha hn hc
          subst ha hc
          cases B <;> simp [Builtin.append_, run_underlying hu, sizeOf, typeInfo, hinfo, Builtin.lenOf, Builtin.firstCells, hnc, storeCells, loadCells, loadCellsFrom]
      · obtain ⟨ad, rfl, hcells⟩ := hB w s h0
        obtain ⟨v', w', hr, h2, h3, _, h5⟩ := run_append_own_at (P := P) w 0 t ty el' i z i.size i.bytes hu hinfo hzi rfl rfl hzs hsz (.slice A n c) n xs hown ad m c' news hl hcells h1 h63 hbytes (Nat.zero_le _)
        exact ⟨v', w', hr, h2, h3, h5⟩
    obtain ⟨v', w', hr, h2, h3, h4⟩ := hrun
    obtain ⟨A', c'', rfl⟩ : ∃ A' c'', v' = .slice A' (n + m) c'' := by
      rcases h2.2 with ⟨hv, h0⟩ | ⟨g', cap, cur, hv, _⟩
      · exact ⟨none, 0, by rw [hv, h0]⟩
      · exact ⟨_, _, hv⟩
    refine wl_run (w' := w') hw ?_ ((k A' c'').h _ (s1.turn (r' := Own A' (n + m) c'' el' i.size (xs ++ news)) h3.size h3.os h3.tape h3.output (fun b hb hnb => h3.block b hb fun he => hnb he.symm) h2 fun b hb => ?_))
    · unfold execOp
      simp [hx, hy, resolve, invoke, builtin, hr]
    · have hb' : (Value.slice A' (n + m) c'').ownBlock = some b := hb
      rcases h4 with h4 | h4
      · exact .inl (h4.symm.trans hb')
      · rw [h4] at hb'
        injection hb' with hb'
        subst hb'
        exact .inr ⟨Nat.le_refl _, (h2.lt _ h4).2⟩
  · cases ht⟩

/-! ### Literals -/
theorem fold_fill : ∀ (l : List Value) (k : Nat) (cs : Array Value), k + l.length ≤ cs.size →
    (((l.zipIdx k).foldl (fun cs (q : Value × Nat) => cs.setIfInBounds q.2 q.1) cs).toList) = cs.toList.take k ++ l ++ cs.toList.drop (k + l.length)
  | [], k, cs, _ => by simp
  | x :: l, k, cs, h => by
    simp only [List.length_cons] at h
    rw [List.zipIdx_cons, List.foldl_cons, fold_fill l (k + 1) _ (by simp; omega), Array.toList_setIfInBounds]
    have hk : k < cs.toList.length := by simp; omega
    rw [List.take_succ_eq_append_getElem (by simpa using hk)]
    simp only [List.getElem_set_self, List.length_cons]
    rw [List.take_set_of_le (Nat.le_refl k), List.drop_set_of_lt (by omega), show k + 1 + l.length = k + (l.length + 1) from by omega]
    simp

theorem fill_one {cs : Array Value} {n : Nat} (hcs : cs.size = n) (hv : v.cells.size = n) : Instr.fill (fun j => some (j * n, n)) cs [(0, v)] = some v.cells := by
  unfold Instr.fill
  simp only [hv, hcs, Nat.zero_mul, Nat.zero_add]
  have h := fold_fill v.cells.toList 0 cs (by simp; omega)
  have h2 : (Array.foldl (fun cs (x : Value × Nat) => cs.setIfInBounds x.2 x.1) cs v.cells.zipIdx) = v.cells := by
    rw [← Array.foldl_toList]
    apply Array.ext'
    rw [Array.toList_zipIdx, h]
    have : cs.toList.drop (0 + v.cells.toList.length) = [] := List.drop_eq_nil_of_le (by simp; omega)
    rw [this]
    simp
  simp [Instr.fill]
  simpa [hv] using h2

/-- x = []T{v}: one element. -/
theorem gw_bslice1 [CSlice P t el sz] [CZero P el z] {d : Nat} {q : Operand} {ty : TypeId} {pos : String} {af : Array Edge} {g : Option (Nat × Bool)} (hw : wantedE N ops e ⟨some d, .buildSlice t 1 #[(0, q)], ty, pos, af, g⟩ = true) (hq : ev N e q = v)
    (hv : v.cells.size = sz) (hsz : Nat.ble sz 1000 = true) (hpos : Nat.blt 0 sz = true) (k : ∀ b, GW P ops Q N w0 (Box b el v.cells :: L) rest (upd e d (.slice (some ⟨b, 0, none⟩) 1 1))) : GW P ops Q N w0 L (⟨some d, .buildSlice t 1 #[(0, q)], ty, pos, af, g⟩ :: rest) e := ⟨fun w s => by
  have ht := CSlice.h (P := P) (t := t) (el := el) (sz := sz)
  have hz := CZero.h (P := P) (t := el) (z := z)
  unfold sliceSz at ht
  split at ht
  · rename_i el' hu
    obtain ⟨i, hinfo, heq⟩ := Option.map_eq_some_iff.1 ht
    injection heq with e1 e2
    subst e1 e2
    obtain ⟨i', hi', hzi⟩ := Option.bind_eq_some_iff.1 hz
    rw [hinfo] at hi'
    injection hi' with hi'
    subst hi'
    have hle := Nat.le_of_ble_eq_true hsz
    have hp : 0 < i.size := by rw [Nat.blt_eq] at hpos; exact hpos
    have hr := run_buildSlice (P := P) w t el' 1 #[(0, v)] v.cells i z hu hinfo hzi (by omega) (by omega) (fill_one (by simp) hv)
    refine wl_run (w' := w.alloc (.cells v.cells el')) hw ?_ ((k w.heap.size).h _ (s.box el' _))
    unfold execOp
    simp [hq, hr]
  · cases ht⟩
theorem gw_bslice [CSlice P t el sz] [CZero P el z] {d len : Nat} {parts : Array (Nat × Operand)} {cells : Array Value} {ty : TypeId} {pos : String} {af : Array Edge} {g : Option (Nat × Bool)} (hw : wantedE N ops e ⟨some d, .buildSlice t len parts, ty, pos, af, g⟩ = true)
    (hsz : Nat.ble (len * sz) 100000 = true) (hpos : Nat.blt 0 (len * sz) = true) (hf : Instr.fill (fun i => some (i * sz, sz)) ((Array.range (len * sz)).map (z.cells[· % z.cells.size]!)) (parts.toList.map fun q => (q.1, ev N e q.2)) = some cells)
    (k : ∀ b, GW P ops Q N w0 (Box b el cells :: L) rest (upd e d (.slice (some ⟨b, 0, none⟩) len len))) : GW P ops Q N w0 L (⟨some d, .buildSlice t len parts, ty, pos, af, g⟩ :: rest) e := ⟨fun w s => by
  have ht := CSlice.h (P := P) (t := t) (el := el) (sz := sz)
  have hz := CZero.h (P := P) (t := el) (z := z)
  unfold sliceSz at ht
  split at ht
  · rename_i el' hu
    obtain ⟨i, hinfo, heq⟩ := Option.map_eq_some_iff.1 ht
    injection heq with e1 e2
    subst e1 e2
    obtain ⟨i', hi', hzi⟩ := Option.bind_eq_some_iff.1 hz
    rw [hinfo] at hi'
    injection hi' with hi'
    subst hi'
    have hle := Nat.le_of_ble_eq_true hsz
    have hp : 0 < len * i.size := by rw [Nat.blt_eq] at hpos; exact hpos
    have hparts : (parts.map fun q => (q.1, ev N e q.2)).toList = parts.toList.map fun q => (q.1, ev N e q.2) := by simp
    have hr := run_buildSlice (P := P) w t el' len (parts.map fun q => (q.1, ev N e q.2)) cells i z hu hinfo hzi (by omega) (by omega) (by rw [hparts]; exact hf)
    refine wl_run (w' := w.alloc (.cells cells el')) hw ?_ ((k w.heap.size).h _ (s.box el' _))
    unfold execOp
    simp [hr]
  · cases ht⟩
/-- T{..}: a struct. -/
theorem w_build [CPlaces P t ps] [CZero P t z] {parts : Array (Nat × Operand)} {cells : Array Value} (hop : o.op = .build t parts) (hw : wantedE N ops e o = true)
    (hf : Instr.fill (fun i => ps[i]?) z.cells (parts.toList.map fun q => (q.1, ev N e q.2)) = some cells) : Det P ops N w0 L o e (.agg cells) :=
  det_pure hw fun w => by
    have ht := CPlaces.h (P := P) (t := t) (ps := ps)
    have hz := CZero.h (P := P) (t := t) (z := z)
    unfold placesB at ht
    split at ht
    · rename_i fs hu
      obtain ⟨i, hi, hzi⟩ := Option.bind_eq_some_iff.1 hz
      have hparts : (parts.map fun q => (q.1, ev N e q.2)).toList = parts.toList.map fun q => (q.1, ev N e q.2) := by simp
      have hr := run_build (P := P) w t (parts.map fun q => (q.1, ev N e q.2)) cells (by
        unfold Program.built
        simp only [hi, hu, hzi, ht, hparts]
        rw [← hf]
        congr 1
        funext j
        simp)
      unfold execOp
      simp [hop, hr]
    · cases ht
end
end Go.Proofs.YteiboodeepjanaaGreat
