/- Two functions of Go's library that ask for nil or for a capacity: slices.Clone, slices.Grow (of a nil slice). Their code, and what it does. -/
import Derived.Test.YtjejefeomeddhaaGreatEngMap
import Derived.Tactics
set_option linter.unusedVariables false
set_option linter.unusedSimpArgs false
variable [Go.Eng.Rho]
set_option linter.unusedSectionVars false
namespace Go.Eng
open Go Go.RowKit
def cloneCode (T : TypeId) : Code :=
  ((Go.Code.region 0 #[{ dst := some 2, op := Go.Op.assign (Go.Operand.const (Go.Value.slice none 0 0)), type := T, pos := "slices.go:355", after := #[], guard := none }] false).seq
    (((Go.Code.region 1
          #[{ dst := some 3, op := Go.Op.move (Go.Operand.tmp 0), type := T, pos := "slices.go:357", after := #[], guard := none },
            { dst := some 4, op := Go.Op.binOp Go.BinOp.eql T (Go.Operand.tmp 3) (Go.Operand.const (Go.Value.slice none 0 0)) T, type := 4, pos := "slices.go:357", after := #[{ on := 0, ground := Go.Ground.data }], guard := none }]
          false).seq
        (Go.Code.cond (Go.Operand.tmp 4)
          ((Go.Code.region 2 #[{ dst := some 2, op := Go.Op.assign (Go.Operand.const (Go.Value.slice none 0 0)), type := T, pos := "slices.go:358", after := #[], guard := none }] false).seq Go.Code.ret)
          Go.Code.skip)).seq
      ((Go.Code.region 3
          #[{ dst := some 5, op := Go.Op.buildSlice T 0 #[], type := T, pos := "slices.go:362", after := #[], guard := none },
            { dst := some 6, op := Go.Op.move (Go.Operand.tmp 0), type := T, pos := "slices.go:362", after := #[], guard := none },
            { dst := some 7, op := Go.Op.call { callee := Go.Callee.builtin Go.Builtin.append, args := #[Go.Operand.tmp 5, Go.Operand.tmp 6], argTypes := #[T, T] }, type := T, pos := "slices.go:362",
              after := #[{ on := 0, ground := Go.Ground.data }, { on := 1, ground := Go.Ground.data }], guard := none },
            { dst := some 2, op := Go.Op.assign (Go.Operand.tmp 7), type := T, pos := "slices.go:362",
              after := #[{ on := 2, ground := Go.Ground.data }, { on := 2, ground := Go.Ground.chain }, { on := 0, ground := Go.Ground.phase }, { on := 1, ground := Go.Ground.phase }, { on := 2, ground := Go.Ground.phase }], guard := none }]
          false).seq
        Go.Code.ret)))
structure IsClone (P : Program) (f T : Nat) : Prop where
  fn : ∃ fn, P.funcs[f]? = some fn ∧ fn.body = some (cloneCode T) ∧ fn.ntmps = 8 ∧ fn.results = #[.tmp 2] ∧ (fn.name == "runtime.NumGoroutine") = false
section
variable {P : Program}
theorem callFunc_enter {f : Nat} {fn : Func} {args : Array Value} {w : World} (hf : P.funcs[f]? = some fn) (hb : fn.body.isSome = true) (hn : (fn.name == "runtime.NumGoroutine") = false) : (callFunc f args).run P w = .ok (.enter f args) w := by
  have hb' : fn.body.isNone = false := by
    simp_all
  simp only [callFunc, Sem.run_bind, run_program, Result.andThen_ok, hf, hn, Bool.false_eq_true, if_false, hb']
  rfl
theorem wpOps_one {ops : Array Oper} {Q : Exit → Act → World → Prop} {i : Nat} {rest : List Nat} {o : Oper} {a : Act} {w : World} (ho : ops[i]? = some o) (hg : o.guard = none) (h : o.wp P a w (wpOps P ops Q rest) Q) : wpOps P ops Q (i :: rest) a w := by
  simp [wpOps, ho]
  have : Region.wanted o (yielded ops a.tmps) = true := by simp [Region.wanted, hg]
  grind
theorem wp_val {o : Oper} {a : Act} {w w' : World} {v : Value} {K : Act → World → Prop} {Q : Exit → Act → World → Prop} (hr : (execOp a.eval o).run P w = .ok (.value v) w') (h : K (a.put o.dst v) w') : o.wp P a w K Q := by
  unfold Oper.wp
  rw [hr]
  exact h
theorem eql_nil {T e : TypeId} {ad : Option Addr} {n c : Nat} {w : World} (hT : P.underlying T = some (.slice e)) : (binOp .eql T (.slice ad n c) (.slice none 0 0)).run P w = .ok (.bool ad.isNone) w := by
  have h : ∀ d, (Op.equalIn (d + 1) T (.slice ad n c) (.slice none 0 0)).run P w = .ok ad.isNone w := fun d => by
    cases ad <;> simp [Op.equalIn, run_underlying hT]
  have h9 : (Op.equal T (.slice ad n c) (.slice none 0 0)).run P w = .ok ad.isNone w := h 9999
  simp [binOp, h9]
variable {X : Cx} {nvi : Nat}
theorem then_ret {next : Act → World → Prop} {Q : Exit → Act → World → Prop} {a : Act} {w : World} (h : Q .ret a w) : Exit.then next Q .ret a w := h
theorem clone_calls {f T e : TypeId} {i : TypeInfo} {z : Value} {s : St} {x : AV} {xv : Value} {row : Bool} {lv sl n : Nat} {E : Eff} (hc : IsClone P f T) (h : MemOK X s.mem s.tips) (hfr : X.ρ nvi = none) (hT : P.underlying T = some (.slice e)) (hi : P.info? e = some i) (hz : i.zero = some z) (hzs : z.cells.size = i.size) (h0 : 0 < i.size)
    (hx : VR X x xv) (hsl : ∃ ad m c, xv = .slice ad m c) (hr : appendA s row lv sl nvi i.size i.bytes (.own [] .full) x = some E) :
    Calls P f #[xv] X.w fun en w' => ∃ Y v, en = .returned v ∧ Y.w = w' ∧ Ext X Y ∧ VR Y E.val v ∧ MemOK Y (applyUpd s.mem E.upd) (applyTip s.tips E.tip) ∧ DomOK X Y nvi n n := by
  obtain ⟨fn, hf, hb, hnt, hres, _⟩ := hc
  obtain ⟨ad, m, c, rfl⟩ := hsl
  have hnI : notInt P T := .inl ⟨e, hT⟩
  refine calls_of_wp hf hb ?_
  rw [hnt]
  have e0 : (#[Value.slice ad m c] ++ Array.replicate (8 - (#[Value.slice ad m c] : Array Value).size) undef) = #[.slice ad m c, undef, undef, undef, undef, undef, undef, undef] := rfl
  rw [e0]
  unfold cloneCode
  refine wp_seq (wp_region ?_)
  refine wpOps_one rfl rfl (wp_val (v := .slice none 0 0) (w' := X.w) rfl ?_)
  show Code.wp P _ _ _ _
  refine wp_seq (wp_seq (wp_region ?_))
  refine wpOps_one rfl rfl (wp_val (v := .slice ad m c) (w' := X.w) rfl ?_)
  refine wpOps_one rfl rfl (wp_val (v := .bool ad.isNone) (w' := X.w) ?_ ?_)
  · have hg : (eqGuard .eql T (.tmp 3) (.const (.slice none 0 0)) (.slice ad m c) (.slice none 0 0)).run P X.w = .ok () X.w := eqGuard_plain (by simp) (by simp)
    have he := eql_nil (P := P) (n := m) (c := c) (ad := ad) (w := X.w) hT
    simp [execOp, Act.eval, Act.put, hg, he]
  show Code.wp P _ _ _ _
  cases ad with
  | none =>
    refine wp_cond_true rfl ?_
    refine wp_seq (wp_region ?_)
    refine wpOps_one rfl rfl (wp_val (v := .slice none 0 0) (w' := X.w) rfl ?_)
    show Code.wp P _ _ _ _
    refine wp_ret ?_
    refine then_ret ?_
    refine bodyPost_ret (results_tmp hres _ _ _) rfl ?_
    have hrun : ∃ Y v, (Builtin.append_ #[T, T] T #[.slice none 0 0, .slice none m c]).run P X.w = .ok v Y.w ∧ Ext X Y ∧ VR Y E.val v ∧ MemOK Y (applyUpd s.mem E.upd) (applyTip s.tips E.tip) ∧ DomOK X Y nvi n n :=
      append_core (x := .own [] .full) h hfr hT hnI hi hz hzs h0 ⟨none, 0, 0, 0, rfl, fun h => absurd h (by simp), Lies.nil⟩ hx hr
    obtain ⟨Y, v, h1, h2, h3, h4, h5⟩ := hrun
    have hm0 : m = 0 := by
      unfold appendA at hr
      cases hn : newsOf s.mem x with
      | none => rw [hn] at hr; cases hr
      | some news =>
        have := (news_ok (P := P) (sz := i.size) h hn hx (by
          rw [hn] at hr
          simp only at hr
          split at hr
          · rename_i hal; exact all_len hal
          · cases hr) h0)
        obtain ⟨vs, hd, hl, hfc⟩ := this
        have hl' := hl X.w
        simp only [Builtin.lenOf, Sem.run_pure] at hl'
        injection hl' with hl'
        have hnl : ∀ e ∈ news, e.length = i.size := by
          rw [hn] at hr
          simp only at hr
          split at hr
          · rename_i hal; exact all_len hal
          · cases hr
        have := hfc X.w (fun _ _ => rfl) news.length (Nat.le_refl _)
        simp only [Builtin.firstCells, Sem.run_pure] at this
        injection this with this
        have hvl : vs.length = news.length * i.size := by rw [← hd.length, flatten_length hnl]
        rw [← hvl, List.take_length] at this
        have h00 : vs.length = 0 := by
          have := congrArg Array.size this
          simpa using this.symm
        rw [h00] at hvl
        rcases Nat.mul_eq_zero.1 hvl.symm with h | h
        · omega
        · omega
    subst hm0
    have hr0 : (Builtin.append_ #[T, T] T #[.slice none 0 0, .slice none 0 c]).run P X.w = .ok (.slice none 0 0) X.w := by
      have := append_room (P := P) (t := T) (u := T) (ty := T) (w := X.w) (ad := none) (n := 0) (cap := 0) (m := 0) (y := .slice none 0 c) (new := []) hT (.val hnI rfl (by simp [Builtin.firstCells]) (by simp [Builtin.firstCells])) hi (by omega)
      exact this
    rw [hr0] at h1
    injection h1 with h1 h1'
    subst h1
    exact ⟨Y, _, by simp [Act.put], h1'.symm, h2, h3, h4, h5⟩
  | some ad =>
    refine wp_cond_false rfl ?_
    refine wp_skip ?_
    show Code.wp P _ _ _ _
    refine wp_seq (wp_region ?_)
    let X1 := X.alloc #[] e nvi ⟨0, 0, i.size, 0⟩
    let X1' : Cx := { X with w := X.w.alloc (.cells #[] e) }
    have hx1 : Ext X X1' := ⟨rfl, (Stays.refl _ _).alloc h.low _, fun _ _ h => h, fun b o hb => cell_alloc (h.inF b o hb), fun _ _ h => h, fun _ _ h => .inl h⟩
    have hm1 : MemOK X1' s.mem s.tips := h.move hx1 (fun k u M hk hu hc => by
      obtain ⟨M', hM', h2⟩ := h.holds_ρ hk
      rw [hu] at hM'; injection hM' with hM'; subst hM'
      exact heap_alloc_old _ _ _ (h2 hc).1) (fun _ _ _ _ _ _ _ h => h) fun b o hb => by
        have := h.inF b o hb
        show b < (X.w.alloc _).heap.size
        rw [World.size_alloc]; omega
    refine wpOps_one rfl rfl (wp_val (v := .slice (some ⟨X.w.heap.size, 0, none⟩) 0 0) (w' := X1'.w) ?_ ?_)
    · have e0 : Array.range 0 = #[] := rfl
      simp [execOp, Instr.buildSlice, run_underlying hT, sizeOf, typeInfo, hi, newRow, e0, Instr.fill, X1']
    refine wpOps_one rfl rfl (wp_val (v := .slice (some ad) m c) (w' := X1'.w) rfl ?_)
    obtain ⟨Y, v, h1, h2, h3, h4, h5⟩ := append_core (P := P) (X := X1') (t := T) (u := T) (ty := T) (n := n) (xv := .slice (some ⟨X.w.heap.size, 0, none⟩) 0 0) (x := .own [] .full) hm1 hfr hT hnI hi hz hzs h0 ⟨some ⟨X.w.heap.size, 0, none⟩, 0, 0, 0, rfl, fun h => absurd h (by simp), Lies.nil⟩ (hx.ext hx1) hr
    refine wpOps_one rfl rfl (wp_val (v := v) (w' := Y.w) ?_ ?_)
    · simp [execOp, Act.eval, Act.put, resolve, invoke, builtin, h1]
    refine wpOps_one rfl rfl (wp_val (v := v) (w' := Y.w) rfl ?_)
    show Code.wp P _ _ _ _
    refine wp_ret ?_
    refine bodyPost_ret (results_tmp hres _ _ _) rfl ?_
    exact ⟨Y, v, by simp [Act.put], rfl, hx1.trans h2, h3, h4, h5.1, fun u M hu => h5.2 u M hu⟩
theorem cloneB_calls {f T e : TypeId} {i : TypeInfo} {z : Value} {s : St} {x : AV} {xv : Value} {lv sl n : Nat} {E : Eff} (hc : IsClone P f T) (h : MemOK X s.mem s.tips) (hfr : X.ρ nvi = none) (hT : P.underlying T = some (.slice e)) (hi : P.info? e = some i) (hz : i.zero = some z) (hzs : z.cells.size = i.size) (h0 : 0 < i.size)
    (hx : VR X x xv) (hsl : ∃ ad m c, xv = .slice (some ad) m c) (hr : appendB s lv sl nvi i.size i.bytes (.own [] .full) x = some E) :
    Calls P f #[xv] X.w fun en w' => ∃ Y v, en = .returned v ∧ Y.w = w' ∧ Ext X Y ∧ VR Y E.val v ∧ MemOK Y (applyUpd s.mem E.upd) (applyTip s.tips E.tip) ∧ DomOK X Y nvi n n := by
  obtain ⟨fn, hf, hb, hnt, hres, _⟩ := hc
  obtain ⟨ad, m, c, rfl⟩ := hsl
  have hnI : notInt P T := .inl ⟨e, hT⟩
  refine calls_of_wp hf hb ?_
  rw [hnt]
  have e0 : (#[Value.slice (some ad) m c] ++ Array.replicate (8 - (#[Value.slice (some ad) m c] : Array Value).size) undef) = #[.slice (some ad) m c, undef, undef, undef, undef, undef, undef, undef] := rfl
  rw [e0]
  unfold cloneCode
  refine wp_seq (wp_region ?_)
  refine wpOps_one rfl rfl (wp_val (v := .slice none 0 0) (w' := X.w) rfl ?_)
  show Code.wp P _ _ _ _
  refine wp_seq (wp_seq (wp_region ?_))
  refine wpOps_one rfl rfl (wp_val (v := .slice (some ad) m c) (w' := X.w) rfl ?_)
  refine wpOps_one rfl rfl (wp_val (v := .bool false) (w' := X.w) ?_ ?_)
  · have hg : (eqGuard .eql T (.tmp 3) (.const (.slice none 0 0)) (.slice (some ad) m c) (.slice none 0 0)).run P X.w = .ok () X.w := eqGuard_plain (by simp) (by simp)
    have he := eql_nil (P := P) (n := m) (c := c) (ad := some ad) (w := X.w) hT
    simp [execOp, Act.eval, Act.put, hg, he]
  show Code.wp P _ _ _ _
  refine wp_cond_false rfl ?_
  refine wp_skip ?_
  show Code.wp P _ _ _ _
  refine wp_seq (wp_region ?_)
  let X1 := X.alloc #[] e nvi ⟨0, 0, i.size, 0⟩
  let X1' : Cx := { X with w := X.w.alloc (.cells #[] e) }
  have hx1 : Ext X X1' := ⟨rfl, (Stays.refl _ _).alloc h.low _, fun _ _ h => h, fun b o hb => cell_alloc (h.inF b o hb), fun _ _ h => h, fun _ _ h => .inl h⟩
  have hm1 : MemOK X1' s.mem s.tips := h.move hx1 (fun k u M hk hu hc => by
    obtain ⟨M', hM', h2⟩ := h.holds_ρ hk
    rw [hu] at hM'; injection hM' with hM'; subst hM'
    exact heap_alloc_old _ _ _ (h2 hc).1) (fun _ _ _ _ _ _ _ h => h) fun b o hb => by
      have := h.inF b o hb
      show b < (X.w.alloc _).heap.size
      rw [World.size_alloc]; omega
  refine wpOps_one rfl rfl (wp_val (v := .slice (some ⟨X.w.heap.size, 0, none⟩) 0 0) (w' := X1'.w) ?_ ?_)
  · have e0 : Array.range 0 = #[] := rfl
    simp [execOp, Instr.buildSlice, run_underlying hT, sizeOf, typeInfo, hi, newRow, e0, Instr.fill, X1']
  refine wpOps_one rfl rfl (wp_val (v := .slice (some ad) m c) (w' := X1'.w) rfl ?_)
  obtain ⟨Y, v, h1, h2, h3, h4, h5⟩ := appendB_core (P := P) (X := X1') (t := T) (u := T) (ty := T) (n := n) (xv := .slice (some ⟨X.w.heap.size, 0, none⟩) 0 0) (x := .own [] .full) hm1 hfr hT hnI hi hz hzs h0 ⟨some ⟨X.w.heap.size, 0, none⟩, 0, 0, 0, rfl, fun h => absurd h (by simp), Lies.nil⟩ (hx.ext hx1) hr
  refine wpOps_one rfl rfl (wp_val (v := v) (w' := Y.w) ?_ ?_)
  · simp [execOp, Act.eval, Act.put, resolve, invoke, builtin, h1]
  refine wpOps_one rfl rfl (wp_val (v := v) (w' := Y.w) rfl ?_)
  show Code.wp P _ _ _ _
  refine wp_ret ?_
  refine bodyPost_ret (results_tmp hres _ _ _) rfl ?_
  exact ⟨Y, v, by simp [Act.put], rfl, hx1.trans h2, h3, h4, h5.1, fun u M hu => h5.2 u M hu⟩
end
end Go.Eng
