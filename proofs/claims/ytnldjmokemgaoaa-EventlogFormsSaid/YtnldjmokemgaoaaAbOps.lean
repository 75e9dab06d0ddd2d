/- Every operation that calls no function: what the abstract machine says of it holds in the model (the theorem eop_sound). -/
import Derived.Test.YtnldjmokemgaoaaAbAll
import Derived.MapKept
namespace Go.Proofs.Ytnldjmokemgaoaa
set_option linter.unusedSimpArgs false
set_option linter.unusedVariables false
set_option linter.unnecessarySimpa false
set_option linter.unusedSectionVars false
open Go.RowKit
variable [Glob]

section
variable {P : Program} {w0 w : World} {X : Nat → Prop} {φ : Nat → Option Nat} {G H : List Blk} {T : List (Nat × AV)} {a : Act}
theorem ofV_rv (v : Value) : RV P w X φ G (ofV v) v := .ro (ofV_ro _ _ v)
/-- A bound of a slice expression. -/
theorem bound_sound {d n : Int} {x : Option Operand} (h : bound T d x = some n) (hev : ∀ y, x = some y → RV P w X φ G (ev T y) (a.eval y)) : (x = none ∧ n = d) ∨ ∃ y k, x = some y ∧ a.eval y = .int k n := by
  unfold bound at h
  split at h
  · simp at h; exact .inl ⟨rfl, h.symm⟩
  · rename_i y
    split at h
    · rename_i k m hk
      simp at h; subst h
      have := hev y rfl
      rw [hk] at this
      exact .inr ⟨y, k, rfl, this.int_inv⟩
    · simp at h
theorem fold_sound (f : Int → Int → Int) (g : Value → Value → Sem Value) (hg : ∀ k x k' y, g (.int k x) (.int k' y) = pure (.int k (f x y))) : ∀ (l : List AV) (x v : AV) (us : List Value) (u : Value), foldA f x l = some v → RV P w X φ G x u → (∀ (j : Nat) y z, l[j]? = some y → us[j]? = some z → RV P w X φ G y z) → l.length = us.length →
    ∃ r, (us.foldlM g u).run P w = .ok r w ∧ RV P w X φ G v r := by
  intro l
  induction l with
  | nil =>
    intro x v us u h hx _ hl
    simp [foldA] at h
    subst h
    have : us = [] := List.eq_nil_of_length_eq_zero hl.symm
    subst this
    exact ⟨u, rfl, hx⟩
  | cons y l ih =>
    intro x v us u h hx hr hl
    cases us with
    | nil => simp at hl
    | cons z us =>
      unfold foldA at h
      split at h
      · rename_i heq; simp at heq
      · rename_i k m k' n rest heq
        simp at heq
        obtain ⟨rfl, rfl⟩ := heq
        have e1 := hx.int_inv
        have e2 := RV.int_inv (hr 0 (.int k' n) z (by simp) (by simp))
        subst e1 e2
        obtain ⟨r, h1, h2⟩ := ih _ v us _ h (.ro .int) (fun j y z h3 h4 => hr (j + 1) y z (by simpa using h3) (by simpa using h4)) (by simpa using hl)
        exact ⟨r, by simp [List.foldlM_cons, hg, h1], h2⟩
      · simp at h
theorem RV.rs_inv {rows : List (List AV)} {v : Value} (h : RV P w X φ G (.rs rows) v) : ∃ A cap, v = .slice A rows.length cap ∧ rows.length ≤ cap := by
  cases h with
  | ro h => cases h with
    | rs sz f hn hcap hA h => subst hn; exact ⟨_, _, rfl, hcap⟩
theorem args_len {args : List Operand} (hev : ∀ x ∈ args, RV P w X φ G (ev T x) (a.eval x)) : ∀ (j : Nat) y z, (args.map (ev T))[j]? = some y → (args.map a.eval)[j]? = some z → RV P w X φ G y z := by
  intro j y z h1 h2
  simp at h1 h2
  obtain ⟨x, h3, rfl⟩ := h1
  rw [h3] at h2
  simp at h2
  subst h2
  exact hev x (List.mem_of_getElem? h3)

/-- The builtin functions. -/
theorem ebi_sound {b : Builtin} {ts : Array TypeId} {args : Array Operand} {v : AV} {u : Upd} {tyc : TypeId} {cs : Array Bool} (hr : HR P w0 X w φ G) (h : ebi P ⟨T, H⟩ b ts.toList (args.toList.map (ev T)) = some (v, u))
    (hev : ∀ x ∈ args.toList, RV P w X φ G (ev T x) (a.eval x)) (hG : (b ≠ .min ∧ b ≠ .max) → ∀ (id : Nat) b, H[id]? = some b → G[id]? = some b) (hnew : ∀ b, u = .new b → G[H.length]? = some b ∧ φ H.length = none) :
    Eff P w0 X φ G w u H.length v ((Go.builtin b ts tyc cs (args.map a.eval)).run P w) := by
  obtain ⟨args⟩ := args
  obtain ⟨ts⟩ := ts
  simp only [List.map_toArray] at *
  unfold ebi at h
  split at h
  · -- len
    rename_i t x hargs
    obtain ⟨y, rfl, rfl⟩ : ∃ y, args = [y] ∧ ev T y = x := by
      cases args with
      | nil => simp at hargs
      | cons y l => cases l with
        | nil => simp at hargs; exact ⟨y, rfl, hargs⟩
        | cons => simp at hargs
    have hy := hev y (by simp)
    have hG := hG ⟨by simp, by simp⟩
    split at h
    · rename_i i hi
      split at h
      · rename_i id n hx
        split at h
        · rename_i e nb rows hb
          split at h
          · rename_i hc
            simp at h
            obtain ⟨rfl, rfl⟩ := h
            rw [hx] at hy
            have hu := ty_sl hi hc.2
            cases hy with
            | ro h => cases h
            | os g0 hid hv =>
              rcases (hv e nb rows (hG id _ hb)).2 hc.1.symm with ⟨_, _, h2, h3⟩ | ⟨c, cap, cur, h4, h5, _⟩
              · obtain ⟨A, h2⟩ := h2
                exact eff_pure hr (by simp [Go.builtin, Builtin.len_, h2, run_underlying hu, goInt]; rfl) (by rw [h3]; exact .ro .int)
              · exact eff_pure hr (by simp [Go.builtin, Builtin.len_, h5, run_underlying hu, goInt]) (.ro .int)
          · simp at h
        · simp at h
      · rename_i rows hx
        split at h
        · rename_i hc
          simp at h
          obtain ⟨rfl, rfl⟩ := h
          rw [hx] at hy
          have hu := ty_sl hi hc
          obtain ⟨A, cap, he, _⟩ := hy.rs_inv
          exact eff_pure hr (by simp [Go.builtin, Builtin.len_, he, run_underlying hu, goInt]) (.ro .int)
        · simp at h
      · rename_i hx
        split at h
        · rename_i hc
          simp at h
          obtain ⟨rfl, rfl⟩ := h
          rw [hx] at hy
          have hu := ty_sl hi hc
          have h2 := hy.nils_inv
          exact eff_pure hr (by simp [Go.builtin, Builtin.len_, h2, run_underlying hu, goInt]) (.ro .int)
        · simp at h
      · rename_i hx
        split at h
        · rename_i hc
          simp at h
          obtain ⟨rfl, rfl⟩ := h
          rw [hx] at hy
          have hu := ty_sl hi hc
          obtain ⟨A, h2⟩ := hy.nilc_inv
          exact eff_pure hr (by simp [Go.builtin, Builtin.len_, h2, run_underlying hu, goInt]) (.ro .int)
        · simp at h
      · rename_i s hx
        split at h
        · rename_i hc
          simp at h
          obtain ⟨rfl, rfl⟩ := h
          rw [hx] at hy
          have hu := ty_str hi hc
          exact eff_pure hr (by simp [Go.builtin, Builtin.len_, hy.str_inv, run_underlying hu, goInt]) (.ro .int)
        · simp at h
      · rename_i id hx
        split at h
        · rename_i es hb
          split at h
          · rename_i hc
            simp at h
            obtain ⟨rfl, rfl⟩ := h
            rw [hx] at hy
            obtain ⟨m, hm⟩ := Option.isSome_iff_exists.1 hc
            have hu : ∃ kt et, P.underlying t = some (.map kt et) := by
              unfold mapTy at hm
              split at hm
              · exact ⟨_, _, by assumption⟩
              · simp at hm
            obtain ⟨kt, et, hu⟩ := hu
            cases hy with
            | ro h => cases h
            | mp g0 hid hv =>
              obtain ⟨c, hc, hv'⟩ := hv es (hG id _ hb)
              obtain ⟨ents, clock, q1, q2, _⟩ := hr.blk id _ c (hG id _ hb) hc
              exact eff_pure hr (by simp [Go.builtin, Builtin.len_, hv', run_underlying hu, goInt, Go.MapKept.run_getObj_map q1, q2]) (.ro .int)
          · simp at h
        · simp at h
      · simp at h
    · simp at h
  · -- append
    rename_i t t' x y hargs
    obtain ⟨xo, yo, rfl, rfl, rfl⟩ : ∃ xo yo, args = [xo, yo] ∧ ev T xo = x ∧ ev T yo = y := by
      cases args with
      | nil => simp at hargs
      | cons xo l => cases l with
        | nil => simp at hargs
        | cons yo l => cases l with
          | nil => simp at hargs; exact ⟨xo, yo, rfl, hargs.1, hargs.2⟩
          | cons => simp at hargs
    have hx := hev xo (by simp)
    have hy := hev yo (by simp)
    have hG := hG ⟨by simp, by simp⟩
    split at h
    · rename_i i hi
      split at h
      · rename_i hsl
        have hu := ty_sl hi hsl
        split at h
        · rename_i te he
          split at h
          · rename_i ys hys
            have hS : Src P w X φ G t t' i.elem te (a.eval yo) ys := by
              unfold srcE at hys
              split at hys
              · rename_i e; subst e; exact src_slice hr hu he (elems_mono hG hys) hy
              · split at hys
                · rename_i b hb
                  split at hys
                  · rename_i is his
                    split at hys
                    · rename_i hc
                      simp at hys
                      subst hys
                      rw [hb] at hy
                      rw [hy.str_inv]
                      exact src_str hu (ty_str his hc.1) he hc.2.2
                    · simp at hys
                  · simp at hys
                · simp at hys
            have hal := hS.al
            obtain ⟨inf, z, d, pl, es, hinf, _, hz, hzs, hpos, _, hby, _, hte⟩ := (ty_is he).ex
            have hpre : ∀ r, (Builtin.append_ #[t, t'] tyc #[a.eval xo, a.eval yo]).run P w = r → (Go.builtin .append ⟨[t, t']⟩ tyc cs (List.map a.eval [xo, yo]).toArray).run P w = r.andThen fun v w' => .ok (.value v) w' := fun r hr => by
              simp [Go.builtin, hr]
            have hnone : ys = [] → ∀ A' n' cap', a.eval xo = .slice A' n' cap' → (n' ≤ cap') → (∀ b, A' = some b → True) → (Builtin.append_ #[t, t'] tyc #[a.eval xo, a.eval yo]).run P w = .ok (.slice A' n' cap') w := fun h0 A' n' cap' hxv hle _ => by
              rw [hxv]; exact hS.non h0 tyc A' n' cap' hle
            split at h
            · rename_i hxe
              have hx : RV P w X φ G .nils (a.eval xo) := by rw [← hxe]; exact hx
              split at h
              · rename_i hem
                simp at h
                obtain ⟨rfl, rfl⟩ := h
                have h0 : ys = [] := by simpa using hem
                exact eff_pure hr (hpre _ (hnone h0 none 0 0 hx.nils_inv (Nat.le_refl _) (fun _ _ => trivial))) (.ro .nils)
              · rename_i hem
                split at h
                · rename_i hle
                  simp at h
                  obtain ⟨rfl, rfl⟩ := h
                  obtain ⟨hb, hφ⟩ := hnew _ rfl
                  have hpos' : 0 < ys.length := by cases ys with | nil => simp at hem | cons => simp
                  have hce : P.cellsOf i.elem = te.sz := ty_cells he
                  have hsz : te.sz = inf.size := by rw [hte, descTy_sz]
                  obtain ⟨vs, v1, v3, v4, _, hruns⟩ := hS.som fun e => by subst e; simp at hpos'
                  obtain ⟨A0, hxA⟩ : ∃ A, a.eval xo = .slice A 0 0 := ⟨none, hx.nils_inv⟩
                  have hrun := hruns tyc A0 z (by rw [hinf]; exact hz) hle
                  have hge := grownCap_ge w ys.length 0 i.elem
                  have hE := newRow_sound (P := P) (nid := H.length) (hr_drew hr) (e := i.elem) (rows := ys) (cap := grownCap w ys.length 0 i.elem) (cur := vs.toArray ++ Builtin.zeroCells z.cells (grownCap w ys.length 0 i.elem - ys.length)) (by rw [hce]; exact hal)
                    (by rw [hce]; simp [size_zeroCells, v1, hzs, hsz, ← Nat.add_mul]; congr 1; omega) hge (grownCap_le_maxLen w _ 0 _ (by unfold maxLen; omega)) (fun i' j row x u h1 h2 h3 => by
                      rw [hce] at h3
                      obtain ⟨u', q1, q2, q3⟩ := v4 i' j row x h1 h2
                      have hlt : i' * te.sz + j < vs.length := (List.getElem?_eq_some_iff.1 q1).1
                      rw [Array.getElem?_append_left (by simpa using hlt)] at h3
                      simp at h3
                      rw [q1] at h3
                      simp at h3
                      subst h3
                      exact ⟨q2.turn (turn_drew w φ G), q3⟩) hb hφ (r := (Go.builtin .append ⟨[t, t']⟩ tyc cs (List.map a.eval [xo, yo]).toArray).run P w) (by
                      rw [hpre _ rfl, hxA, hrun]
                      rfl)
                  obtain ⟨x', w', φ', e1, e2, e3, e4, e5⟩ := hE
                  exact ⟨x', w', φ', e1, e2, (turn_drew w φ G).trans e3, e4, e5⟩
                · simp at h
            · rename_i hxe
              have hx : RV P w X φ G .nilc (a.eval xo) := by rw [← hxe]; exact hx
              split at h
              · rename_i hem
                simp at h
                obtain ⟨rfl, rfl⟩ := h
                have h0 : ys = [] := by simpa using hem
                obtain ⟨A0, hxA⟩ := hx.nilc_inv
                exact eff_pure hr (hpre _ (hnone h0 A0 0 0 hxA (Nat.le_refl _) (fun _ _ => trivial))) (.ro .nilc)
              · rename_i hem
                split at h
                · rename_i hle
                  simp at h
                  obtain ⟨rfl, rfl⟩ := h
                  obtain ⟨hb, hφ⟩ := hnew _ rfl
                  have hpos' : 0 < ys.length := by cases ys with | nil => simp at hem | cons => simp
                  have hce : P.cellsOf i.elem = te.sz := ty_cells he
                  have hsz : te.sz = inf.size := by rw [hte, descTy_sz]
                  obtain ⟨vs, v1, v3, v4, _, hruns⟩ := hS.som fun e => by subst e; simp at hpos'
                  obtain ⟨A0, hxA⟩ := hx.nilc_inv
                  have hrun := hruns tyc A0 z (by rw [hinf]; exact hz) hle
                  have hge := grownCap_ge w ys.length 0 i.elem
                  have hE := newRow_sound (P := P) (nid := H.length) (hr_drew hr) (e := i.elem) (rows := ys) (cap := grownCap w ys.length 0 i.elem) (cur := vs.toArray ++ Builtin.zeroCells z.cells (grownCap w ys.length 0 i.elem - ys.length)) (by rw [hce]; exact hal)
                    (by rw [hce]; simp [size_zeroCells, v1, hzs, hsz, ← Nat.add_mul]; congr 1; omega) hge (grownCap_le_maxLen w _ 0 _ (by unfold maxLen; omega)) (fun i' j row x u h1 h2 h3 => by
                      rw [hce] at h3
                      obtain ⟨u', q1, q2, q3⟩ := v4 i' j row x h1 h2
                      have hlt : i' * te.sz + j < vs.length := (List.getElem?_eq_some_iff.1 q1).1
                      rw [Array.getElem?_append_left (by simpa using hlt)] at h3
                      simp at h3
                      rw [q1] at h3
                      simp at h3
                      subst h3
                      exact ⟨q2.turn (turn_drew w φ G), q3⟩) hb hφ (r := (Go.builtin .append ⟨[t, t']⟩ tyc cs (List.map a.eval [xo, yo]).toArray).run P w) (by
                      rw [hpre _ rfl, hxA, hrun]
                      rfl)
                  obtain ⟨x', w', φ', e1, e2, e3, e4, e5⟩ := hE
                  exact ⟨x', w', φ', e1, e2, (turn_drew w φ G).trans e3, e4, e5⟩
                · simp at h
            · rename_i id n hxe
              split at h
              · rename_i e' nb rows hb
                split at h
                · rename_i hc
                  simp at h
                  obtain ⟨rfl, rfl⟩ := h
                  obtain ⟨hn, hle, rfl⟩ := hc
                  have hx : RV P w X φ G (.os id n) (a.eval xo) := by rw [← hxe]; exact hx
                  have hb := hG id _ hb
                  by_cases h0 : ys = []
                  · subst h0
                    have hsame : updG G (.set id (.row i.elem nb (rows ++ []))) = G := by simp only [updG, List.append_nil]; exact set_self hb
                    obtain ⟨A', cap', hxv, hle'⟩ : ∃ A' cap', a.eval xo = .slice A' n cap' ∧ n ≤ cap' := by
                      cases hx with
                      | ro h => cases h
                      | os g0 hid hv =>
                        rcases (hv _ nb rows hb).2 hn.symm with ⟨h1, h2, h3, h4⟩ | ⟨g, cap, cur, h4, h5, h6, h7, h8, h9⟩
                        · obtain ⟨A0, h3⟩ := h3
                          exact ⟨A0, 0, by rw [h3, h4], by omega⟩
                        · exact ⟨_, cap, h5, h9⟩
                    refine ⟨_, w, φ, .inl (hpre _ (hnone rfl A' n cap' hxv hle' (fun _ _ => trivial))), by rw [hsame]; exact hr, by rw [hsame]; exact Turn.refl w φ G, by rw [hsame]; simpa [← hxv] using hx, fun _ h _ _ => ⟨h, by rw [hsame]⟩⟩
                  · have hpos' : 0 < ys.length := by cases ys with | nil => simp at h0 | cons => simp
                    have hv : ((∃ A, a.eval xo = .slice A 0 0) ∧ n = 0 ∧ φ id = none) ∨ RV P w X φ G (.os id n) (a.eval xo) ∧ ∃ g cap, φ id = some g ∧ a.eval xo = .slice (some ⟨g, 0, none⟩) n cap := by
                      cases hx with
                      | ro h => cases h
                      | os g0 hid hv =>
                        rcases (hv _ nb rows hb).2 hn.symm with ⟨h1, h2, h3, h4⟩ | ⟨g, cap, cur, h4, h5, h6⟩
                        · exact .inl ⟨h3, h4, h2⟩
                        · exact .inr ⟨.os g0 hid hv, g, cap, h4, h5⟩
                    obtain ⟨v', w', c', hrun, k1, k2, k3⟩ := append_core2 (tyc := tyc) hr hu he hb hn hv rfl hpos' hle hS
                    refine ⟨v', w', _, .inl (by rw [hpre _ rfl, hrun]; rfl), k1, k2, k3, fun j hj _ hne => ?_⟩
                    have hji : j ≠ id := fun e => by
                      subst e
                      rcases hv with ⟨_, _, _⟩ | ⟨_, g, cap, hg, _⟩
                      · cases hx with
                        | ro h => cases h
                        | os g0 hid hv =>
                          rcases (hv _ nb rows hb).2 hn.symm with ⟨h1, _⟩ | ⟨g, cap, cur, h4, _⟩
                          · rw [h1] at hb; exact hne _ _ hb
                          · rw [hj] at h4; simp at h4
                      · rw [hj] at hg; simp at hg
                    exact ⟨by simp [setφ, hji, hj], List.getElem?_set_ne (fun e => hji e.symm)⟩
                · simp at h
              · simp at h
            · simp at h
          · simp at h
        · simp at h
      · simp at h
    · simp at h
  · -- min
    rename_i x l hargs
    cases args with
    | nil => simp at hargs
    | cons y args =>
      simp at hargs
      obtain ⟨rfl, rfl⟩ := hargs
      split at h
      · rename_i r hr'
        simp at h
        obtain ⟨rfl, rfl⟩ := h
        obtain ⟨u, h1, h2⟩ := fold_sound (fun a b => if b < a then b else a) Builtin.min2 (fun _ _ _ _ => rfl) _ _ r (args.map a.eval) (a.eval y) hr' (hev y (by simp)) (args_len fun x hx => hev x (by simp [hx])) (by simp)
        exact eff_pure hr (x := u) (by simp [Go.builtin, Builtin.min_, h1]) h2
      · simp at h
  · -- max
    rename_i x l hargs
    cases args with
    | nil => simp at hargs
    | cons y args =>
      simp at hargs
      obtain ⟨rfl, rfl⟩ := hargs
      split at h
      · rename_i r hr'
        simp at h
        obtain ⟨rfl, rfl⟩ := h
        obtain ⟨u, h1, h2⟩ := fold_sound (fun a b => if b > a then b else a) Builtin.max2 (fun _ _ _ _ => rfl) _ _ r (args.map a.eval) (a.eval y) hr' (hev y (by simp)) (args_len fun x hx => hev x (by simp [hx])) (by simp)
        exact eff_pure hr (x := u) (by simp [Go.builtin, Builtin.max_, h1]) h2
      · simp at h
  · simp at h
end
end Go.Proofs.Ytnldjmokemgaoaa
