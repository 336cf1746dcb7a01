/-
  The abstract reading: calls that hand back two new rows, or nothing; ends with two nil slices; rows of one's own appended to such.
-/
import Derived.Test.YtemomjcgkpinfaaA19
namespace Go.Proofs.Ytemomjcgkpinfaa
open Go Go.RowKit
set_option linter.unusedSimpArgs false
set_option linter.unusedVariables false

abbrev hp2 (a b : AObj) : Heap := upd (upd H0 ⟨1, []⟩ (some b)) ⟨0, []⟩ (some a)
theorem hp2_some {a b : AObj} {l : Loc} {ob : AObj} (h : hp2 a b l = some ob) : ob = a ∨ ob = b := by
  simp only [hp2, upd] at h
  split at h
  · cases h; exact .inl rfl
  · split at h
    · cases h; exact .inr rfl
    · cases h
section
variable {P : Program} {o : Oper} {A : Operand → AV} {H : Heap} {new : Nat}
/-- A function that hands back two new rows of its own. -/
theorem OpOk.call2n {fo : Operand} {xs : List Operand} {ts : Array TypeId} {f : FuncId} {caps args : List AV} {res res' : AV} {ob ob' : AObj} (lent : List Loc) (ho : o.op = .call { callee := .value fo, args := xs.toArray, argTypes := ts }) [FnBody P f] (hfo : A fo = .clo (.func f) [] caps) (hc : AC P f args H0 res (hp2 ob ob'))
    (hfree : lent = [] ∨ (FreeF res ∧ (∀ r ∈ ob.rows, ∀ c ∈ r, FreeF c) ∧ ∀ r ∈ ob'.rows, ∀ c ∈ r, FreeF c)) (hrn : ∀ g, rnO g ob = ob) (hrn' : ∀ g, rnO g ob' = ob') (hargs : ARs H (· ∈ lent) id (fun _ => False) args (xs.map A ++ caps)) (hr : rn (fun l => ⟨new, l.id :: l.sub⟩) res = res') : OpOk P o A lent H new res' [.one ⟨new, [0]⟩ (some ob), .one ⟨new, [1]⟩ (some ob')] := by
  subst hr
  have h := OpOk.callGen (P := P) (o := o) (A := A) (H := H) (new := new) (wr := [.one ⟨new, [0]⟩ (some ob), .one ⟨new, [1]⟩ (some ob')]) lent id [] ho hfo hc (fun l => by simp) (fun l hl => by simp at hl) (fun l hl => by simp at hl) (fun l ob hob => by cases hob)
    (hfree.imp id fun h => ⟨h.1, fun l ob2 hob => by
      rcases hp2_some hob with rfl | rfl
      · exact h.2.1
      · exact h.2.2⟩) (by simpa using hargs) (fun H1 h1 _ => by
      rw [merge_nil]
      funext l
      obtain ⟨id, sub⟩ := l
      simp only [upds, W.app, upd, hp2, heapL]
      by_cases e : id = new
      · subst e
        cases sub with
        | nil => simp [h1]
        | cons i s =>
          by_cases e2 : i = 0 ∧ s = []
          · obtain ⟨rfl, rfl⟩ := e2; simp [hrn]
          · have e3 : ¬ (i :: s = [0]) := by simpa using e2
            have e4 : ¬ ((⟨i, s⟩ : Loc) = ⟨0, []⟩) := by simpa using e2
            by_cases e5 : i = 1 ∧ s = []
            · obtain ⟨rfl, rfl⟩ := e5; simp [hrn']
            · have e6 : ¬ (i :: s = [1]) := by simpa using e5
              have e7 : ¬ ((⟨i, s⟩ : Loc) = ⟨1, []⟩) := by simpa using e5
              simp [e3, e4, e6, e7, h1]
      · simp [e])
  have e : emb id [] new = fun l => ⟨new, l.id :: l.sub⟩ := by funext l; simp [emb]
  rw [e] at h
  simpa using h
/-- A call that changes one place of the caller's, passed whole, and hands back what names no place. -/
theorem OpOk.callMg {fo : Operand} {xs : List Operand} {ts : Array TypeId} {f : FuncId} {caps args : List AV} {res : AV} {l : Loc} {k k' : Nat} {rows rows' : List (List D)} (ho : o.op = .call { callee := .value fo, args := xs.toArray, argTypes := ts }) [FnBody P f] (hfo : A fo = .clo (.func f) [] caps)
    (hc : AC P f args (upd H0 ⟨0, []⟩ (some (dobj k rows))) res (upd H0 ⟨0, []⟩ (some (dobj k' rows')))) (hl : H l = some (dobj k rows)) (hres : ∀ g, rn g res = res) (hargs : ARs H (fun _ => False) (fun _ => l) (· = ⟨0, []⟩) args (xs.map A ++ caps)) : OpOk P o A [l] H new res [.one l (some (dobj k' rows'))] := by
  have h := OpOk.callGen (P := P) (o := o) (A := A) (H := H) (new := new) (wr := [.one l (some (dobj k' rows'))]) [] (fun _ => l) [⟨0, []⟩] ho hfo hc (fun l' => by
      by_cases e : l' = ⟨0, []⟩
      · subst e; rw [upd_same]; simp
      · simp [upd_ne e, e]) (fun l1 h1 l2 h2 _ => by simp at h1 h2; rw [h1, h2]) (fun l' h => by simp) (fun l' ob hob => by
      by_cases e : l' = ⟨0, []⟩
      · subst e; rw [upd_same] at hob; cases hob
        exact ⟨_, hl, ObA.data (H := H) (lent := fun _ => False) (τ := fun _ => l) (L := fun _ => True) |>.1, rfl, fun i r r' hr hr' => ⟨(ObA.data (H := H) (lent := (· ∈ ([] : List Loc))) (τ := fun _ => l) (L := (· ∈ [(⟨0, []⟩ : Loc)]) )).2.2 i r r' hr hr' |>.1, (ObA.data (H := H) (lent := (· ∈ ([] : List Loc))) (τ := fun _ => l) (L := (· ∈ [(⟨0, []⟩ : Loc)]) )).2.2 i r r' hr hr' |>.2⟩⟩
      · rw [upd_ne e] at hob; cases hob) (.inl rfl) (by simpa using hargs) (fun H1 h1 h2 => by
      have h3 : H1 l = some (dobj k rows) := (h2 ⟨0, []⟩ (by simp)).trans hl
      funext l'
      simp only [upds, W.app, merge, upd]
      by_cases e : l' = l
      · subst e; simp [rnO_dobj]
      · have e2 : (l == l') = false := by simpa using fun h => e h.symm
        simp only [List.find?_cons, e2, List.find?_nil, e, if_false]
        split
        · rename_i e3
          obtain ⟨id, sub⟩ := l'
          simp only at e3; subst e3
          cases sub with
          | nil => simp [h1]
          | cons i s =>
            by_cases e4 : (⟨i, s⟩ : Loc) = ⟨0, []⟩
            · simp [h1, e4]
            · simp [h1, e4]
        · rfl)
  rw [hres] at h
  simpa using h
/-- Rows of one's own, appended to such. -/
theorem Ok.appendO {t t' e e' : TypeId} {ts : Array TypeId} {s x : Operand} {k b b' n m nm : Nat} {z z' : Value} {rows rows' : List (List D)} {l l' : Loc} (ho : o.op = .call { callee := .builtin .append, args := #[s, x], argTypes := ts }) (hts : ts = #[t, t']) [h : TySlice P t e k b z] [h' : TySlice P t' e' k b' z'] (hk0 : 0 < k)
    (hs : A s = .own k l 0 n) (hl : H l = some (dobj k rows)) (hn : rows.length = n) (hx : A x = .own k l' 0 m) (hl' : H l' = some (dobj k rows')) (hm : rows'.length = m) (hone : ∀ r ∈ rows', (r.map AV.d).all AV.one = true) (hsz : (n + m) * b ≤ 140737488355328) (h63 : n + m ≤ 9223372036854775807) (hnm : n + m = nm) :
    OpOk P o A [l, l'] H new (.own k ⟨new, []⟩ 0 nm) [.one l none, .one ⟨new, []⟩ (some (dobj k (rows ++ rows')))] := by
  subst hm hn hnm
  have hR : ((dobj k rows').rows.drop 0).take rows'.length = rows'.map fun r => r.map .d := by
    rw [List.drop_zero, List.take_of_length_le (by simp [dobj])]; rfl
  have hRl : (rows'.map fun r => r.map AV.d).length = rows'.length := by simp
  have := OpOk.append (P := P) (H := H) (new := new) (A := A) (S := rows.map fun r => r.map .d) (R := rows'.map fun r => r.map .d) (rd := [l']) (rs := [l]) (wr := [.one l none, .one ⟨new, []⟩ (some ⟨k, (rows.map fun r => r.map .d) ++ rows'.map fun r => r.map .d⟩)]) (n := rows.length) ho hts hk0
    (.inl ⟨l, _, hs, hl, rfl, by simp [dobj], by simp only [dobj]; rw [List.take_of_length_le (by simp)], rfl, rfl⟩) (by rw [hx, ← hR]; exact .own l' 0 rows'.length _ hl' rfl (by simp [dobj])) (by intro r hr; obtain ⟨r', hr', rfl⟩ := List.mem_map.1 hr; exact hone r' hr') (by rw [hRl]; exact hsz) (by rw [hRl]; exact h63)
  rw [hRl] at this
  simpa [dobj] using this
end
/-- The end of a function that hands back nothing. -/
theorem end0 {P : Program} {C : Ctx} {H H' : Heap} {fr : List AV} {n n' : Nat} {fn : Func} {e : Exit} (he : e = .ret ∨ e = .normal) (hr : fn.results.toList = []) (hle : Le C ⟨[.tup []], H, n⟩ ⟨[.tup []], H', n'⟩) : EndQ P C fn (.tup []) H' e ⟨fr, H, n⟩ := by
  have h1 : ResAll P fr H fn.results.toList (.tup []) := by
    rw [hr]
    exact ⟨[], rfl, fun i rv c h => by simp at h, rfl⟩
  rcases he with rfl | rfl
  · exact ⟨_, _, h1, hle⟩
  · exact ⟨_, _, h1, hle⟩
/-- The end of a function that hands back a struct of a number and a nil slice, a nil slice, and more: both slices told as empty rows. -/
theorem end3nil2 {P : Program} {C : Ctx} {H : Heap} {fr : List AV} {n : Nat} {fn : Func} {e : Exit} {rv rv' rv'' : ResultVar} {k k' : Nat} {y0 y : D} {c0 : AV} (he : e = .ret ∨ e = .normal) (hr : fn.results.toList = [rv, rv', rv'']) (h : ResOf P fr H rv c0) (hc0 : c0 = .agg [.d y0, .d (.v (.slice none 0 0))]) (h' : ResOf P fr H rv' (.d (.v (.slice none 0 0)))) (h'' : ResOf P fr H rv'' (.d y)) (hD : ∀ l, ¬ C.D0 l) :
    EndQ P C fn (.tup [.agg [.d y0, .own k ⟨0, []⟩ 0 0], .own k' ⟨1, []⟩ 0 0, .d y]) (hp2 ⟨k, []⟩ ⟨k', []⟩) e ⟨fr, H, n⟩ := by
  subst hc0
  refine end3 he hr h h' h'' rfl (((Le.nilR (H := H) (n := n) k (a := .tup [.agg [.d y0, .d (.v (.slice none 0 0))], .d (.v (.slice none 0 0)), .d y]) (a' := .tup [.agg [.d y0, .own k ⟨n, []⟩ 0 0], .d (.v (.slice none 0 0)), .d y]) (.tup _ _ rfl fun i c c' h1 h2 => ?_)).trans (Le.nilR k' (a' := .tup [.agg [.d y0, .own k ⟨n, []⟩ 0 0], .own k' ⟨n + 1, []⟩ 0 0, .d y]) (.tup _ _ rfl fun i c c' h1 h2 => ?_))).trans (Le.head [(⟨0, []⟩, ⟨n, []⟩, ⟨k, []⟩), (⟨1, []⟩, ⟨n + 1, []⟩, ⟨k', []⟩)] (n' := 2) (fun l h => absurd h (hD l)) ?_ ?_ (by simp) (by simp) (by simp [AllP])))
  · match i with
    | 0 =>
      simp at h1 h2; subst h1; subst h2
      refine .agg _ _ rfl fun i c c' h1 h2 => ?_
      match i with
      | 0 => simp at h1 h2; subst h1; subst h2; exact .refl _
      | 1 => simp at h1 h2; subst h1; subst h2; exact .nil
      | i + 2 => simp at h1
    | 1 => simp at h1 h2; subst h1; subst h2; exact .refl _
    | 2 => simp at h1 h2; subst h1; subst h2; exact .refl _
    | i + 3 => simp at h1
  · match i with
    | 0 => simp at h1 h2; subst h1; subst h2; exact .refl _
    | 1 => simp at h1 h2; subst h1; subst h2; exact .nil
    | 2 => simp at h1 h2; subst h1; subst h2; exact .refl _
    | i + 3 => simp at h1
  · exact ⟨⟨⟨k, []⟩, by simp [upd], rfl, rfl, fun i r r' h => by simp at h⟩, ⟨⟨k', []⟩, by simp [upd], rfl, rfl, fun i r r' h => by simp at h⟩, trivial⟩
  · refine ARs.cons (ARs.tup (ARs.cons (ARs.agg (ARs.cons (AR.dd _) (ARs.cons ?_ ARs.nil))) (ARs.cons ?_ (ARs.cons (AR.dd _) ARs.nil)))) ARs.nil
    · exact AR.own k ⟨0, []⟩ 0 0 (by simp [heapL, upd])
    · exact AR.own k' ⟨1, []⟩ 0 0 (by simp [heapL, upd])
end Go.Proofs.Ytemomjcgkpinfaa
