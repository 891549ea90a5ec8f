/- Calls whose outcome is told: path.Parse at a known text. -/
import Derived.Test.YtoehfadjpficiaaGreatDoorEvTrue
import Derived.Test.YtoehfadjpficiaaGreatDoorG2
namespace Go.Proofs.YtoehfadjpficiaaGreatDoor.Ev
open Go Go.RowKit
set_option linter.unusedVariables false
def sumParse : Call := fun g args h nx =>
  if g = 94 then
    match args with
    | [.a (.s (.str s))] =>
      match parseA s with
      | (n :: ns, d, a, e) => some (.tup [.agg [.sl nx 0 (n :: ns).length none 0, .bool d], .s (.int .i64 a), .s (.int .i64 e)], h.set nx (.cells 9 (some 1) (Cells.ofList ((n :: ns).map SV.str)) false), nx + 1)
      | _ => none
    | _ => none
  else none
theorem sumParse_ok {C : Ctx} (hP : C.P = Tryz.prog) : CallOk C sumParse := by
  intro g args h nx r he E w vs hr hρ hf hargs
  rw [hP]
  unfold sumParse at he
  split at he
  · rename_i hg
    subst hg
    split at he
    · rename_i s
      split at he
      · rename_i n ns d a e hp
        obtain rfl := Option.some.inj he
        match vs, hargs with
        | [v], hargs =>
          obtain rfl := hargs.1
          refine (parse_any s w).mono fun e w' hpost => ?_
          rw [hp] at hpost
          obtain ⟨v0, h1, h3, h5⟩ := hpost
          obtain ⟨_, h3 | ⟨gb, cap, cur, rfl, hbase, hgb, hn, hcap, hcur, htake⟩⟩ := h3
          · have := h3.2
            simp at this
          · rw [Nat.mul_one] at hcur htake
            have hn0 : E.m nx = none := hf nx (Nat.le_refl _)
            refine ⟨_, _, h1, Goes.found hr hn0 h5 (o := .cells cur 9 (0, 0)) ⟨gb, 0, cap⟩ hbase hgb ⟨cur, 0, 0, rfl, ?_⟩, ?_⟩
            · exact {
                fz := fun _ => ⟨rfl, rfl⟩
                free := fun _ _ => by omega
                room := fun sz hsz => by
                  obtain rfl := Option.some.inj hsz
                  show 0 + cap * 1 ≤ cur.size
                  omega
                fits := by
                  show 0 + (Cells.ofList ((n :: ns).map SV.str)).n ≤ cur.size
                  rw [Cells.ofList_n, List.length_map]
                  have : (n :: ns).length ≤ cap := hn
                  omega
                dl := fun h => by cases h
                get := fun j hj => by
                  rw [Cells.ofList_n, List.length_map] at hj
                  have e1 : ((n :: ns).map SV.str)[j]? = some (SV.str (n :: ns)[j]) := by
                    rw [List.getElem?_map, List.getElem?_eq_getElem hj]
                    rfl
                  refine ⟨.string (n :: ns)[j], ?_, ?_⟩
                  · show cur[0 + j]? = _
                    have e2 : (cur.toList.take (n :: ns).length)[j]? = some (.string (n :: ns)[j]) := by
                      have e3 : cur.toList.take (n :: ns).length = (n :: ns).map Value.string := htake
                      rw [e3, List.getElem?_map, List.getElem?_eq_getElem hj]
                      rfl
                    rw [List.getElem?_take_of_lt hj, Array.getElem?_toList] at e2
                    rw [Nat.zero_add]
                    exact e2
                  · rw [Cells.get_ofList _ j _ e1]
                    rfl }
            · refine ⟨[_, _, _], rfl, ⟨[_, _], rfl, ⟨⟨gb, 0, cap⟩, Env.put_at _ _ _, hn, rfl⟩, rfl, trivial⟩, rfl, rfl, trivial⟩
        | [], hargs => exact hargs.elim
        | _ :: _ :: _, hargs => exact hargs.2.elim
      · cases he
    · cases he
  · cases he
end Go.Proofs.YtoehfadjpficiaaGreatDoor.Ev
