/- slices.Sorted over maps.Keys at maps of no more than one entry, in the evaluator. Own text. No condition of a claim. -/
import Derived.Test.YtddpidmbnofdbaaGreatDoorEuD
import Derived.Sort.KeysCollected
import Derived.Lib.SlKeysI
/- slices.Sorted over maps.Keys in the evaluator. -/
import Derived.Test.YtddpidmbnofdbaaGreatDoorProg
import Derived.Below
import Derived.Deep.Draws
import Derived.Deep.AppendLies
import Derived.Maps.AppendAt
import Derived.OwnWalk
import Derived.Laws.BytesArg
import Derived.Laws.MakeOwn
import Derived.Laws.OwnMore
import Derived.Deep.OwnRows
import Derived.Tactics
import Derived.Lib.ConvBytes
import Derived.Laws.Slices
import Derived.WalkKit
import Derived.KernelRfl
import Derived.RowKit3
import Derived.Deep.LoopGhost
import Derived.Deep.QuietTactic
import Derived.BigQuiet
import Derived.WideLaws
import Derived.Deep.DeepCutAuto
import Derived.Deep.CutBlock
import Derived.Deep.RegionHeld3
import Derived.Laws.Rows
import Derived.Lib.AppendStr
import Derived.ArgAppend
import Derived.Laws.IdiomCopy
import Derived.OrdersHeld
import Derived.Laws.BitsLemmas
import Derived.RowKit
import Derived.WalkSpells
import Derived.Outline
import Derived.Test.YtddpidmbnofdbaaGreatDoorEuC
namespace Go.Proofs.YtddpidmbnofdbaaGreatDoor.EuE
open Go.RowKit Go.Proofs.YtddpidmbnofdbaaGreatDoor.Ev Go.Proofs.YtddpidmbnofdbaaGreatDoor.EvZ Go.Proofs.YtddpidmbnofdbaaGreatDoor.EuB Go.Proofs.YtddpidmbnofdbaaGreatDoor.EuC
set_option linter.unusedSimpArgs false
set_option linter.unusedVariables false

open Go.MapKept Go.Maps Go.Sort Go.Shelf
theorem sorts_str (m : Nat) : AnyZ.SortsIn Tryz.prog Tryz.sortedS_ren Fence.wide m :=
  ⟨fun blk off cap ss W hH hblk hsz => callsIn_wide.2 (AnyM.slices_Sort_string Tryz.sortS blk off cap ss W hH hblk hsz),
   fun p cap W => callsIn_wide.2 (AnyM.slices_Sort_string_none Tryz.sortS p cap W)⟩
theorem sorts_i64 (m : Nat) : AnyZI.SortsIn Tryz.prog Tryz.sortedI_ren Fence.wide m :=
  ⟨fun blk off cap ss W hH hblk hsz => callsIn_wide.2 (AnyM.slices_Sort_int Tryz.sortI blk off cap ss W hH hblk hsz),
   fun p cap W => callsIn_wide.2 (AnyM.slices_Sort_int_none Tryz.sortI p cap W)⟩
theorem sorts_i64b (m : Nat) : AnyZI.SortsIn Tryz.prog Tryz.sortedI_ren Fence.wide m := sorts_i64 m

theorem str (bm mb : Nat) (arr : Array MapEntry) (clock : Nat) (w : World) (hc : w.cell? ⟨bm, 0, none⟩ = some (.map (some mb))) (hb : w.heap[mb]? = some (.map arr clock)) (h1 : arr.toList.length ≤ 1)
    (hst : ∀ x ∈ arr.toList, x.born < clock) (hk : ∀ x ∈ arr.toList, ∃ s : ByteArray, x.key = .string s ∧ s.size ≤ maxLen) :
    Calls Tryz.prog 64 #[.func (.func 84) #[] #[.pointer (some ⟨bm, 0, none⟩)]] w fun e w' => ∃ v, e = .returned v ∧ Below w.heap.size w w' ∧
      ((arr.toList = [] ∧ v = .slice none 0 0) ∨ ∃ x g cap cur ty, arr.toList = [x] ∧ v = .slice (some ⟨g, 0, none⟩) 1 cap ∧ w.heap.size ≤ g ∧ w'.heap[g]? = some (.cells cur ty (0, 0)) ∧ 1 ≤ cap ∧ cur.size = cap ∧ cur[0]? = some x.key) := by
  let R : Value → Option (DataW Unit × List MemPlace) := fun _ => some (.nil, [])
  have hu : Tryz.prog.underlying 9 = some (TypeDesc.string) := Tryz.underlying9
  have hrd : ∀ x ∈ arr.toList, ∀ s, x.key = .string s → s.size ≤ maxLen → Go.WideElems.rd Tryz.prog 9 R x = some (.string s.data.toList, .nil) := fun x hx s hs hl => by
    have hl2 : s.data.size ≤ maxLen := hl
    simp only [Go.WideElems.rd, hs, keyOf, mapKey, hu, R]
    simp [hl2, hl]
  have hnd : ∀ {α : Type} (f : MapEntry → α), (arr.toList.map f).Nodup := fun f => by
    match hl : arr.toList, h1 with
    | [], _ => simp
    | [x], _ => simp
  have hle : arr.size ≤ maxLen := by
    have h2 : arr.size = arr.toList.length := by simp
    have h3 : maxLen = 9223372036854775807 := rfl
    omega
  have Ft : Go.WideElems.Fit Tryz.prog 9 R arr clock := ⟨hle, ⟨hst, hnd _, hnd _⟩, fun x hx => by obtain ⟨s, hs, hl⟩ := hk x hx; exact ⟨_, hrd x hx s hs hl⟩⟩
  have hown : w.ownsMap Tryz.prog 9 R mb arr.size (.map ((arr.toList.map (Go.WideElems.rg Tryz.prog 9 R)).foldr DataW.insert [])) := ⟨arr, clock, hb, Ft, Nat.le_refl _, rfl⟩
  generalize hD : (DataW.map ((arr.toList.map (Go.WideElems.rg Tryz.prog 9 R)).foldr DataW.insert []) : DataW Unit) = D0 at hown
  have hsz : Maps.size D0 ≤ 1 := by
    rw [← hD]
    show ((arr.toList.map (Go.WideElems.rg Tryz.prog 9 R)).foldr DataW.insert []).length ≤ 1
    rw [(Go.WideShapes.sorted_perm _).length_eq, List.length_map]; exact h1
  have hbm := World.block_lt_of_cell? w _ hc
  have hseq : SeqGives Fence.wide 2 Tryz.prog 84 #[.pointer (some ⟨bm, 0, none⟩)] encStr (fun ss => ss.Perm (strKeys D0)) (Maps.size D0) w :=
    AnyZ.keys_gives (ρ := Tryz.keysS_ren) { Tryz.keysS with } Fence.wide _ trivial rfl (by omega) bm mb arr.size D0 w hbm hc hown
  have cS := AnyZ.sorted_in Tryz.sortedS Fence.wide 5 trivial trivial trivial trivial rfl (by omega) (sorts_str _) (enters_of Tryz.func83 (by kernel_rfl) rfl) 84 #[.pointer (some ⟨bm, 0, none⟩)] trivial (enters_of Tryz.func84 (by kernel_rfl) rfl) _ _
    (Nat.le_trans hsz (by decide)) (by omega) _ hseq
  change CallsIn _ _ Tryz.prog 64 _ _ _ at cS
  refine ((callsIn_wide).1 cS).mono ?_
  rintro e w' ⟨v, ss, rfl, hS, hrow, hnil, hbl⟩
  refine ⟨v, rfl, hbl, ?_⟩
  match hl : arr.toList, h1 with
  | [], _ =>
    rw [hl] at hD
    have hD : (DataW.map [] : DataW Unit) = D0 := hD
    rw [← hD] at hS
    have hss : ss = [] := List.perm_nil.1 hS
    exact .inl ⟨rfl, hnil.2 hss⟩
  | [x], _ =>
    rw [hl] at hD
    obtain ⟨s, hs, hle⟩ := hk x (by rw [hl]; simp)
    have hrg := Go.WideElems.rg_of (hrd x (by rw [hl]; simp) s hs hle)
    have hD : (DataW.map [(.string s.data.toList, .nil)] : DataW Unit) = D0 := by rw [← hD]; simp only [List.map_cons, List.map_nil, hrg]; rfl
    rw [← hD] at hS
    have hss : ss = [s.data.toList] := List.perm_singleton.1 hS
    subst hss
    have hval : encStr s.data.toList = x.key := by rw [hs]
    refine .inr ?_
    obtain ⟨_, hrow⟩ := hrow
    rcases hrow with ⟨hv, _⟩ | ⟨g, cap, cur, hv, hg, hh, h3, _, h4, h5⟩
    · exact absurd (hnil.1 hv) (by simp)
    · refine ⟨x, g, cap, cur, _, rfl, hv, hg, hh, h3, by simpa using h4, ?_⟩
      simp only [List.mergeSort_singleton, List.map_cons, List.map_nil, List.length_cons, List.length_nil, Nat.zero_add, Nat.one_mul, hval] at h5
      rw [← Array.getElem?_toList]
      cases hcl : cur.toList with
      | nil => rw [hcl] at h5; simp at h5
      | cons y r => rw [hcl] at h5; simp at h5; simp [h5]


theorem i64 (bm mb : Nat) (arr : Array MapEntry) (clock : Nat) (w : World) (hc : w.cell? ⟨bm, 0, none⟩ = some (.map (some mb))) (hb : w.heap[mb]? = some (.map arr clock)) (h1 : arr.toList.length ≤ 1)
    (hst : ∀ x ∈ arr.toList, x.born < clock) (hk : ∀ x ∈ arr.toList, ∃ s : Int, x.key = .int .i64 s ∧ (Lit.int .i64 s).wf = true) :
    Calls Tryz.prog 292 #[.func (.func 306) #[] #[.pointer (some ⟨bm, 0, none⟩)]] w fun e w' => ∃ v, e = .returned v ∧ Below w.heap.size w w' ∧
      ((arr.toList = [] ∧ v = .slice none 0 0) ∨ ∃ x g cap cur ty, arr.toList = [x] ∧ v = .slice (some ⟨g, 0, none⟩) 1 cap ∧ w.heap.size ≤ g ∧ w'.heap[g]? = some (.cells cur ty (0, 0)) ∧ 1 ≤ cap ∧ cur.size = cap ∧ cur[0]? = some x.key) := by
  let R : Value → Option (DataW Unit × List MemPlace) := fun _ => some (.nil, [])
  have hu : Tryz.prog.underlying 2 = some (TypeDesc.int .i64) := Tryz.underlying2
  have hrd : ∀ x ∈ arr.toList, ∀ s, x.key = .int .i64 s → (Lit.int .i64 s).wf = true → Go.WideElems.rd Tryz.prog 2 R x = some (.int .i64 s, .nil) := fun x hx s hs hl => by
    have hl2 := hl
    simp only [Go.WideElems.rd, hs, Go.Maps.keyOf_int_mk hu hl, R]
    simp [hl2]
  have hnd : ∀ {α : Type} (f : MapEntry → α), (arr.toList.map f).Nodup := fun f => by
    match hl : arr.toList, h1 with
    | [], _ => simp
    | [x], _ => simp
  have hle : arr.size ≤ maxLen := by
    have h2 : arr.size = arr.toList.length := by simp
    have h3 : maxLen = 9223372036854775807 := rfl
    omega
  have Ft : Go.WideElems.Fit Tryz.prog 2 R arr clock := ⟨hle, ⟨hst, hnd _, hnd _⟩, fun x hx => by obtain ⟨s, hs, hl⟩ := hk x hx; exact ⟨_, hrd x hx s hs hl⟩⟩
  have hown : w.ownsMap Tryz.prog 2 R mb arr.size (.map ((arr.toList.map (Go.WideElems.rg Tryz.prog 2 R)).foldr DataW.insert [])) := ⟨arr, clock, hb, Ft, Nat.le_refl _, rfl⟩
  generalize hD : (DataW.map ((arr.toList.map (Go.WideElems.rg Tryz.prog 2 R)).foldr DataW.insert []) : DataW Unit) = D0 at hown
  have hsz : Maps.size D0 ≤ 1 := by
    rw [← hD]
    show ((arr.toList.map (Go.WideElems.rg Tryz.prog 2 R)).foldr DataW.insert []).length ≤ 1
    rw [(Go.WideShapes.sorted_perm _).length_eq, List.length_map]; exact h1
  have hbm := World.block_lt_of_cell? w _ hc
  have hseq : SeqGives Fence.wide 2 Tryz.prog 306 #[.pointer (some ⟨bm, 0, none⟩)] encZ (fun ss => ss.Perm (intKeys D0)) (Maps.size D0) w :=
    AnyZI.keys_gives (ρ := Tryz.keysI_ren) { Tryz.keysI with } Fence.wide _ trivial rfl (by omega) bm mb arr.size D0 w hbm hc hown
  have cS := AnyZI.sorted_in Tryz.sortedI Fence.wide 5 trivial trivial trivial trivial rfl (by omega) (sorts_i64 _) (enters_of Tryz.func305 (by kernel_rfl) rfl) 306 #[.pointer (some ⟨bm, 0, none⟩)] trivial (enters_of Tryz.func306 (by kernel_rfl) rfl) _ _
    (Nat.le_trans hsz (by decide)) (by omega) _ hseq
  change CallsIn _ _ Tryz.prog 292 _ _ _ at cS
  refine ((callsIn_wide).1 cS).mono ?_
  rintro e w' ⟨v, ss, rfl, hS, hrow, hnil, hbl⟩
  refine ⟨v, rfl, hbl, ?_⟩
  match hl : arr.toList, h1 with
  | [], _ =>
    rw [hl] at hD
    have hD : (DataW.map [] : DataW Unit) = D0 := hD
    rw [← hD] at hS
    have hss : ss = [] := List.perm_nil.1 hS
    exact .inl ⟨rfl, hnil.2 hss⟩
  | [x], _ =>
    rw [hl] at hD
    obtain ⟨s, hs, hle⟩ := hk x (by rw [hl]; simp)
    have hrg := Go.WideElems.rg_of (hrd x (by rw [hl]; simp) s hs hle)
    have hD : (DataW.map [(.int .i64 s, .nil)] : DataW Unit) = D0 := by rw [← hD]; simp only [List.map_cons, List.map_nil, hrg]; rfl
    rw [← hD] at hS
    have hss : ss = [s] := List.perm_singleton.1 hS
    subst hss
    have hval : encZ s = x.key := by rw [hs]
    refine .inr ?_
    obtain ⟨_, hrow⟩ := hrow
    rcases hrow with ⟨hv, _⟩ | ⟨g, cap, cur, hv, hg, hh, h3, _, h4, h5⟩
    · exact absurd (hnil.1 hv) (by simp)
    · refine ⟨x, g, cap, cur, _, rfl, hv, hg, hh, h3, by simpa using h4, ?_⟩
      simp only [List.mergeSort_singleton, List.map_cons, List.map_nil, List.length_cons, List.length_nil, Nat.zero_add, Nat.one_mul, hval] at h5
      rw [← Array.getElem?_toList]
      cases hcl : cur.toList with
      | nil => rw [hcl] at h5; simp at h5
      | cons y r => rw [hcl] at h5; simp at h5; simp [h5]


theorem i64b (bm mb : Nat) (arr : Array MapEntry) (clock : Nat) (w : World) (hc : w.cell? ⟨bm, 0, none⟩ = some (.map (some mb))) (hb : w.heap[mb]? = some (.map arr clock)) (h1 : arr.toList.length ≤ 1)
    (hst : ∀ x ∈ arr.toList, x.born < clock) (hk : ∀ x ∈ arr.toList, ∃ s : Int, x.key = .int .i64 s ∧ (Lit.int .i64 s).wf = true) :
    Calls Tryz.prog 292 #[.func (.func 379) #[] #[.pointer (some ⟨bm, 0, none⟩)]] w fun e w' => ∃ v, e = .returned v ∧ Below w.heap.size w w' ∧
      ((arr.toList = [] ∧ v = .slice none 0 0) ∨ ∃ x g cap cur ty, arr.toList = [x] ∧ v = .slice (some ⟨g, 0, none⟩) 1 cap ∧ w.heap.size ≤ g ∧ w'.heap[g]? = some (.cells cur ty (0, 0)) ∧ 1 ≤ cap ∧ cur.size = cap ∧ cur[0]? = some x.key) := by
  let R : Value → Option (DataW Unit × List MemPlace) := fun _ => some (.nil, [])
  have hu : Tryz.prog.underlying 2 = some (TypeDesc.int .i64) := Tryz.underlying2
  have hrd : ∀ x ∈ arr.toList, ∀ s, x.key = .int .i64 s → (Lit.int .i64 s).wf = true → Go.WideElems.rd Tryz.prog 2 R x = some (.int .i64 s, .nil) := fun x hx s hs hl => by
    have hl2 := hl
    simp only [Go.WideElems.rd, hs, Go.Maps.keyOf_int_mk hu hl, R]
    simp [hl2]
  have hnd : ∀ {α : Type} (f : MapEntry → α), (arr.toList.map f).Nodup := fun f => by
    match hl : arr.toList, h1 with
    | [], _ => simp
    | [x], _ => simp
  have hle : arr.size ≤ maxLen := by
    have h2 : arr.size = arr.toList.length := by simp
    have h3 : maxLen = 9223372036854775807 := rfl
    omega
  have Ft : Go.WideElems.Fit Tryz.prog 2 R arr clock := ⟨hle, ⟨hst, hnd _, hnd _⟩, fun x hx => by obtain ⟨s, hs, hl⟩ := hk x hx; exact ⟨_, hrd x hx s hs hl⟩⟩
  have hown : w.ownsMap Tryz.prog 2 R mb arr.size (.map ((arr.toList.map (Go.WideElems.rg Tryz.prog 2 R)).foldr DataW.insert [])) := ⟨arr, clock, hb, Ft, Nat.le_refl _, rfl⟩
  generalize hD : (DataW.map ((arr.toList.map (Go.WideElems.rg Tryz.prog 2 R)).foldr DataW.insert []) : DataW Unit) = D0 at hown
  have hsz : Maps.size D0 ≤ 1 := by
    rw [← hD]
    show ((arr.toList.map (Go.WideElems.rg Tryz.prog 2 R)).foldr DataW.insert []).length ≤ 1
    rw [(Go.WideShapes.sorted_perm _).length_eq, List.length_map]; exact h1
  have hbm := World.block_lt_of_cell? w _ hc
  have hseq : SeqGives Fence.wide 2 Tryz.prog 379 #[.pointer (some ⟨bm, 0, none⟩)] encZ (fun ss => ss.Perm (intKeys D0)) (Maps.size D0) w :=
    AnyZI.keys_gives (ρ := Tryz.keysJ_ren) { Tryz.keysJ with } Fence.wide _ trivial rfl (by omega) bm mb arr.size D0 w hbm hc hown
  have cS := AnyZI.sorted_in Tryz.sortedI Fence.wide 5 trivial trivial trivial trivial rfl (by omega) (sorts_i64b _) (enters_of Tryz.func305 (by kernel_rfl) rfl) 379 #[.pointer (some ⟨bm, 0, none⟩)] trivial (enters_of Tryz.func379 (by kernel_rfl) rfl) _ _
    (Nat.le_trans hsz (by decide)) (by omega) _ hseq
  change CallsIn _ _ Tryz.prog 292 _ _ _ at cS
  refine ((callsIn_wide).1 cS).mono ?_
  rintro e w' ⟨v, ss, rfl, hS, hrow, hnil, hbl⟩
  refine ⟨v, rfl, hbl, ?_⟩
  match hl : arr.toList, h1 with
  | [], _ =>
    rw [hl] at hD
    have hD : (DataW.map [] : DataW Unit) = D0 := hD
    rw [← hD] at hS
    have hss : ss = [] := List.perm_nil.1 hS
    exact .inl ⟨rfl, hnil.2 hss⟩
  | [x], _ =>
    rw [hl] at hD
    obtain ⟨s, hs, hle⟩ := hk x (by rw [hl]; simp)
    have hrg := Go.WideElems.rg_of (hrd x (by rw [hl]; simp) s hs hle)
    have hD : (DataW.map [(.int .i64 s, .nil)] : DataW Unit) = D0 := by rw [← hD]; simp only [List.map_cons, List.map_nil, hrg]; rfl
    rw [← hD] at hS
    have hss : ss = [s] := List.perm_singleton.1 hS
    subst hss
    have hval : encZ s = x.key := by rw [hs]
    refine .inr ?_
    obtain ⟨_, hrow⟩ := hrow
    rcases hrow with ⟨hv, _⟩ | ⟨g, cap, cur, hv, hg, hh, h3, _, h4, h5⟩
    · exact absurd (hnil.1 hv) (by simp)
    · refine ⟨x, g, cap, cur, _, rfl, hv, hg, hh, h3, by simpa using h4, ?_⟩
      simp only [List.mergeSort_singleton, List.map_cons, List.map_nil, List.length_cons, List.length_nil, Nat.zero_add, Nat.one_mul, hval] at h5
      rw [← Array.getElem?_toList]
      cases hcl : cur.toList with
      | nil => rw [hcl] at h5; simp at h5
      | cons y r => rw [hcl] at h5; simp at h5; simp [h5]

noncomputable section
/-! ### A new block somewhere behind the old ones -/
theorem HR.newAt {ρ : Ev.Ren} {ht : Ht} {nx : Nat} {w w' : World} {l : Ev.Loc} {o : Obj} {k : Blk} (a : HR ρ (.mk ht nx) w) (hn : nx < 8 ^ 5) (hl : w.heap.size ≤ l.B)
    (hw : w'.heap[l.B]? = some o) (hkeep : ∀ B, B < w.heap.size → w'.heap[B]? = w.heap[B]?) (hr : BlkR (upd ρ nx l) k l o) : HR (upd ρ nx l) (.mk (put 5 nx k ht) (nx + 1)) w' := by
  have hs := Sub.upd (l := l) a.fresh
  have hf := a.fresh
  refine ⟨fun b l' hb => ?_, fun b l' hb hk => ?_, fun b1 b2 l1 l2 h1 h2 h3 h4 q => ?_, fun b hb => ?_⟩
  · show b < nx + 1
    by_cases e : b = nx
    · omega
    · have := a.dom b l' (by simpa [upd, e] using hb)
      have : b < nx := this
      omega
  · rw [H.at_put hn k b] at hk ⊢
    by_cases e : b = nx
    · subst e
      rw [upd_at] at hb; cases hb
      rw [if_pos rfl]
      exact ⟨o, hw, hr⟩
    · rw [if_neg e] at hk ⊢
      have hb' : ρ b = some l' := by simpa [upd, e] using hb
      obtain ⟨o', h1, h2⟩ := a.blk b l' hb' hk
      refine ⟨o', ?_, h2.mono hs⟩
      rw [hkeep _ (Array.getElem?_eq_some_iff.1 h1).1]
      exact h1
  · rw [H.at_put hn k b1] at h3
    rw [H.at_put hn k b2] at h4
    have lt : ∀ b l', b ≠ nx → upd ρ nx l b = some l' → (H.mk ht (nx + 1)).at b ≠ .no → l'.B < w.heap.size := fun b l' e hb hk => a.lt (b := b) (by simpa [upd, e] using hb) hk
    by_cases e1 : b1 = nx <;> by_cases e2 : b2 = nx
    · rw [e1, e2]
    · exfalso
      subst e1
      rw [upd_at] at h1; cases h1
      rw [if_neg e2] at h4
      have := lt b2 l2 e2 h2 h4
      omega
    · exfalso
      subst e2
      rw [upd_at] at h2; cases h2
      rw [if_neg e1] at h3
      have := lt b1 l1 e1 h1 h3
      omega
    · rw [if_neg e1] at h3
      rw [if_neg e2] at h4
      exact a.inj b1 b2 l1 l2 (by simpa [upd, e1] using h1) (by simpa [upd, e2] using h2) h3 h4 q
  · have hb : nx + 1 ≤ b := hb
    rw [H.at_put hn k b, if_neg (by omega)]
    exact a.cl b (by show nx ≤ b; omega)
theorem Ext.newAt {ρ : Ev.Ren} {ht : Ht} {nx : Nat} {w w' : World} {l : Ev.Loc} {k : Blk} (a : HR ρ (.mk ht nx) w) (hn : nx < 8 ^ 5) (hl : w.heap.size ≤ l.B)
    (hkeep : ∀ B, B < w.heap.size → w'.heap[B]? = w.heap[B]?) (hw2 : Below 0 w w') : Ext ρ (.mk ht nx) w (upd ρ nx l) (.mk (put 5 nx k ht) (nx + 1)) w' where
  sub := Sub.upd a.fresh
  own := fun B h => by
    obtain ⟨b1, l1, h1, h2, h3⟩ := h
    rw [H.at_put hn k b1] at h2
    by_cases e : b1 = nx
    · subst e
      rw [upd_at] at h1; cases h1
      exact .inr (by omega)
    · rw [if_neg e] at h2
      exact .inl ⟨b1, l1, by simpa [upd, e] using h1, h2, h3⟩
  keep := fun B hB _ => hkeep B hB
  below := hw2
  ghost := fun b hb hnn => by
    have hb : b < nx := hb
    exact ⟨by simp only [upd]; rw [if_neg (by omega)]; exact hnn, by rw [H.at_put hn k b, if_neg (by omega)]⟩
  nx := by show nx ≤ nx + 1; omega
theorem HR.kept {ρ : Ev.Ren} {h : H} {w w' : World} (a : HR ρ h w) (hkeep : ∀ B, B < w.heap.size → w'.heap[B]? = w.heap[B]?) : HR ρ h w' :=
  ⟨a.dom, fun b l h1 h2 => by
    obtain ⟨ob, g1, g2⟩ := a.blk b l h1 h2
    exact ⟨ob, by rw [hkeep _ (Array.getElem?_eq_some_iff.1 g1).1]; exact g1, g2⟩, a.inj, a.cl⟩
theorem Ext.kept {ρ : Ev.Ren} {h : H} {w w' : World} (hkeep : ∀ B, B < w.heap.size → w'.heap[B]? = w.heap[B]?) (hb : Below 0 w w') : Ext ρ h w ρ h w' :=
  ⟨Sub.refl ρ, fun _ h => .inl h, fun B hB _ => hkeep B hB, hb, fun _ _ h => ⟨h, rfl⟩, Nat.le_refl _⟩

/-! ### The law of its own -/
def onFn (f : Nat → R) (fn : Fn) : R := Fn.rec (motive := fun _ => R) f (fun _ => false) (fun _ _ => false) (fun _ _ _ _ => false) (fun _ => false) fn
theorem onFn_true {f : Nat → R} {fn : Fn} (h : onFn f fn = true) : ∃ g, fn = .func g ∧ f g = true := by
  cases fn <;> first | exact ⟨_, rfl, h⟩ | exact (Bool.false_ne_true h).elim
def avFn (f : Fn → List AV → List AV → R) (x : AV) : R := AV.rec (motive_1 := fun _ => R) (motive_2 := fun _ => Unit) false false (fun _ => false) false false false false false (fun y0 y1 y2 _ _ => f y0 y1 y2) (fun _ _ _ => false) (fun _ => false) (fun _ _ => false) (fun _ _ => false) (fun _ => false) (fun _ _ _ _ => false) (fun _ _ => false) (fun _ => false) (fun _ _ => false) () (fun _ _ _ _ => ()) x
theorem avFn_true {f : Fn → List AV → List AV → R} {x : AV} (h : avFn f x = true) : ∃ fn a c, x = .f fn a c ∧ f fn a c = true := by
  cases x <;> first | exact (Bool.false_ne_true h).elim | exact ⟨_, _, _, rfl, h⟩
def keyS (x : AV) : Bool := AV.rec (motive_1 := fun _ => Bool) (motive_2 := fun _ => Unit) false false (fun _ => false) false false false false false (fun _ _ _ _ _ => false) (fun _ _ _ => false) (fun _ => false) (fun _ _ => false) (fun _ _ => false) (fun l => Nat.blt (llen l) 1000000) (fun _ _ _ _ => false) (fun _ _ => false) (fun _ => false) (fun _ _ => false) () (fun _ _ _ _ => ()) x
def keyI (x : AV) : Bool := AV.rec (motive_1 := fun _ => Bool) (motive_2 := fun _ => Unit) false false (fun _ => false) false false false false false (fun _ _ _ _ _ => false) (fun _ _ _ => false) (fun _ => false) (fun _ _ => false) (fun _ _ => false) (fun _ => false) (fun _ _ _ _ => false) (fun _ _ => false) (fun _ => false) (fun kd _ => Nat.beq (kc kd) (kc .i64)) () (fun _ _ _ _ => ()) x
def sortE (ok : AV → Bool) (h : H) (k : AV → H → R) (clock : Nat) (e : ME) : R :=
  ME.rec (motive := fun _ => R) (fun key _ b => gd (Nat.blt b clock) (gd (ok key) (Ev.new h (blkC 1 [key]) (fun nx h => k (.sl nx 0 1 1) h)))) e
def sortM (ok : AV → Bool) (h : H) (k : AV → H → R) (es : List ME) (clock : Nat) : R := List.rec (motive := fun _ => R) (k .sl0 h) (fun e t _ => List.rec (motive := fun _ => R) (sortE ok h k clock e) (fun _ _ _ => false) t) es
def sortP (ok : AV → Bool) (h : H) (k : AV → H → R) (b o : Nat) : R := gd (Nat.beq o 0) (ldc h b 0 (avM (fun r => ldM h r (sortM ok h k))))
def memN (g : Nat) (l : List Nat) : Bool := List.rec (motive := fun _ => Bool) false (fun a _ ih => or (Nat.beq g a) ih) l
def sortF (gs : List Nat) (ok : AV → Bool) (h : H) (k : AV → H → R) (fn : Fn) (a c : List AV) : R :=
  onFn (fun g => gd (memN g gs) (gd (Nat.beq (llen a) 0) (gd (Nat.beq (llen c) 1) (nth 0 c (onP (sortP ok h k)))))) fn
def sortFF (gs : List Nat) (ok : AV → Bool) : FF := ⟨fun _ l h k => gd (Nat.beq (llen l) 1) (nth 0 l (avFn (sortF gs ok h k)))⟩
/-- What is asked of the real function. -/
def SortLaw (P : Program) (f g : Nat) (okv : Value → Prop) : Prop :=
  ∀ (bm mb : Nat) (arr : Array MapEntry) (clock : Nat) (w : World), w.cell? ⟨bm, 0, none⟩ = some (.map (some mb)) → w.heap[mb]? = some (.map arr clock) → arr.toList.length ≤ 1 →
    (∀ x ∈ arr.toList, x.born < clock) → (∀ x ∈ arr.toList, okv x.key) →
    Calls P f #[.func (.func g) #[] #[.pointer (some ⟨bm, 0, none⟩)]] w fun e w' => ∃ v, e = .returned v ∧ Below w.heap.size w w' ∧
      ((arr.toList = [] ∧ v = .slice none 0 0) ∨ ∃ x g cap cur ty, arr.toList = [x] ∧ v = .slice (some ⟨g, 0, none⟩) 1 cap ∧ w.heap.size ≤ g ∧ w'.heap[g]? = some (.cells cur ty (0, 0)) ∧ 1 ≤ cap ∧ cur.size = cap ∧ cur[0]? = some x.key)
theorem memN_true {g : Nat} : ∀ {l : List Nat}, memN g l = true → g ∈ l
  | [], h => (Bool.false_ne_true h).elim
  | a :: l, h => by
    have h : or (Nat.beq g a) (memN g l) = true := h
    cases hb : Nat.beq g a with
    | true => rw [Nat.eq_of_beq_eq_true hb]; simp
    | false => rw [hb] at h; exact List.mem_cons_of_mem _ (memN_true h)
theorem below0 {w w' : World} (h : Below w.heap.size w w') : Below 0 w w' := ⟨h.os, h.tape, h.output, h.size, fun k hk => absurd hk (Nat.not_lt_zero k)⟩
theorem sort_ok {P : Program} {f : Nat} {gs : List Nat} {ok : AV → Bool} {okv : Value → Prop} (hok : ∀ x, ok x = true → (x ≠ .un ∧ flats true [x] = true) ∧ ∀ ρ v, VR ρ x v → okv v) (law : ∀ g ∈ gs, SortLaw P f g okv) : FnOk P f (sortFF gs ok) := by
  intro cH hc args h F e ρ vs w hr hv
  obtain ⟨hl1, e⟩ := gd_true (show gd (Nat.beq (llen args) 1) (nth 0 args (avFn (sortF gs ok h F))) = true from e)
  obtain ⟨x, hx, e⟩ := nth_true e
  obtain ⟨fn, a, c, rfl, e⟩ := avFn_true e
  obtain ⟨g, rfl, e⟩ := onFn_true e
  obtain ⟨hg, e⟩ := gd_true e
  obtain ⟨ha, e⟩ := gd_true e
  obtain ⟨hcl, e⟩ := gd_true e
  obtain ⟨y, hy, e⟩ := nth_true e
  obtain ⟨b, o, rfl, e⟩ := onP_true e
  obtain ⟨ho, e⟩ := gd_true (show gd (Nat.beq o 0) (ldc h b 0 (avM (fun r => ldM h r (sortM ok h F)))) = true from e)
  obtain rfl : o = 0 := Nat.eq_of_beq_eq_true ho
  obtain ⟨x', g1, g2⟩ := hv.at 0 _ hx
  have hn := hv.length
  rw [← llen_eq args, Nat.eq_of_beq_eq_true hl1] at hn
  have hvs : vs = #[x'] := by
    apply Array.toList_inj.1
    match hvl : vs.toList, hn, g1 with
    | [a], _, g1 => simp at g1; rw [g1]
  subst hvs
  simp only [VR] at g2
  obtain ⟨a', c', rfl, g3, g4⟩ := g2
  have ha' : a' = #[] := by
    apply Array.toList_inj.1
    have := g3.length
    rw [← llen_eq a, Nat.eq_of_beq_eq_true ha] at this
    exact List.eq_nil_of_length_eq_zero this
  subst ha'
  obtain ⟨y', k1, k2⟩ := g4.at 0 _ hy
  have hc' : c' = #[y'] := by
    apply Array.toList_inj.1
    have := g4.length
    rw [← llen_eq c, Nat.eq_of_beq_eq_true hcl] at this
    match hvl : c'.toList, this, k1 with
    | [a], _, k1 => simp at k1; rw [k1]
  subst hc'
  obtain ⟨l, hlb, rfl⟩ := VR_p k2
  obtain ⟨d, t, n, z, hk, ho', e⟩ := ldc_true e
  obtain ⟨v, hcv, hvv, _⟩ := cell_at hr.blk hlb hk ho'
  obtain ⟨r, hrm, e⟩ := avM_true e
  rw [hrm] at hvv
  simp only [VR] at hvv
  obtain ⟨l2, hl2, rfl⟩ := hvv
  obtain ⟨es, clock, hat, e⟩ := ldM_true e
  obtain ⟨arr, hheap, hms⟩ := map_at hr.blk hl2 hat
  rw [l.o0] at hcv ⊢
  have law := law g (memN_true hg) l.B l2.B arr clock w hcv hheap
  match es, hms, e with
  | [], hms, e =>
    have hms : arr.toList = [] := hms
    refine (law (by simp [hms]) (by simp [hms]) (by simp [hms])).mono ?_
    rintro e_ w' ⟨v, rfl, hb, h⟩
    have hb0 := below0 hb
    rcases h with ⟨_, rfl⟩ | ⟨x, _, _, _, _, hx, _⟩
    · exact ⟨_, rfl, .sl0, h, ρ, e, HR.kept hr (fun B hB => hb.block B hB), Ext.kept (fun B hB => hb.block B hB) hb0, by simp only [VR]⟩
    · rw [hms] at hx; cases hx
  | [.mk key val bn], hms, e =>
    obtain ⟨en, rr, hal, h1, h2⟩ := hms
    have hrr : rr = [] := h2
    subst hrr
    obtain ⟨e1, e⟩ := gd_true (show gd (Nat.blt bn clock) (gd (ok key) (Ev.new h (blkC 1 [key]) (fun nx h => F (.sl nx 0 1 1) h))) = true from e)
    obtain ⟨e2, e⟩ := gd_true e
    obtain ⟨hn5, e⟩ := new_true e
    obtain ⟨⟨hne, hfl⟩, hokv⟩ := hok key e2
    have hbn : en.born = bn := h1.2.2
    refine (law (by simp [hal]) (fun x hx => by rw [hal] at hx; simp at hx; subst hx; rw [hbn]; simpa [Nat.blt_eq] using e1) (fun x hx => by rw [hal] at hx; simp at hx; subst hx; exact hokv ρ _ h1.1)).mono ?_
    rintro e_ w' ⟨v, rfl, hb, hh⟩
    have hb0 := below0 hb
    rcases hh with ⟨hx, _⟩ | ⟨x, g, cap, cur, ty, hx, rfl, hg, hhp, hcap, hcs, hc0⟩
    · rw [hal] at hx; cases hx
    · rw [hal] at hx
      injection hx with hx _
      subst hx
      have hr' : HR ρ (.mk h.t h.nx) w := by rw [H.eta]; exact hr
      have hlaid : LaidBy (blkC 1 [key]) [key] 1 := blkC_laid (show 1 ≤ 32768 by decide)
      obtain ⟨d, t, hbk, h8, hget⟩ := hlaid
      have hblk : BlkR (upd ρ h.nx ⟨g, 0, cap - 1⟩) (blkC 1 [key]) ⟨g, 0, cap - 1⟩ (.cells cur ty (0, 0)) := by
        rw [hbk]
        refine ⟨h8, cur, ty, (0, 0), rfl, ?_, fun i hi => ?_, fun i _ hi => ?_⟩
        · show 0 + 1 + (cap - 1) * 1 ≤ cur.size
          omega
        · have hi : i < 1 := hi
          obtain rfl : i = 0 := by omega
          refine ⟨_, hc0, ?_⟩
          rw [hget 0 key rfl]
          exact VR.mono (Sub.upd hr'.fresh) _ _ h1.1
        · have := hi.2
          simp at this
      have hkp : ∀ B, B < w.heap.size → w'.heap[B]? = w.heap[B]? := fun B hB => hb.block B hB
      refine ⟨_, rfl, .sl h.nx 0 1 1, _, _, e, HR.newAt hr' hn5 hg hhp hkp hblk, by have := Ext.newAt (l := ⟨g, 0, cap - 1⟩) (k := blkC 1 [key]) hr' hn5 hg hkp hb0; rw [H.eta] at this; exact this, ?_⟩
      simp only [VR]
      exact ⟨⟨g, 0, cap - 1⟩, ⟨g, 0, none⟩, cap, upd_at _ _ _, rfl, hcap, .inr (by show cap = 1 + (cap - 1); omega), .inl rfl⟩
  | _ :: _ :: _, hms, e => exact (Bool.false_ne_true e).elim
theorem keyS_ok (x : AV) (h : keyS x = true) : (x ≠ .un ∧ flats true [x] = true) ∧ ∀ ρ v, VR ρ x v → ∃ s : ByteArray, v = .string s ∧ s.size ≤ maxLen := by
  cases x <;> try exact (Bool.false_ne_true h).elim
  case s l =>
    refine ⟨⟨by simp, rfl⟩, fun ρ v hv => ?_⟩
    obtain ⟨bs, rfl, hb⟩ := VR_s hv
    refine ⟨bs, rfl, ?_⟩
    have h : llen l < 1000000 := by simpa [Nat.blt_eq] using (show Nat.blt (llen l) 1000000 = true from h)
    have := toB_size bs
    rw [hb] at this
    have : maxLen = 9223372036854775807 := rfl
    omega
theorem keyI_ok (x : AV) (h : keyI x = true) : (x ≠ .un ∧ flats true [x] = true) ∧ ∀ ρ v, VR ρ x v → ∃ s : Int, v = .int .i64 s ∧ (Lit.int .i64 s).wf = true := by
  cases x <;> try exact (Bool.false_ne_true h).elim
  case i kd n =>
    refine ⟨⟨by simp, rfl⟩, fun ρ v hv => ?_⟩
    have hkd : kd = .i64 := kc_inj (Nat.eq_of_beq_eq_true h)
    subst hkd
    obtain ⟨_, rfl⟩ := VR_i hv
    refine ⟨_, rfl, ?_⟩
    have hm : IntKind.i64.min = -9223372036854775808 := by decide
    simp [Lit.wf, IntKind.wrap_i64, hm]
    omega
theorem sortS_ok : FnOk Tryz.prog 64 (sortFF [84] keyS) := sort_ok (okv := fun v => ∃ s : ByteArray, v = .string s ∧ s.size ≤ maxLen) keyS_ok (fun g hg => by simp at hg; subst hg; exact str)
theorem sortI_ok : FnOk Tryz.prog 292 (sortFF [306, 379] keyI) := sort_ok (okv := fun v => ∃ s : Int, v = .int .i64 s ∧ (Lit.int .i64 s).wf = true) keyI_ok (fun g hg => by
  simp at hg
  rcases hg with rfl | rfl
  · exact i64
  · exact i64b)
end
end Go.Proofs.YtddpidmbnofdbaaGreatDoor.EuE
