/- slices.Sorted over maps.Keys at maps of no more than one entry, in the evaluator. Own text. No condition of a claim. -/
import Derived.Test.YtlpffldeogapmaaGreatDoorEuD
import Derived.Sort.KeysCollected
import Derived.Lib.SlKeysI
/- slices.Sorted over maps.Keys in the evaluator. -/
import Derived.Test.YtlpffldeogapmaaGreatDoorProg
import Derived.Below
import Derived.Deep.Draws
import Derived.Deep.AppendLies
import Derived.Maps.AppendAt
import Derived.OwnWalk
import Derived.Laws.BytesArg
import Derived.Laws.MakeOwn
import Derived.Laws.OwnMore
import Derived.Deep.OwnRows
import Derived.Tactics
import Derived.Lib.ConvBytes
import Derived.Laws.Slices
import Derived.WalkKit
import Derived.KernelRfl
import Derived.RowKit3
import Derived.Deep.LoopGhost
import Derived.Deep.QuietTactic
import Derived.BigQuiet
import Derived.WideLaws
import Derived.Deep.DeepCutAuto
import Derived.Deep.CutBlock
import Derived.Deep.RegionHeld3
import Derived.Laws.Rows
import Derived.Lib.AppendStr
import Derived.ArgAppend
import Derived.Laws.IdiomCopy
import Derived.OrdersHeld
import Derived.Laws.BitsLemmas
import Derived.RowKit
import Derived.WalkSpells
import Derived.Outline
import Derived.Test.YtlpffldeogapmaaGreatDoorEuC
namespace Go.Proofs.YtlpffldeogapmaaGreatDoor.EuE
open Go.RowKit Go.Proofs.YtlpffldeogapmaaGreatDoor.Ev Go.Proofs.YtlpffldeogapmaaGreatDoor.EuB Go.Proofs.YtlpffldeogapmaaGreatDoor.EuC
set_option linter.unusedSimpArgs false
set_option linter.unusedVariables false

open Go.MapKept Go.Maps Go.Sort Go.Shelf
set_option linter.unusedSectionVars false
variable [GO]
theorem sorts_str (m : Nat) : AnyZ.SortsIn Tryz.prog Tryz.sortedS_ren Fence.wide m :=
  ⟨fun blk off cap ss W hH hblk hsz => callsIn_wide.2 (AnyM.slices_Sort_string Tryz.sortS blk off cap ss W hH hblk hsz),
   fun p cap W => callsIn_wide.2 (AnyM.slices_Sort_string_none Tryz.sortS p cap W)⟩
theorem sorts_i64 (m : Nat) : AnyZI.SortsIn Tryz.prog Tryz.sortedI_ren Fence.wide m :=
  ⟨fun blk off cap ss W hH hblk hsz => callsIn_wide.2 (AnyM.slices_Sort_int Tryz.sortI blk off cap ss W hH hblk hsz),
   fun p cap W => callsIn_wide.2 (AnyM.slices_Sort_int_none Tryz.sortI p cap W)⟩
theorem sorts_i64b (m : Nat) : AnyZI.SortsIn Tryz.prog Tryz.sortedI_ren Fence.wide m := sorts_i64 m

theorem str (bm mb : Nat) (arr : Array MapEntry) (clock : Nat) (w : World) (hc : w.cell? ⟨bm, 0, none⟩ = some (.map (some mb))) (hb : w.heap[mb]? = some (.map arr clock)) (h1 : arr.toList.length ≤ 1)
    (hst : ∀ x ∈ arr.toList, x.born < clock) (hk : ∀ x ∈ arr.toList, ∃ s : ByteArray, x.key = .string s ∧ s.size ≤ maxLen) :
    Calls Tryz.prog 44 #[.func (.func 58) #[] #[.pointer (some ⟨bm, 0, none⟩)]] w fun e w' => ∃ v, e = .returned v ∧ Below w.heap.size w w' ∧
      ((arr.toList = [] ∧ v = .slice none 0 0) ∨ ∃ x g cap cur ty, arr.toList = [x] ∧ v = .slice (some ⟨g, 0, none⟩) 1 cap ∧ w.heap.size ≤ g ∧ w'.heap[g]? = some (.cells cur ty (0, 0)) ∧ 1 ≤ cap ∧ cur.size = cap ∧ cur[0]? = some x.key) := by
  let R : Value → Option (DataW Unit × List MemPlace) := fun _ => some (.nil, [])
  have hu : Tryz.prog.underlying 9 = some (TypeDesc.string) := Tryz.underlying9
  have hrd : ∀ x ∈ arr.toList, ∀ s, x.key = .string s → s.size ≤ maxLen → Go.WideElems.rd Tryz.prog 9 R x = some (.string s.data.toList, .nil) := fun x hx s hs hl => by
    have hl2 : s.data.size ≤ maxLen := hl
    simp only [Go.WideElems.rd, hs, keyOf, mapKey, hu, R]
    simp [hl2, hl]
  have hnd : ∀ {α : Type} (f : MapEntry → α), (arr.toList.map f).Nodup := fun f => by
    match hl : arr.toList, h1 with
    | [], _ => simp
    | [x], _ => simp
  have hle : arr.size ≤ maxLen := by
    have h2 : arr.size = arr.toList.length := by simp
    have h3 : maxLen = 9223372036854775807 := rfl
    omega
  have Ft : Go.WideElems.Fit Tryz.prog 9 R arr clock := ⟨hle, ⟨hst, hnd _, hnd _⟩, fun x hx => by obtain ⟨s, hs, hl⟩ := hk x hx; exact ⟨_, hrd x hx s hs hl⟩⟩
  have hown : w.ownsMap Tryz.prog 9 R mb arr.size (.map ((arr.toList.map (Go.WideElems.rg Tryz.prog 9 R)).foldr DataW.insert [])) := ⟨arr, clock, hb, Ft, Nat.le_refl _, rfl⟩
  generalize hD : (DataW.map ((arr.toList.map (Go.WideElems.rg Tryz.prog 9 R)).foldr DataW.insert []) : DataW Unit) = D0 at hown
  have hsz : Maps.size D0 ≤ 1 := by
    rw [← hD]
    show ((arr.toList.map (Go.WideElems.rg Tryz.prog 9 R)).foldr DataW.insert []).length ≤ 1
    rw [(Go.WideShapes.sorted_perm _).length_eq, List.length_map]; exact h1
  have hbm := World.block_lt_of_cell? w _ hc
  have hseq : SeqGives Fence.wide 2 Tryz.prog 58 #[.pointer (some ⟨bm, 0, none⟩)] encStr (fun ss => ss.Perm (strKeys D0)) (Maps.size D0) w :=
    AnyZ.keys_gives (ρ := Tryz.keysS_ren) { Tryz.keysS with } Fence.wide _ trivial rfl (by omega) bm mb arr.size D0 w hbm hc hown
  have cS := AnyZ.sorted_in Tryz.sortedS Fence.wide 5 trivial trivial trivial trivial rfl (by omega) (sorts_str _) (enters_of Tryz.func57 (by kernel_rfl) rfl) 58 #[.pointer (some ⟨bm, 0, none⟩)] trivial (enters_of Tryz.func58 (by kernel_rfl) rfl) _ _
    (Nat.le_trans hsz (by decide)) (by omega) _ hseq
  change CallsIn _ _ Tryz.prog 44 _ _ _ at cS
  refine ((callsIn_wide).1 cS).mono ?_
  rintro e w' ⟨v, ss, rfl, hS, hrow, hnil, hbl⟩
  refine ⟨v, rfl, hbl, ?_⟩
  match hl : arr.toList, h1 with
  | [], _ =>
    rw [hl] at hD
    have hD : (DataW.map [] : DataW Unit) = D0 := hD
    rw [← hD] at hS
    have hss : ss = [] := List.perm_nil.1 hS
    exact .inl ⟨rfl, hnil.2 hss⟩
  | [x], _ =>
    rw [hl] at hD
    obtain ⟨s, hs, hle⟩ := hk x (by rw [hl]; simp)
    have hrg := Go.WideElems.rg_of (hrd x (by rw [hl]; simp) s hs hle)
    have hD : (DataW.map [(.string s.data.toList, .nil)] : DataW Unit) = D0 := by rw [← hD]; simp only [List.map_cons, List.map_nil, hrg]; rfl
    rw [← hD] at hS
    have hss : ss = [s.data.toList] := List.perm_singleton.1 hS
    subst hss
    have hval : encStr s.data.toList = x.key := by rw [hs]
    refine .inr ?_
    obtain ⟨_, hrow⟩ := hrow
    rcases hrow with ⟨hv, _⟩ | ⟨g, cap, cur, hv, hg, hh, h3, _, h4, h5⟩
    · exact absurd (hnil.1 hv) (by simp)
    · refine ⟨x, g, cap, cur, _, rfl, hv, hg, hh, h3, by simpa using h4, ?_⟩
      simp only [List.mergeSort_singleton, List.map_cons, List.map_nil, List.length_cons, List.length_nil, Nat.zero_add, Nat.one_mul, hval] at h5
      rw [← Array.getElem?_toList]
      cases hcl : cur.toList with
      | nil => rw [hcl] at h5; simp at h5
      | cons y r => rw [hcl] at h5; simp at h5; simp [h5]


theorem i64 (bm mb : Nat) (arr : Array MapEntry) (clock : Nat) (w : World) (hc : w.cell? ⟨bm, 0, none⟩ = some (.map (some mb))) (hb : w.heap[mb]? = some (.map arr clock)) (h1 : arr.toList.length ≤ 1)
    (hst : ∀ x ∈ arr.toList, x.born < clock) (hk : ∀ x ∈ arr.toList, ∃ s : Int, x.key = .int .i64 s ∧ (Lit.int .i64 s).wf = true) :
    Calls Tryz.prog 286 #[.func (.func 300) #[] #[.pointer (some ⟨bm, 0, none⟩)]] w fun e w' => ∃ v, e = .returned v ∧ Below w.heap.size w w' ∧
      ((arr.toList = [] ∧ v = .slice none 0 0) ∨ ∃ x g cap cur ty, arr.toList = [x] ∧ v = .slice (some ⟨g, 0, none⟩) 1 cap ∧ w.heap.size ≤ g ∧ w'.heap[g]? = some (.cells cur ty (0, 0)) ∧ 1 ≤ cap ∧ cur.size = cap ∧ cur[0]? = some x.key) := by
  let R : Value → Option (DataW Unit × List MemPlace) := fun _ => some (.nil, [])
  have hu : Tryz.prog.underlying 2 = some (TypeDesc.int .i64) := Tryz.underlying2
  have hrd : ∀ x ∈ arr.toList, ∀ s, x.key = .int .i64 s → (Lit.int .i64 s).wf = true → Go.WideElems.rd Tryz.prog 2 R x = some (.int .i64 s, .nil) := fun x hx s hs hl => by
    have hl2 := hl
    simp only [Go.WideElems.rd, hs, Go.Maps.keyOf_int_mk hu hl, R]
    simp [hl2]
  have hnd : ∀ {α : Type} (f : MapEntry → α), (arr.toList.map f).Nodup := fun f => by
    match hl : arr.toList, h1 with
    | [], _ => simp
    | [x], _ => simp
  have hle : arr.size ≤ maxLen := by
    have h2 : arr.size = arr.toList.length := by simp
    have h3 : maxLen = 9223372036854775807 := rfl
    omega
  have Ft : Go.WideElems.Fit Tryz.prog 2 R arr clock := ⟨hle, ⟨hst, hnd _, hnd _⟩, fun x hx => by obtain ⟨s, hs, hl⟩ := hk x hx; exact ⟨_, hrd x hx s hs hl⟩⟩
  have hown : w.ownsMap Tryz.prog 2 R mb arr.size (.map ((arr.toList.map (Go.WideElems.rg Tryz.prog 2 R)).foldr DataW.insert [])) := ⟨arr, clock, hb, Ft, Nat.le_refl _, rfl⟩
  generalize hD : (DataW.map ((arr.toList.map (Go.WideElems.rg Tryz.prog 2 R)).foldr DataW.insert []) : DataW Unit) = D0 at hown
  have hsz : Maps.size D0 ≤ 1 := by
    rw [← hD]
    show ((arr.toList.map (Go.WideElems.rg Tryz.prog 2 R)).foldr DataW.insert []).length ≤ 1
    rw [(Go.WideShapes.sorted_perm _).length_eq, List.length_map]; exact h1
  have hbm := World.block_lt_of_cell? w _ hc
  have hseq : SeqGives Fence.wide 2 Tryz.prog 300 #[.pointer (some ⟨bm, 0, none⟩)] encZ (fun ss => ss.Perm (intKeys D0)) (Maps.size D0) w :=
    AnyZI.keys_gives (ρ := Tryz.keysI_ren) { Tryz.keysI with } Fence.wide _ trivial rfl (by omega) bm mb arr.size D0 w hbm hc hown
  have cS := AnyZI.sorted_in Tryz.sortedI Fence.wide 5 trivial trivial trivial trivial rfl (by omega) (sorts_i64 _) (enters_of Tryz.func299 (by kernel_rfl) rfl) 300 #[.pointer (some ⟨bm, 0, none⟩)] trivial (enters_of Tryz.func300 (by kernel_rfl) rfl) _ _
    (Nat.le_trans hsz (by decide)) (by omega) _ hseq
  change CallsIn _ _ Tryz.prog 286 _ _ _ at cS
  refine ((callsIn_wide).1 cS).mono ?_
  rintro e w' ⟨v, ss, rfl, hS, hrow, hnil, hbl⟩
  refine ⟨v, rfl, hbl, ?_⟩
  match hl : arr.toList, h1 with
  | [], _ =>
    rw [hl] at hD
    have hD : (DataW.map [] : DataW Unit) = D0 := hD
    rw [← hD] at hS
    have hss : ss = [] := List.perm_nil.1 hS
    exact .inl ⟨rfl, hnil.2 hss⟩
  | [x], _ =>
    rw [hl] at hD
    obtain ⟨s, hs, hle⟩ := hk x (by rw [hl]; simp)
    have hrg := Go.WideElems.rg_of (hrd x (by rw [hl]; simp) s hs hle)
    have hD : (DataW.map [(.int .i64 s, .nil)] : DataW Unit) = D0 := by rw [← hD]; simp only [List.map_cons, List.map_nil, hrg]; rfl
    rw [← hD] at hS
    have hss : ss = [s] := List.perm_singleton.1 hS
    subst hss
    have hval : encZ s = x.key := by rw [hs]
    refine .inr ?_
    obtain ⟨_, hrow⟩ := hrow
    rcases hrow with ⟨hv, _⟩ | ⟨g, cap, cur, hv, hg, hh, h3, _, h4, h5⟩
    · exact absurd (hnil.1 hv) (by simp)
    · refine ⟨x, g, cap, cur, _, rfl, hv, hg, hh, h3, by simpa using h4, ?_⟩
      simp only [List.mergeSort_singleton, List.map_cons, List.map_nil, List.length_cons, List.length_nil, Nat.zero_add, Nat.one_mul, hval] at h5
      rw [← Array.getElem?_toList]
      cases hcl : cur.toList with
      | nil => rw [hcl] at h5; simp at h5
      | cons y r => rw [hcl] at h5; simp at h5; simp [h5]


theorem i64b (bm mb : Nat) (arr : Array MapEntry) (clock : Nat) (w : World) (hc : w.cell? ⟨bm, 0, none⟩ = some (.map (some mb))) (hb : w.heap[mb]? = some (.map arr clock)) (h1 : arr.toList.length ≤ 1)
    (hst : ∀ x ∈ arr.toList, x.born < clock) (hk : ∀ x ∈ arr.toList, ∃ s : Int, x.key = .int .i64 s ∧ (Lit.int .i64 s).wf = true) :
    Calls Tryz.prog 286 #[.func (.func 373) #[] #[.pointer (some ⟨bm, 0, none⟩)]] w fun e w' => ∃ v, e = .returned v ∧ Below w.heap.size w w' ∧
      ((arr.toList = [] ∧ v = .slice none 0 0) ∨ ∃ x g cap cur ty, arr.toList = [x] ∧ v = .slice (some ⟨g, 0, none⟩) 1 cap ∧ w.heap.size ≤ g ∧ w'.heap[g]? = some (.cells cur ty (0, 0)) ∧ 1 ≤ cap ∧ cur.size = cap ∧ cur[0]? = some x.key) := by
  let R : Value → Option (DataW Unit × List MemPlace) := fun _ => some (.nil, [])
  have hu : Tryz.prog.underlying 2 = some (TypeDesc.int .i64) := Tryz.underlying2
  have hrd : ∀ x ∈ arr.toList, ∀ s, x.key = .int .i64 s → (Lit.int .i64 s).wf = true → Go.WideElems.rd Tryz.prog 2 R x = some (.int .i64 s, .nil) := fun x hx s hs hl => by
    have hl2 := hl
    simp only [Go.WideElems.rd, hs, Go.Maps.keyOf_int_mk hu hl, R]
    simp [hl2]
  have hnd : ∀ {α : Type} (f : MapEntry → α), (arr.toList.map f).Nodup := fun f => by
    match hl : arr.toList, h1 with
    | [], _ => simp
    | [x], _ => simp
  have hle : arr.size ≤ maxLen := by
    have h2 : arr.size = arr.toList.length := by simp
    have h3 : maxLen = 9223372036854775807 := rfl
    omega
  have Ft : Go.WideElems.Fit Tryz.prog 2 R arr clock := ⟨hle, ⟨hst, hnd _, hnd _⟩, fun x hx => by obtain ⟨s, hs, hl⟩ := hk x hx; exact ⟨_, hrd x hx s hs hl⟩⟩
  have hown : w.ownsMap Tryz.prog 2 R mb arr.size (.map ((arr.toList.map (Go.WideElems.rg Tryz.prog 2 R)).foldr DataW.insert [])) := ⟨arr, clock, hb, Ft, Nat.le_refl _, rfl⟩
  generalize hD : (DataW.map ((arr.toList.map (Go.WideElems.rg Tryz.prog 2 R)).foldr DataW.insert []) : DataW Unit) = D0 at hown
  have hsz : Maps.size D0 ≤ 1 := by
    rw [← hD]
    show ((arr.toList.map (Go.WideElems.rg Tryz.prog 2 R)).foldr DataW.insert []).length ≤ 1
    rw [(Go.WideShapes.sorted_perm _).length_eq, List.length_map]; exact h1
  have hbm := World.block_lt_of_cell? w _ hc
  have hseq : SeqGives Fence.wide 2 Tryz.prog 373 #[.pointer (some ⟨bm, 0, none⟩)] encZ (fun ss => ss.Perm (intKeys D0)) (Maps.size D0) w :=
    AnyZI.keys_gives (ρ := Tryz.keysJ_ren) { Tryz.keysJ with } Fence.wide _ trivial rfl (by omega) bm mb arr.size D0 w hbm hc hown
  have cS := AnyZI.sorted_in Tryz.sortedI Fence.wide 5 trivial trivial trivial trivial rfl (by omega) (sorts_i64b _) (enters_of Tryz.func299 (by kernel_rfl) rfl) 373 #[.pointer (some ⟨bm, 0, none⟩)] trivial (enters_of Tryz.func373 (by kernel_rfl) rfl) _ _
    (Nat.le_trans hsz (by decide)) (by omega) _ hseq
  change CallsIn _ _ Tryz.prog 286 _ _ _ at cS
  refine ((callsIn_wide).1 cS).mono ?_
  rintro e w' ⟨v, ss, rfl, hS, hrow, hnil, hbl⟩
  refine ⟨v, rfl, hbl, ?_⟩
  match hl : arr.toList, h1 with
  | [], _ =>
    rw [hl] at hD
    have hD : (DataW.map [] : DataW Unit) = D0 := hD
    rw [← hD] at hS
    have hss : ss = [] := List.perm_nil.1 hS
    exact .inl ⟨rfl, hnil.2 hss⟩
  | [x], _ =>
    rw [hl] at hD
    obtain ⟨s, hs, hle⟩ := hk x (by rw [hl]; simp)
    have hrg := Go.WideElems.rg_of (hrd x (by rw [hl]; simp) s hs hle)
    have hD : (DataW.map [(.int .i64 s, .nil)] : DataW Unit) = D0 := by rw [← hD]; simp only [List.map_cons, List.map_nil, hrg]; rfl
    rw [← hD] at hS
    have hss : ss = [s] := List.perm_singleton.1 hS
    subst hss
    have hval : encZ s = x.key := by rw [hs]
    refine .inr ?_
    obtain ⟨_, hrow⟩ := hrow
    rcases hrow with ⟨hv, _⟩ | ⟨g, cap, cur, hv, hg, hh, h3, _, h4, h5⟩
    · exact absurd (hnil.1 hv) (by simp)
    · refine ⟨x, g, cap, cur, _, rfl, hv, hg, hh, h3, by simpa using h4, ?_⟩
      simp only [List.mergeSort_singleton, List.map_cons, List.map_nil, List.length_cons, List.length_nil, Nat.zero_add, Nat.one_mul, hval] at h5
      rw [← Array.getElem?_toList]
      cases hcl : cur.toList with
      | nil => rw [hcl] at h5; simp at h5
      | cons y r => rw [hcl] at h5; simp at h5; simp [h5]


def keyStr : Value → List UInt8
  | .string b => b.data.toList
  | _ => []
theorem keyStr_enc (s : List UInt8) : keyStr (encStr s) = s := by simp [keyStr, encStr]
theorem strN (bm mb : Nat) (arr : Array MapEntry) (clock : Nat) (w : World) (hc : w.cell? ⟨bm, 0, none⟩ = some (.map (some mb))) (hb : w.heap[mb]? = some (.map arr clock)) (h1 : arr.toList.length ≤ 1000)
    (hst : ∀ x ∈ arr.toList, x.born < clock) (hnb : (arr.toList.map (·.born)).Nodup) (ks rs : List (List UInt8)) (hks : arr.toList.map (·.key) = ks.map encStr) (hlk : ∀ s ∈ ks, s.length ≤ maxLen) (hp : rs.Perm ks) (hs : rs.Pairwise (fun a b => a < b)) (hne : ks ≠ []) :
    Calls Tryz.prog 44 #[.func (.func 58) #[] #[.pointer (some ⟨bm, 0, none⟩)]] w fun e w' => ∃ v, e = .returned v ∧ Below w.heap.size w w' ∧
      ∃ g cap cur ty, v = .slice (some ⟨g, 0, none⟩) rs.length cap ∧ w.heap.size ≤ g ∧ w'.heap[g]? = some (.cells cur ty (0, 0)) ∧ rs.length ≤ cap ∧ cur.size = cap ∧ cur.toList.take rs.length = rs.map encStr := by
  let R : Value → Option (DataW Unit × List MemPlace) := fun _ => some (.nil, [])
  have hu : Tryz.prog.underlying 9 = some TypeDesc.string := Tryz.underlying9
  have hlt_ne : ∀ a b : List UInt8, a < b → a ≠ b := fun a b h e => by subst e; exact List.lt_irrefl a h
  have hrn : rs.Nodup := hs.imp (fun {a b} h => hlt_ne a b h)
  have hkn : (arr.toList.map (·.key)).Nodup := by
    rw [hks]
    exact List.pairwise_map.2 ((hp.nodup_iff.1 hrn).imp (fun {a b} h e => h (encStr_inj e)))
  have hkey : ∀ x ∈ arr.toList, ∃ s ∈ ks, x.key = encStr s := fun x hx => by
    have : x.key ∈ arr.toList.map (·.key) := List.mem_map_of_mem hx
    rw [hks] at this
    obtain ⟨s, h1, h2⟩ := List.mem_map.1 this
    exact ⟨s, h1, h2.symm⟩
  have hrd : ∀ x ∈ arr.toList, Go.WideElems.rd Tryz.prog 9 R x = some (.string (keyStr x.key), .nil) := fun x hx => by
    obtain ⟨s, h1, h2⟩ := hkey x hx
    have h3 := hlk s h1
    rw [h2, keyStr_enc]
    have h4 : (ByteArray.mk s.toArray).data.size ≤ maxLen := by simpa using h3
    simp only [Go.WideElems.rd, h2, encStr, keyOf, mapKey, hu, R]
    have h5 : (ByteArray.mk s.toArray).size ≤ maxLen := by show s.toArray.size ≤ maxLen; simpa using h3
    rw [if_pos h5]; rfl
  have hle : arr.size ≤ maxLen := by
    have h2 : arr.size = arr.toList.length := by simp
    have h3 : maxLen = 9223372036854775807 := rfl
    omega
  have Ft : Go.WideElems.Fit Tryz.prog 9 R arr clock := ⟨hle, ⟨hst, hnb, hkn⟩, fun x hx => ⟨_, hrd x hx⟩⟩
  have hown : w.ownsMap Tryz.prog 9 R mb arr.size (.map ((arr.toList.map (Go.WideElems.rg Tryz.prog 9 R)).foldr DataW.insert [])) := ⟨arr, clock, hb, Ft, Nat.le_refl _, rfl⟩
  have hsk : (strKeys (.map ((arr.toList.map (Go.WideElems.rg Tryz.prog 9 R)).foldr DataW.insert []) : DataW Unit)).Perm ks := by
    have h2 := (Go.WideShapes.sorted_perm (arr.toList.map (Go.WideElems.rg Tryz.prog 9 R))).map (fun p => strOf p.1)
    have h3 : (arr.toList.map (Go.WideElems.rg Tryz.prog 9 R)).map (fun p => strOf p.1) = ks := by
      rw [List.map_map]
      have h4 : arr.toList.map ((fun p => strOf p.1) ∘ Go.WideElems.rg Tryz.prog 9 R) = (arr.toList.map (·.key)).map keyStr := by
        rw [List.map_map]
        refine List.map_congr_left fun x hx => ?_
        have h6 := Go.WideElems.rg_of (hrd x hx)
        simp only [Function.comp, h6, strOf]
      rw [h4, hks, List.map_map]
      have h5 : (keyStr ∘ encStr) = id := funext fun s => keyStr_enc s
      rw [h5, List.map_id]
    rw [h3] at h2
    exact h2
  have hszl : Maps.size (.map ((arr.toList.map (Go.WideElems.rg Tryz.prog 9 R)).foldr DataW.insert []) : DataW Unit) ≤ 1000 := by
    show ((arr.toList.map (Go.WideElems.rg Tryz.prog 9 R)).foldr DataW.insert []).length ≤ 1000
    rw [(Go.WideShapes.sorted_perm _).length_eq, List.length_map]; exact h1
  generalize (DataW.map ((arr.toList.map (Go.WideElems.rg Tryz.prog 9 R)).foldr DataW.insert []) : DataW Unit) = D0 at hown hsk hszl
  have hbm := World.block_lt_of_cell? w _ hc
  have hseq : SeqGives Fence.wide 2 Tryz.prog 58 #[.pointer (some ⟨bm, 0, none⟩)] encStr (fun ss => ss.Perm (strKeys D0)) (Maps.size D0) w :=
    AnyZ.keys_gives (ρ := Tryz.keysS_ren) { Tryz.keysS with } Fence.wide _ trivial rfl (by omega) bm mb arr.size D0 w hbm hc hown
  have cS := AnyZ.sorted_in Tryz.sortedS Fence.wide 5 trivial trivial trivial trivial rfl (by omega) (sorts_str _) (enters_of Tryz.func57 (by kernel_rfl) rfl) 58 #[.pointer (some ⟨bm, 0, none⟩)] trivial (enters_of Tryz.func58 (by kernel_rfl) rfl) _ _
    (Nat.le_trans hszl (by decide)) (by omega) _ hseq
  change CallsIn _ _ Tryz.prog 44 _ _ _ at cS
  refine ((callsIn_wide).1 cS).mono ?_
  rintro e w' ⟨v, ss, rfl, hS, hrow, hnil, hbl⟩
  refine ⟨v, rfl, hbl, ?_⟩
  have hpr : ss.Perm rs := (hS.trans hsk).trans hp.symm
  have hms : ss.mergeSort (fun x y => decide (x ≤ y)) = rs := by
    have tr : ∀ a b c : List UInt8, leB a b = true → leB b c = true → leB a c = true := fun a b c h1 h2 => by simp only [leB, decide_eq_true_eq] at *; exact List.le_trans h1 h2
    have tot : ∀ a b : List UInt8, (leB a b || leB b a) = true := fun a b => by simp only [leB, Bool.or_eq_true, decide_eq_true_eq]; exact List.le_total a b
    refine List.Perm.eq_of_pairwise (le := fun a b => leB a b = true) (fun a b _ _ h1 h2 => ?_) (List.pairwise_mergeSort tr tot ss) (hs.imp fun {a b} h => ?_) ((List.mergeSort_perm ss leB).trans hpr)
    · simp only [leB, decide_eq_true_eq] at h1 h2
      exact List.le_antisymm h1 h2
    · simp only [leB, decide_eq_true_eq]
      exact List.le_of_lt h
  rw [hms] at hrow
  have hln : ss.length = rs.length := hpr.length_eq
  obtain ⟨_, hrow⟩ := hrow
  rcases hrow with ⟨hv, hz⟩ | ⟨g, cap, cur, hv, hg, hh, h3, _, h4, h5⟩
  · exact absurd (List.perm_nil.1 ((hnil.1 hv) ▸ (hS.trans hsk)).symm) hne
  · exact ⟨g, cap, cur, _, by rw [← hln]; exact hv, hg, hh, by omega, by simpa using h4, by rw [← hln]; simpa using h5⟩

noncomputable section
/-! ### A new block somewhere behind the old ones -/
theorem HR.newAt {ρ : Ev.Ren} {ht : Ht} {nx : Nat} {w w' : World} {l : Ev.Loc} {o : Obj} {k : Blk} (a : HR ρ (.mk ht nx) w) (hn : nx < 8 ^ 5) (hl : w.heap.size ≤ l.B)
    (hw : w'.heap[l.B]? = some o) (hkeep : ∀ B, B < w.heap.size → w'.heap[B]? = w.heap[B]?) (hr : BlkR (upd ρ nx l) k l o) : HR (upd ρ nx l) (.mk (put 5 nx k ht) (nx + 1)) w' := by
  have hs := Sub.upd (l := l) a.fresh
  have hf := a.fresh
  refine ⟨fun b l' hb => ?_, fun b l' hb hk => ?_, fun b1 b2 l1 l2 h1 h2 h3 h4 q => ?_, fun b hb => ?_⟩
  · show b < nx + 1
    by_cases e : b = nx
    · omega
    · have := a.dom b l' (by simpa [upd, e] using hb)
      have : b < nx := this
      omega
  · rw [H.at_put hn k b] at hk ⊢
    by_cases e : b = nx
    · subst e
      rw [upd_at] at hb; cases hb
      rw [if_pos rfl]
      exact ⟨o, hw, hr⟩
    · rw [if_neg e] at hk ⊢
      have hb' : ρ b = some l' := by simpa [upd, e] using hb
      obtain ⟨o', h1, h2⟩ := a.blk b l' hb' hk
      refine ⟨o', ?_, h2.mono hs⟩
      rw [hkeep _ (Array.getElem?_eq_some_iff.1 h1).1]
      exact h1
  · rw [H.at_put hn k b1] at h3
    rw [H.at_put hn k b2] at h4
    have lt : ∀ b l', b ≠ nx → upd ρ nx l b = some l' → (H.mk ht (nx + 1)).at b ≠ .no → l'.B < w.heap.size := fun b l' e hb hk => a.lt (b := b) (by simpa [upd, e] using hb) hk
    by_cases e1 : b1 = nx <;> by_cases e2 : b2 = nx
    · rw [e1, e2]
    · exfalso
      subst e1
      rw [upd_at] at h1; cases h1
      rw [if_neg e2] at h4
      have := lt b2 l2 e2 h2 h4
      omega
    · exfalso
      subst e2
      rw [upd_at] at h2; cases h2
      rw [if_neg e1] at h3
      have := lt b1 l1 e1 h1 h3
      omega
    · rw [if_neg e1] at h3
      rw [if_neg e2] at h4
      exact a.inj b1 b2 l1 l2 (by simpa [upd, e1] using h1) (by simpa [upd, e2] using h2) h3 h4 q
  · have hb : nx + 1 ≤ b := hb
    rw [H.at_put hn k b, if_neg (by omega)]
    exact a.cl b (by show nx ≤ b; omega)
theorem Ext.newAt {ρ : Ev.Ren} {ht : Ht} {nx : Nat} {w w' : World} {l : Ev.Loc} {k : Blk} (a : HR ρ (.mk ht nx) w) (hn : nx < 8 ^ 5) (hl : w.heap.size ≤ l.B)
    (hkeep : ∀ B, B < w.heap.size → w'.heap[B]? = w.heap[B]?) (hw2 : Below 0 w w') : Ext ρ (.mk ht nx) w (upd ρ nx l) (.mk (put 5 nx k ht) (nx + 1)) w' where
  sub := Sub.upd a.fresh
  own := fun B h => by
    obtain ⟨b1, l1, h1, h2, h3⟩ := h
    rw [H.at_put hn k b1] at h2
    by_cases e : b1 = nx
    · subst e
      rw [upd_at] at h1; cases h1
      exact .inr (by omega)
    · rw [if_neg e] at h2
      exact .inl ⟨b1, l1, by simpa [upd, e] using h1, h2, h3⟩
  keep := fun B hB _ => hkeep B hB
  below := hw2
  ghost := fun b hb hnn => by
    have hb : b < nx := hb
    exact ⟨by simp only [upd]; rw [if_neg (by omega)]; exact hnn, by rw [H.at_put hn k b, if_neg (by omega)]⟩
  nx := by show nx ≤ nx + 1; omega
theorem HR.kept {ρ : Ev.Ren} {h : H} {w w' : World} (a : HR ρ h w) (hkeep : ∀ B, B < w.heap.size → w'.heap[B]? = w.heap[B]?) : HR ρ h w' :=
  ⟨a.dom, fun b l h1 h2 => by
    obtain ⟨ob, g1, g2⟩ := a.blk b l h1 h2
    exact ⟨ob, by rw [hkeep _ (Array.getElem?_eq_some_iff.1 g1).1]; exact g1, g2⟩, a.inj, a.cl⟩
theorem Ext.kept {ρ : Ev.Ren} {h : H} {w w' : World} (hkeep : ∀ B, B < w.heap.size → w'.heap[B]? = w.heap[B]?) (hb : Below 0 w w') : Ext ρ h w ρ h w' :=
  ⟨Sub.refl ρ, fun _ h => .inl h, fun B hB _ => hkeep B hB, hb, fun _ _ h => ⟨h, rfl⟩, Nat.le_refl _⟩

/-! ### The law of its own -/
def onFn (f : Nat → R) (fn : Fn) : R := Fn.rec (motive := fun _ => R) f (fun _ => false) (fun _ _ => false) (fun _ _ _ _ => false) (fun _ => false) fn
theorem onFn_true {f : Nat → R} {fn : Fn} (h : onFn f fn = true) : ∃ g, fn = .func g ∧ f g = true := by
  cases fn <;> first | exact ⟨_, rfl, h⟩ | exact (Bool.false_ne_true h).elim
def avFn (f : Fn → List AV → List AV → R) (x : AV) : R := AV.rec (motive_1 := fun _ => R) (motive_2 := fun _ => Unit) false false (fun _ => false) (fun _ _ => false) (fun _ _ => false) (fun _ _ _ => false) (fun _ _ => false) (fun _ _ _ _ => false) (fun _ _ _ => false) (fun _ _ => false) false (fun _ _ => false) false false false false false (fun y0 y1 y2 _ _ => f y0 y1 y2) (fun _ _ _ => false) (fun _ => false) (fun _ _ => false) (fun _ _ => false) (fun _ => false) (fun _ _ _ _ => false) (fun _ _ => false) (fun _ => false) (fun _ _ => false) () (fun _ _ _ _ => ()) x
theorem avFn_true {f : Fn → List AV → List AV → R} {x : AV} (h : avFn f x = true) : ∃ fn a c, x = .f fn a c ∧ f fn a c = true := by
  cases x <;> first | exact (Bool.false_ne_true h).elim | exact ⟨_, _, _, rfl, h⟩
def keyS (x : AV) : Bool := AV.rec (motive_1 := fun _ => Bool) (motive_2 := fun _ => Unit) false false (fun _ => false) (fun _ _ => false) (fun _ _ => false) (fun _ _ _ => false) (fun _ _ => false) (fun _ _ _ _ => false) (fun _ _ _ => false) (fun _ _ => false) false (fun _ _ => false) false false false false false (fun _ _ _ _ _ => false) (fun _ _ _ => false) (fun _ => false) (fun _ _ => false) (fun _ _ => false) (fun l => Nat.blt (llen l) 1000000) (fun _ _ _ _ => false) (fun _ _ => false) (fun _ => false) (fun _ _ => false) () (fun _ _ _ _ => ()) x
def keyI (x : AV) : Bool := AV.rec (motive_1 := fun _ => Bool) (motive_2 := fun _ => Unit) false false (fun _ => false) (fun _ _ => false) (fun _ _ => false) (fun _ _ _ => false) (fun _ _ => false) (fun _ _ _ _ => false) (fun _ _ _ => false) (fun _ _ => false) false (fun _ _ => false) false false false false false (fun _ _ _ _ _ => false) (fun _ _ _ => false) (fun _ => false) (fun _ _ => false) (fun _ _ => false) (fun _ => false) (fun _ _ _ _ => false) (fun _ _ => false) (fun _ => false) (fun kd _ => Nat.beq (kc kd) (kc .i64)) () (fun _ _ _ _ => ()) x
def sortE (ok : AV → Bool) (h : H) (k : AV → H → R) (clock : Nat) (e : ME) : R :=
  ME.rec (motive := fun _ => R) (fun key _ b => gd (Nat.blt b clock) (gd (ok key) (Ev.new h (blkC 1 [key]) (fun nx h => k (.sl nx 0 1 1) h)))) e
def sortM (ok : AV → Bool) (h : H) (k : AV → H → R) (es : List ME) (clock : Nat) : R := List.rec (motive := fun _ => R) (k .sl0 h) (fun e t _ => List.rec (motive := fun _ => R) (sortE ok h k clock e) (fun _ _ _ => false) t) es
def sortP (ok : AV → Bool) (h : H) (k : AV → H → R) (b o : Nat) : R := gd (Nat.beq o 0) (ldc h b 0 (avM (fun r => ldM h r (sortM ok h k))))
def memN (g : Nat) (l : List Nat) : Bool := List.rec (motive := fun _ => Bool) false (fun a _ ih => or (Nat.beq g a) ih) l
def sortF (gs : List Nat) (ok : AV → Bool) (h : H) (k : AV → H → R) (fn : Fn) (a c : List AV) : R :=
  onFn (fun g => gd (memN g gs) (gd (Nat.beq (llen a) 0) (gd (Nat.beq (llen c) 1) (nth 0 c (onP (sortP ok h k)))))) fn
def sortFF (gs : List Nat) (ok : AV → Bool) : FF := ⟨fun _ l h k => gd (Nat.beq (llen l) 1) (nth 0 l (avFn (sortF gs ok h k)))⟩
/-- What is asked of the real function. -/
def SortLaw (P : Program) (f g : Nat) (okv : Value → Prop) : Prop :=
  ∀ (bm mb : Nat) (arr : Array MapEntry) (clock : Nat) (w : World), w.cell? ⟨bm, 0, none⟩ = some (.map (some mb)) → w.heap[mb]? = some (.map arr clock) → arr.toList.length ≤ 1 →
    (∀ x ∈ arr.toList, x.born < clock) → (∀ x ∈ arr.toList, okv x.key) →
    Calls P f #[.func (.func g) #[] #[.pointer (some ⟨bm, 0, none⟩)]] w fun e w' => ∃ v, e = .returned v ∧ Below w.heap.size w w' ∧
      ((arr.toList = [] ∧ v = .slice none 0 0) ∨ ∃ x g cap cur ty, arr.toList = [x] ∧ v = .slice (some ⟨g, 0, none⟩) 1 cap ∧ w.heap.size ≤ g ∧ w'.heap[g]? = some (.cells cur ty (0, 0)) ∧ 1 ≤ cap ∧ cur.size = cap ∧ cur[0]? = some x.key)
theorem memN_true {g : Nat} : ∀ {l : List Nat}, memN g l = true → g ∈ l
  | [], h => (Bool.false_ne_true h).elim
  | a :: l, h => by
    have h : or (Nat.beq g a) (memN g l) = true := h
    cases hb : Nat.beq g a with
    | true => rw [Nat.eq_of_beq_eq_true hb]; simp
    | false => rw [hb] at h; exact List.mem_cons_of_mem _ (memN_true h)
theorem below0 {w w' : World} (h : Below w.heap.size w w') : Below 0 w w' := ⟨h.os, h.tape, h.output, h.size, fun k hk => absurd hk (Nat.not_lt_zero k)⟩
theorem sort_ok {P : Program} {f : Nat} {gs : List Nat} {ok : AV → Bool} {okv : Value → Prop} (hok : ∀ x, ok x = true → (x ≠ .un ∧ flats true [x] = true) ∧ ∀ ρ v, VR ρ x v → okv v) (law : ∀ g ∈ gs, SortLaw P f g okv) : FnOk P f (sortFF gs ok) := by
  intro cH hc args h F e ρ vs w hr hv
  obtain ⟨hl1, e⟩ := gd_true (show gd (Nat.beq (llen args) 1) (nth 0 args (avFn (sortF gs ok h F))) = true from e)
  obtain ⟨x, hx, e⟩ := nth_true e
  obtain ⟨fn, a, c, rfl, e⟩ := avFn_true e
  obtain ⟨g, rfl, e⟩ := onFn_true e
  obtain ⟨hg, e⟩ := gd_true e
  obtain ⟨ha, e⟩ := gd_true e
  obtain ⟨hcl, e⟩ := gd_true e
  obtain ⟨y, hy, e⟩ := nth_true e
  obtain ⟨b, o, rfl, e⟩ := onP_true e
  obtain ⟨ho, e⟩ := gd_true (show gd (Nat.beq o 0) (ldc h b 0 (avM (fun r => ldM h r (sortM ok h F)))) = true from e)
  obtain rfl : o = 0 := Nat.eq_of_beq_eq_true ho
  obtain ⟨x', g1, g2⟩ := hv.at 0 _ hx
  have hn := hv.length
  rw [← llen_eq args, Nat.eq_of_beq_eq_true hl1] at hn
  have hvs : vs = #[x'] := by
    apply Array.toList_inj.1
    match hvl : vs.toList, hn, g1 with
    | [a], _, g1 => simp at g1; rw [g1]
  subst hvs
  simp only [VR] at g2
  obtain ⟨a', c', rfl, g3, g4⟩ := g2
  have ha' : a' = #[] := by
    apply Array.toList_inj.1
    have := g3.length
    rw [← llen_eq a, Nat.eq_of_beq_eq_true ha] at this
    exact List.eq_nil_of_length_eq_zero this
  subst ha'
  obtain ⟨y', k1, k2⟩ := g4.at 0 _ hy
  have hc' : c' = #[y'] := by
    apply Array.toList_inj.1
    have := g4.length
    rw [← llen_eq c, Nat.eq_of_beq_eq_true hcl] at this
    match hvl : c'.toList, this, k1 with
    | [a], _, k1 => simp at k1; rw [k1]
  subst hc'
  obtain ⟨l, hlb, rfl⟩ := VR_p k2
  obtain ⟨d, t, n, z, hk, ho', e⟩ := ldc_true e
  obtain ⟨v, hcv, hvv, _⟩ := cell_at hr.blk hlb hk ho'
  obtain ⟨r, hrm, e⟩ := avM_true e
  rw [hrm] at hvv
  simp only [VR] at hvv
  obtain ⟨l2, hl2, rfl⟩ := hvv
  obtain ⟨es, clock, hat, e⟩ := ldM_true e
  obtain ⟨arr, hheap, hms⟩ := map_at hr.blk hl2 hat
  rw [l.o0] at hcv ⊢
  have law := law g (memN_true hg) l.B l2.B arr clock w hcv hheap
  match es, hms, e with
  | [], hms, e =>
    have hms : arr.toList = [] := hms
    refine (law (by simp [hms]) (by simp [hms]) (by simp [hms])).mono ?_
    rintro e_ w' ⟨v, rfl, hb, h⟩
    have hb0 := below0 hb
    rcases h with ⟨_, rfl⟩ | ⟨x, _, _, _, _, hx, _⟩
    · exact ⟨_, rfl, .sl0, h, ρ, e, HR.kept hr (fun B hB => hb.block B hB), Ext.kept (fun B hB => hb.block B hB) hb0, by simp only [VR]⟩
    · rw [hms] at hx; cases hx
  | [.mk key val bn], hms, e =>
    obtain ⟨en, rr, hal, h1, h2⟩ := hms
    have hrr : rr = [] := h2
    subst hrr
    obtain ⟨e1, e⟩ := gd_true (show gd (Nat.blt bn clock) (gd (ok key) (Ev.new h (blkC 1 [key]) (fun nx h => F (.sl nx 0 1 1) h))) = true from e)
    obtain ⟨e2, e⟩ := gd_true e
    obtain ⟨hn5, e⟩ := new_true e
    obtain ⟨⟨hne, hfl⟩, hokv⟩ := hok key e2
    have hbn : en.born = bn := h1.2.2
    refine (law (by simp [hal]) (fun x hx => by rw [hal] at hx; simp at hx; subst hx; rw [hbn]; simpa [Nat.blt_eq] using e1) (fun x hx => by rw [hal] at hx; simp at hx; subst hx; exact hokv ρ _ h1.1)).mono ?_
    rintro e_ w' ⟨v, rfl, hb, hh⟩
    have hb0 := below0 hb
    rcases hh with ⟨hx, _⟩ | ⟨x, g, cap, cur, ty, hx, rfl, hg, hhp, hcap, hcs, hc0⟩
    · rw [hal] at hx; cases hx
    · rw [hal] at hx
      injection hx with hx _
      subst hx
      have hr' : HR ρ (.mk h.t h.nx) w := by rw [H.eta]; exact hr
      have hlaid : LaidBy (blkC 1 [key]) [key] 1 := blkC_laid (show 1 ≤ 32768 by decide)
      obtain ⟨d, t, hbk, h8, hget⟩ := hlaid
      have hblk : BlkR (upd ρ h.nx ⟨g, 0, cap - 1⟩) (blkC 1 [key]) ⟨g, 0, cap - 1⟩ (.cells cur ty (0, 0)) := by
        rw [hbk]
        refine ⟨h8, cur, ty, (0, 0), rfl, ?_, fun i hi => ?_, fun i _ hi => ?_⟩
        · show 0 + 1 + (cap - 1) * 1 ≤ cur.size
          omega
        · have hi : i < 1 := hi
          obtain rfl : i = 0 := by omega
          refine ⟨_, hc0, ?_⟩
          rw [hget 0 key rfl]
          exact VR.mono (Sub.upd hr'.fresh) _ _ h1.1
        · have := hi.2
          simp at this
      have hkp : ∀ B, B < w.heap.size → w'.heap[B]? = w.heap[B]? := fun B hB => hb.block B hB
      refine ⟨_, rfl, .sl h.nx 0 1 1, _, _, e, HR.newAt hr' hn5 hg hhp hkp hblk, by have := Ext.newAt (l := ⟨g, 0, cap - 1⟩) (k := blkC 1 [key]) hr' hn5 hg hkp hb0; rw [H.eta] at this; exact this, ?_⟩
      simp only [VR]
      exact ⟨⟨g, 0, cap - 1⟩, ⟨g, 0, none⟩, cap, upd_at _ _ _, rfl, hcap, .inr (by show cap = 1 + (cap - 1); omega), .inl rfl⟩
  | _ :: _ :: _, hms, e => exact (Bool.false_ne_true e).elim
/-! ### Strings, as many as there are -/
def keysE (es : List ME) : List AV := List.rec (motive := fun _ => List AV) [] (fun e _ ih => ME.rec (motive := fun _ => List AV) (fun key _ _ => key :: ih) e) es
def sLt2 (l : List Nat) (y : AV) : Bool := AV.rec (motive_1 := fun _ => Bool) (motive_2 := fun _ => Unit) false false (fun _ => false) (fun _ _ => false) (fun _ _ => false) (fun _ _ _ => false) (fun _ _ => false) (fun _ _ _ _ => false) (fun _ _ _ => false) (fun _ _ => false) false (fun _ _ => false) false false false false false (fun _ _ _ _ _ => false) (fun _ _ _ => false) (fun _ => false) (fun _ _ => false) (fun _ _ => false) (fun m => lless l m) (fun _ _ _ _ => false) (fun _ _ => false) (fun _ => false) (fun _ _ => false) () (fun _ _ _ _ => ()) y
def sLt (x y : AV) : Bool := AV.rec (motive_1 := fun _ => Bool) (motive_2 := fun _ => Unit) false false (fun _ => false) (fun _ _ => false) (fun _ _ => false) (fun _ _ _ => false) (fun _ _ => false) (fun _ _ _ _ => false) (fun _ _ _ => false) (fun _ _ => false) false (fun _ _ => false) false false false false false (fun _ _ _ _ _ => false) (fun _ _ _ => false) (fun _ => false) (fun _ _ => false) (fun _ _ => false) (fun l => sLt2 l y) (fun _ _ _ _ => false) (fun _ _ => false) (fun _ => false) (fun _ _ => false) () (fun _ _ _ _ => ()) x
def insK (x : AV) (l : List AV) : List AV := List.rec (motive := fun _ => List AV) [x] (fun y t ih => Bool.rec (motive := fun _ => List AV) (x :: y :: t) (y :: ih) (sLt y x)) l
def isortK (l : List AV) : List AV := List.rec (motive := fun _ => List AV) [] (fun x _ ih => insK x ih) l
def chainS (l : List AV) : Bool := List.rec (motive := fun _ => Bool) true (fun x t ih => and (List.rec (motive := fun _ => Bool) true (fun y _ _ => sLt x y) t) ih) l
def allS (l : List AV) : Bool := List.rec (motive := fun _ => Bool) true (fun x _ ih => and (keyS x) ih) l
def sortN (h : H) (k : AV → H → R) (es : List ME) (clock : Nat) (l : List AV) : R :=
  gd (bornB clock es) (gd (allS l) (gd (chainS l) (fc (fun n => gd (Nat.ble n 1000) (mkBlk 1 l (fun b => Ev.new h b (fun nx h => k (.sl nx 0 n n) h)))) (llen es))))
def sortMN (h : H) (k : AV → H → R) (es : List ME) (clock : Nat) : R := List.rec (motive := fun _ => R) (k .sl0 h) (fun _ _ _ => sortN h k es clock (isortK (keysE es))) es
def sortPN (h : H) (k : AV → H → R) (b o : Nat) : R := gd (Nat.beq o 0) (ldc h b 0 (avM (fun r => ldM h r (sortMN h k))))
def sortFN (gs : List Nat) (h : H) (k : AV → H → R) (fn : Fn) (a c : List AV) : R :=
  onFn (fun g => gd (memN g gs) (gd (Nat.beq (llen a) 0) (gd (Nat.beq (llen c) 1) (nth 0 c (onP (sortPN h k)))))) fn
def sortFFN (gs : List Nat) : FF := ⟨fun _ l h k => gd (Nat.beq (llen l) 1) (nth 0 l (avFn (sortFN gs h k)))⟩
theorem ins_VRs {ρ : Ev.Ren} {x : AV} {v : Value} (hx : VR ρ x v) : ∀ {l : List AV} {vs : List Value}, VRs ρ l vs → ∃ vs', VRs ρ (insK x l) vs' ∧ vs'.Perm (v :: vs)
  | [], vs, h => by
    simp only [VRs] at h
    subst h
    exact ⟨[v], by show VRs ρ [x] [v]; simp only [VRs]; exact ⟨v, [], rfl, hx, rfl⟩, .refl _⟩
  | y :: l, vs, h => by
    have h0 := h
    simp only [VRs] at h
    obtain ⟨u, r, rfl, h1, h2⟩ := h
    have e : insK x (y :: l) = (Bool.rec (motive := fun _ => List AV) (x :: y :: l) (y :: insK x l) (sLt y x) : List AV) := rfl
    rw [e]
    cases sLt y x with
    | false => exact ⟨v :: u :: r, by show VRs ρ (x :: y :: l) _; rw [VRs]; exact ⟨v, _, rfl, hx, h0⟩, .refl _⟩
    | true =>
      obtain ⟨vs', g1, g2⟩ := ins_VRs hx h2
      exact ⟨u :: vs', by show VRs ρ (y :: insK x l) _; rw [VRs]; exact ⟨u, _, rfl, h1, g1⟩, (g2.cons u).trans (List.Perm.swap v u r)⟩
theorem isort_VRs {ρ : Ev.Ren} : ∀ {l : List AV} {vs : List Value}, VRs ρ l vs → ∃ vs', VRs ρ (isortK l) vs' ∧ vs'.Perm vs
  | [], vs, h => ⟨vs, h, .refl _⟩
  | x :: l, vs, h => by
    simp only [VRs] at h
    obtain ⟨v, r, rfl, h1, h2⟩ := h
    obtain ⟨vs1, g1, g2⟩ := isort_VRs h2
    obtain ⟨vs2, g3, g4⟩ := ins_VRs h1 g1
    exact ⟨vs2, g3, g4.trans (g2.cons v)⟩
theorem keysE_VRs {ρ : Ev.Ren} : ∀ {es : List ME} {arr : List MapEntry}, MERs ρ es arr → VRs ρ (keysE es) (arr.map (·.key))
  | [], arr, h => by have : arr = [] := h; subst this; simp only [List.map_nil]; show VRs ρ [] []; simp only [VRs]
  | .mk k v b :: es, arr, h => by
    obtain ⟨e, r, rfl, h1, h2⟩ := h
    show VRs ρ (k :: keysE es) _
    rw [VRs]
    exact ⟨e.key, r.map (·.key), rfl, h1.1, keysE_VRs h2⟩
theorem strs_of {ρ : Ev.Ren} : ∀ {l : List AV} {vs : List Value}, allS l = true → VRs ρ l vs → ∃ rs : List (List UInt8), vs = rs.map encStr ∧ (∀ s ∈ rs, s.length ≤ maxLen) ∧ l = rs.map (fun s => AV.s (s.map UInt8.toNat))
  | [], vs, _, h => by simp only [VRs] at h; subst h; exact ⟨[], rfl, by simp, rfl⟩
  | x :: l, vs, ha, h => by
    obtain ⟨ha1, ha2⟩ := and_t (show and (keyS x) (allS l) = true from ha)
    simp only [VRs] at h
    obtain ⟨v, r, rfl, h1, h2⟩ := h
    obtain ⟨rs, g1, g2, g3⟩ := strs_of ha2 h2
    cases x <;> try exact (Bool.false_ne_true ha1).elim
    case s m =>
      obtain ⟨bs, rfl, hb⟩ := VR_s h1
      have hl : llen m < 1000000 := by simpa [Nat.blt_eq] using (show Nat.blt (llen m) 1000000 = true from ha1)
      have hsz := toB_size bs
      rw [hb] at hsz
      have hmx : maxLen = 9223372036854775807 := rfl
      refine ⟨bs.data.toList :: rs, by rw [g1]; simp [encStr], fun s hs => ?_, by rw [g3, ← hb]; rfl⟩
      rcases List.mem_cons.1 hs with rfl | hs
      · have h7 : bs.data.toList.length = bs.size := Array.length_toList
        omega
      · exact g2 s hs
theorem bless_eq : ∀ (x y : List UInt8), Op.bytesLess x y = decide (x < y)
  | [], [] => by simp [Op.bytesLess]
  | _ :: _, [] => by simp [Op.bytesLess]
  | [], _ :: _ => by simp [Op.bytesLess]
  | a :: x, b :: y => by
    rw [Op.bytesLess, bless_eq x y]
    simp only [List.cons_lt_cons_iff]
    by_cases h1 : a < b <;> by_cases h2 : a = b <;> by_cases h3 : x < y <;> simp [h1, h2, h3]
theorem chain_pw : ∀ rs : List (List UInt8), chainS (rs.map (fun s => AV.s (s.map UInt8.toNat))) = true → rs.Pairwise (fun a b => a < b)
  | [], _ => .nil
  | [a], _ => List.pairwise_singleton _ _
  | a :: b :: t, h => by
    obtain ⟨h1, h2⟩ := and_t (show and (lless (a.map UInt8.toNat) (b.map UInt8.toNat)) (chainS ((b :: t).map (fun s => AV.s (s.map UInt8.toNat)))) = true from h)
    have hp := chain_pw (b :: t) h2
    rw [lless_eq, bless_eq, decide_eq_true_iff] at h1
    refine List.pairwise_cons.2 ⟨fun c hc => ?_, hp⟩
    rcases List.mem_cons.1 hc with rfl | hc
    · exact h1
    · exact List.lt_trans h1 ((List.pairwise_cons.1 hp).1 c hc)
/-- What is asked of the real function. -/
def SortLawN (P : Program) (f g : Nat) : Prop :=
  ∀ (bm mb : Nat) (arr : Array MapEntry) (clock : Nat) (w : World), w.cell? ⟨bm, 0, none⟩ = some (.map (some mb)) → w.heap[mb]? = some (.map arr clock) → arr.toList.length ≤ 1000 →
    (∀ x ∈ arr.toList, x.born < clock) → (arr.toList.map (·.born)).Nodup → ∀ ks rs : List (List UInt8), arr.toList.map (·.key) = ks.map encStr → (∀ s ∈ ks, s.length ≤ maxLen) → rs.Perm ks → rs.Pairwise (fun a b => a < b) → ks ≠ [] →
    Calls P f #[.func (.func g) #[] #[.pointer (some ⟨bm, 0, none⟩)]] w fun e w' => ∃ v, e = .returned v ∧ Below w.heap.size w w' ∧
      ∃ g cap cur ty, v = .slice (some ⟨g, 0, none⟩) rs.length cap ∧ w.heap.size ≤ g ∧ w'.heap[g]? = some (.cells cur ty (0, 0)) ∧ rs.length ≤ cap ∧ cur.size = cap ∧ cur.toList.take rs.length = rs.map encStr
theorem sortN_ok {P : Program} {f : Nat} {gs : List Nat} {okv : Value → Prop} (law0 : ∀ g ∈ gs, SortLaw P f g okv) (law : ∀ g ∈ gs, SortLawN P f g) : FnOk P f (sortFFN gs) := by
  intro cH hc args h F e ρ vs w hr hv
  obtain ⟨hl1, e⟩ := gd_true (show gd (Nat.beq (llen args) 1) (nth 0 args (avFn (sortFN gs h F))) = true from e)
  obtain ⟨x, hx, e⟩ := nth_true e
  obtain ⟨fn, a, c, rfl, e⟩ := avFn_true e
  obtain ⟨g, rfl, e⟩ := onFn_true e
  obtain ⟨hg, e⟩ := gd_true e
  obtain ⟨ha, e⟩ := gd_true e
  obtain ⟨hcl, e⟩ := gd_true e
  obtain ⟨y, hy, e⟩ := nth_true e
  obtain ⟨b, o, rfl, e⟩ := onP_true e
  obtain ⟨ho, e⟩ := gd_true (show gd (Nat.beq o 0) (ldc h b 0 (avM (fun r => ldM h r (sortMN h F)))) = true from e)
  obtain rfl : o = 0 := Nat.eq_of_beq_eq_true ho
  obtain ⟨x', g1, g2⟩ := hv.at 0 _ hx
  have hn := hv.length
  rw [← llen_eq args, Nat.eq_of_beq_eq_true hl1] at hn
  have hvs : vs = #[x'] := by
    apply Array.toList_inj.1
    match hvl : vs.toList, hn, g1 with
    | [a], _, g1 => simp at g1; rw [g1]
  subst hvs
  simp only [VR] at g2
  obtain ⟨a', c', rfl, g3, g4⟩ := g2
  have ha' : a' = #[] := by
    apply Array.toList_inj.1
    have := g3.length
    rw [← llen_eq a, Nat.eq_of_beq_eq_true ha] at this
    exact List.eq_nil_of_length_eq_zero this
  subst ha'
  obtain ⟨y', k1, k2⟩ := g4.at 0 _ hy
  have hc' : c' = #[y'] := by
    apply Array.toList_inj.1
    have := g4.length
    rw [← llen_eq c, Nat.eq_of_beq_eq_true hcl] at this
    match hvl : c'.toList, this, k1 with
    | [a], _, k1 => simp at k1; rw [k1]
  subst hc'
  obtain ⟨l, hlb, rfl⟩ := VR_p k2
  obtain ⟨d, t, n, z, hk, ho', e⟩ := ldc_true e
  obtain ⟨v, hcv, hvv, _⟩ := cell_at hr.blk hlb hk ho'
  obtain ⟨r, hrm, e⟩ := avM_true e
  rw [hrm] at hvv
  simp only [VR] at hvv
  obtain ⟨l2, hl2, rfl⟩ := hvv
  obtain ⟨es, clock, hat, e⟩ := ldM_true e
  obtain ⟨arr, hheap, hms⟩ := map_at hr.blk hl2 hat
  rw [l.o0] at hcv ⊢
  match es, hms, e with
  | [], hms, e =>
    have hms : arr.toList = [] := hms
    refine (law0 g (memN_true hg) l.B l2.B arr clock w hcv hheap (by simp [hms]) (by simp [hms]) (by simp [hms])).mono ?_
    rintro e_ w' ⟨v, rfl, hb, h⟩
    have hb0 := below0 hb
    rcases h with ⟨_, rfl⟩ | ⟨x, _, _, _, _, hx, _⟩
    · exact ⟨_, rfl, .sl0, h, ρ, e, HR.kept hr (fun B hB => hb.block B hB), Ext.kept (fun B hB => hb.block B hB) hb0, by simp only [VR]⟩
    · rw [hms] at hx; cases hx
  | e0 :: er, hms, e =>
    obtain ⟨e1, e⟩ := gd_true (show gd (bornB clock (e0 :: er)) (gd (allS (isortK (keysE (e0 :: er)))) (gd (chainS (isortK (keysE (e0 :: er)))) (fc (fun n => gd (Nat.ble n 1000) (mkBlk 1 (isortK (keysE (e0 :: er))) (fun b => Ev.new h b (fun nx h => F (.sl nx 0 n n) h)))) (llen (e0 :: er))))) = true from e)
    obtain ⟨e2, e⟩ := gd_true e
    obtain ⟨e3, e⟩ := gd_true e
    obtain ⟨e4, e⟩ := gd_true (show gd (Nat.ble (llen (e0 :: er)) 1000) (mkBlk 1 (isortK (keysE (e0 :: er))) (fun b => Ev.new h b (fun nx h => F (.sl nx 0 (llen (e0 :: er)) (llen (e0 :: er))) h))) = true from e)
    obtain ⟨kb, e5, hlaid⟩ := mkBlk_true e
    obtain ⟨hn5, e6⟩ := new_true e5
    obtain ⟨b1, b2⟩ := bornB_true e1 hms
    have hkv := keysE_VRs hms
    obtain ⟨vs', s1, s2⟩ := isort_VRs hkv
    obtain ⟨rs, r1, r2, r3⟩ := strs_of e2 s1
    have hpw : rs.Pairwise (fun a b => a < b) := chain_pw rs (by rw [← r3]; exact e3)
    -- the keys as they stand
    have hkl : arr.toList.map (·.key) = ((arr.toList.map (·.key)).map keyStr).map encStr := by
      have hall : ∀ v ∈ arr.toList.map (·.key), encStr (keyStr v) = v := fun v hv => by
        have : v ∈ vs' := s2.symm.subset hv
        rw [r1] at this
        obtain ⟨s, _, rfl⟩ := List.mem_map.1 this
        rw [keyStr_enc]
      rw [List.map_map]
      conv => lhs; rw [← List.map_id (arr.toList.map (·.key))]
      exact List.map_congr_left fun v hv => (hall v hv).symm
    have hperm : rs.Perm ((arr.toList.map (·.key)).map keyStr) := by
      have h2 := s2.map keyStr
      rw [r1, List.map_map, show (keyStr ∘ encStr) = id from funext fun s => keyStr_enc s, List.map_id] at h2
      exact h2
    have hlen : arr.toList.length = llen (e0 :: er) := by
      have h2 := hkv.length
      have h3 : ∀ q : List ME, (keysE q).length = llen q := fun q => by
        induction q with
        | nil => rfl
        | cons x q ih => cases x; show (_ :: keysE q).length = llen q + 1; rw [List.length_cons, ih]
      rw [List.length_map] at h2
      rw [h2, h3]
    have hrl : rs.length = llen (e0 :: er) := by rw [hperm.length_eq, List.length_map, List.length_map, hlen]
    refine (law g (memN_true hg) l.B l2.B arr clock w hcv hheap (by rw [hlen]; exact Nat.le_of_ble_eq_true e4) b1 b2 _ rs hkl (fun s hs => r2 s (hperm.symm.subset hs)) hperm hpw (fun q => by
      have h2 := congrArg List.length q
      simp only [List.length_map, List.length_nil] at h2
      rw [hlen] at h2
      exact absurd h2 (by show llen er + 1 ≠ 0; omega))).mono ?_
    rintro e_ w' ⟨v, rfl, hb, g, cap, cur, ty, rfl, hgs, hhp, hcap, hcs, hct⟩
    have hb0 := below0 hb
    have hr' : HR ρ (.mk h.t h.nx) w := by rw [H.eta]; exact hr
    obtain ⟨d, t, hbk, h8, hget⟩ := hlaid
    have hil : (isortK (keysE (e0 :: er))).length = rs.length := by rw [r3, List.length_map]
    have hblk : BlkR (upd ρ h.nx ⟨g, 0, cap - rs.length⟩) kb ⟨g, 0, cap - rs.length⟩ (.cells cur ty (0, 0)) := by
      rw [hbk]
      refine ⟨h8, cur, ty, (0, 0), rfl, ?_, fun i hi => ?_, fun i _ hi => ?_⟩
      · show 0 + (isortK (keysE (e0 :: er))).length + (cap - rs.length) * 1 ≤ cur.size
        omega
      · have hi2 : i < rs.length := by rw [← hil]; exact hi
        have hx2 : (isortK (keysE (e0 :: er)))[i]? = some ((isortK (keysE (e0 :: er)))[i]'hi) := List.getElem?_eq_getElem hi
        obtain ⟨vi, q1, q2⟩ := s1.at i _ hx2
        refine ⟨vi, ?_, ?_⟩
        · show cur[0 + i]? = some vi
          rw [Nat.zero_add, ← Array.getElem?_toList]
          rw [r1, ← hct, List.getElem?_take_of_lt hi2] at q1
          exact q1
        · rw [hget i _ hx2]
          exact VR.mono (Sub.upd hr'.fresh) _ _ q2
      · have := hi.2
        simp at this
    have hkp : ∀ B, B < w.heap.size → w'.heap[B]? = w.heap[B]? := fun B hB => hb.block B hB
    refine ⟨_, rfl, .sl h.nx 0 (llen (e0 :: er)) (llen (e0 :: er)), _, _, e6, HR.newAt hr' hn5 hgs hhp hkp hblk, by have := Ext.newAt (l := ⟨g, 0, cap - rs.length⟩) (k := kb) hr' hn5 hgs hkp hb0; rw [H.eta] at this; exact this, ?_⟩
    simp only [VR]
    exact ⟨⟨g, 0, cap - rs.length⟩, ⟨g, 0, none⟩, cap, upd_at _ _ _, by rw [hrl], by omega, .inr (by show cap = llen (e0 :: er) + (cap - rs.length); omega), .inl rfl⟩
theorem keyS_ok (x : AV) (h : keyS x = true) : (x ≠ .un ∧ flats true [x] = true) ∧ ∀ ρ v, VR ρ x v → ∃ s : ByteArray, v = .string s ∧ s.size ≤ maxLen := by
  cases x <;> try exact (Bool.false_ne_true h).elim
  case s l =>
    refine ⟨⟨by simp, rfl⟩, fun ρ v hv => ?_⟩
    obtain ⟨bs, rfl, hb⟩ := VR_s hv
    refine ⟨bs, rfl, ?_⟩
    have h : llen l < 1000000 := by simpa [Nat.blt_eq] using (show Nat.blt (llen l) 1000000 = true from h)
    have := toB_size bs
    rw [hb] at this
    have : maxLen = 9223372036854775807 := rfl
    omega
theorem keyI_ok (x : AV) (h : keyI x = true) : (x ≠ .un ∧ flats true [x] = true) ∧ ∀ ρ v, VR ρ x v → ∃ s : Int, v = .int .i64 s ∧ (Lit.int .i64 s).wf = true := by
  cases x <;> try exact (Bool.false_ne_true h).elim
  case i kd n =>
    refine ⟨⟨by simp, rfl⟩, fun ρ v hv => ?_⟩
    have hkd : kd = .i64 := kc_inj (Nat.eq_of_beq_eq_true h)
    subst hkd
    obtain ⟨_, rfl⟩ := VR_i hv
    refine ⟨_, rfl, ?_⟩
    have hm : IntKind.i64.min = -9223372036854775808 := by decide
    simp [Lit.wf, IntKind.wrap_i64, hm]
    omega
theorem sortS_ok : FnOk Tryz.prog 44 (sortFF [58] keyS) := sort_ok (okv := fun v => ∃ s : ByteArray, v = .string s ∧ s.size ≤ maxLen) keyS_ok (fun g hg => by simp at hg; subst hg; exact str)
theorem sortSN_ok : FnOk Tryz.prog 44 (sortFFN [58]) := sortN_ok (okv := fun v => ∃ s : ByteArray, v = .string s ∧ s.size ≤ maxLen) (fun g hg => by simp at hg; subst hg; exact str) (fun g hg => by simp at hg; subst hg; exact strN)
theorem sortI_ok : FnOk Tryz.prog 286 (sortFF [300, 373] keyI) := sort_ok (okv := fun v => ∃ s : Int, v = .int .i64 s ∧ (Lit.int .i64 s).wf = true) keyI_ok (fun g hg => by
  simp at hg
  rcases hg with rfl | rfl
  · exact i64
  · exact i64b)
end
end Go.Proofs.YtlpffldeogapmaaGreatDoor.EuE
