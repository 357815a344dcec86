/-
  Part 5 of what the proofs of this seat share: the executor, data in memory, walks.
-/
import Derived.Test.YtcccmnppfmfkiaaGreatDoorK4
import Derived.ChangeSame
import Derived.ChangeArms
import Derived.OpenShut
import Derived.Deep.DeepHandedRow
import Derived.Lib.LaidTab
import Derived.Test.YtcccmnppfmfkiaaGreatDoorRows
import Derived.Test.YtcccmnppfmfkiaaGreatDoorCards
import Derived.Test.YtcccmnppfmfkiaaGreatDoorTie
import Derived.WalkKit
import Derived.ProofKit

/-
  Walks: gram.May.
-/
set_option linter.unusedVariables false
set_option linter.unusedSimpArgs false
namespace Go.V
open Go Go.Proofs

def nodePairs : Nat → List Df → List (Nat × Nd)
  | _, [] => []
  | i, d :: ds => d.t.ns.map (fun n => (i, n)) ++ nodePairs (i + 1) ds
theorem nodeVals_eq : ∀ (ds : List Df) (i : Nat), nodeVals i ds = (nodePairs i ds).map fun p => [.int .i64 p.1, p.2.val]
  | [], i => rfl
  | d :: ds, i => by
    simp only [nodeVals, nodePairs, List.map_append, List.map_map, nodeVals_eq ds (i + 1)]
    rfl

def okDefs (ds : List Df) : Bool := ds.all fun d => mayName d.name && normal d.t
def dups : List (ByteArray × Int) → Nat → List Df → Option (List (ByteArray × Int))
  | acc, _, [] => some acc
  | acc, i, d :: ds => bif (lookM d.name acc).isSome then none else dups (acc ++ [(d.name, (i : Int))]) (i + 1) ds
def nodeOk (acc : List (ByteArray × Int)) (n : Nd) : Bool := !decide (n.k = 3) || (lookM n.t acc).isSome
def allNamed (acc : List (ByteArray × Int)) (ds : List Df) : Bool := (nodePairs 0 ds).all fun p => nodeOk acc p.2
def mayG (deb : List Int) (g : Gr) : Int :=
  bif decide ((g.n : Int) = 0) then 4 else bif !okDefs g.ds then 4 else bif largeG deb g then 40 else
  match dups [] 0 g.ds with
  | none => 6
  | some acc => bif allNamed acc g.ds then 0 else 41

def errB (b : Nat) (e : Int) : Blk := ⟨b, .cells #[.int .i64 e] 39 (0, 0)⟩
theorem errB_rd {I : GH} {M : List Blk} {b : Nat} {e : Int} (h : errB b e ∈ M) : Rd I M ⟨b, 0, none⟩ 1 [.int .i64 e] :=
  ⟨rfl, _, _, _, .inr ⟨_, h, rfl, rfl⟩, rfl, rfl⟩
theorem zero_int (w : World) : (zeroValue 3).run Tryz.prog w = .ok (.int .i64 0) w := by
  have h : (Tryz.prog.info? 3).map (fun i => i.zero) = some (some (.int .i64 0)) := by kernel_rfl
  obtain ⟨i, h1, h2⟩ := Option.map_eq_some_iff.1 h
  simp [zeroValue, typeInfo, h1, h2]

set_option maxHeartbeats 2000000 in
theorem May_spec {I : GH} {deb : List Int} (hT : Tabs I deb) {g : Gr} (hg : g.ok I) : Spec Tryz.prog 33 [g.val] I [] (fun v I' M' => v = .int .i64 (mayG deb g) ∧ (∀ b o, I b = some o → I' b = some o) ∧ M' = []) := by
  refine spec_of_V [2, 5] TryzEOK Tryz.func33 rfl rfl rfl ?_
  intro B h0
  have hgn := hg.n
  have hcap := hg.rs.cap
  refine AllocOb.mk fun b2 hb2 hbM2 => ?_
  refine CondOb.mk (fun h1 => ?_) (fun h1 => ?_)
  · refine StoreOb.mk [] [] _ _ rfl rfl (Nat.le_of_ble_eq_true rfl) rfl ?_
    refine LoadOb.mk _ (errB_rd (b := b2) (e := 4) (.head _)) ?_
    refine ⟨_, _, .sub (List.nil_sublist _) .refl, ?_, fun _ _ h => h, rfl⟩
    rw [mayG, h1]
    rfl
  · have hpos : g.n ≠ 0 := by simp at h1; omega
    refine LoopOb.inv (ι := Nat) (fun i => { fl := [(1, .ref 1 0), (2, .val (ptr b2)), (19, .val (.slice g.a g.n g.c)), (20, .val (.int .i64 g.n)), (21, .val (.int .i64 i))], cl := [(1, [.slice g.a g.n g.c])], gi := I, mi := [errB b2 0] })
      (fun i => i ≤ g.n ∧ okDefs (g.ds.take i) = true) (fun i => g.n - i) ?_ ?_
    · exact ⟨0, ⟨by simp, rfl⟩, .refl, .cons .refl (.cons .refl (.cons .refl (.cons .refl (.cons .refl .nil)))), .cons rfl .nil⟩
    · rintro i ⟨hi, hall⟩
      refine CondOb.mk (fun h => ?_) (fun h => ?_)
      · have hlt : i < g.n := by simpa using h
        have hlt' : i < g.ds.length := by omega
        obtain ⟨ad, had, hrd⟩ := hg.rs.row Df.cells_len hlt hlt'
        have hdm : g.ds[i] ∈ g.ds := List.getElem_mem hlt'
        have bad : (mayName g.ds[i].name && normal g.ds[i].t) = false → mayG deb g = 4 := fun hb => by
          have : okDefs g.ds = false := by
            unfold okDefs
            rw [List.all_eq_false]
            exact ⟨_, hdm, by simp [hb]⟩
          rw [mayG, h1, this]
          rfl
        refine IdxOb.mk ad i had rfl hlt ?_
        refine LoadOb.mk _ (hrd _) ?_
        refine CallOb.mk [] [errB b2 0] _ (.refl _) (NMay_spec _ g.ds[i].name) ?_
        rintro v I' M' - ⟨rfl, rfl, rfl⟩
        refine GuardOb.mk (fun h2 => ?_) (fun h2 => ?_)
        · have hm : mayName g.ds[i].name = true := by simpa using h2
          refine CallOb.mk [] [errB b2 0] _ (.refl _) (Normal_spec hT.c (hg.ds _ hdm).t) ?_
          rintro v I' M' - ⟨rfl, rfl, rfl⟩
          refine CondOb.mk (fun h3 => ?_) (fun h3 => ?_)
          · have hno : normal g.ds[i].t = false := by simpa using h3
            refine StoreOb.mk [] [] _ _ rfl rfl (Nat.le_of_ble_eq_true rfl) rfl ?_
            refine LoadOb.mk _ (errB_rd (b := b2) (e := 4) (.head _)) ?_
            refine ⟨_, _, .sub (List.nil_sublist _) .refl, ?_, fun _ _ h => h, rfl⟩
            rw [bad (by rw [hm, hno]; rfl)]
            rfl
          · have hno : normal g.ds[i].t = true := by simpa using h3
            refine ArithOb.mk _ (next_wr (i := i) (by omega)) ?_
            refine ⟨i + 1, ⟨⟨by omega, ?_⟩, by omega⟩, .refl, .cons .refl (.cons .refl (.cons .refl (.cons .refl (.cons .refl .nil)))), .cons rfl .nil⟩
            unfold okDefs at hall ⊢
            rw [List.take_succ_eq_append_getElem hlt', List.all_append, hall]
            simp [hm, hno]
        · have hm : mayName g.ds[i].name = false := by simpa using h2
          refine StoreOb.mk [] [] _ _ rfl rfl (Nat.le_of_ble_eq_true rfl) rfl ?_
          refine LoadOb.mk _ (errB_rd (b := b2) (e := 4) (.head _)) ?_
          refine ⟨_, _, .sub (List.nil_sublist _) .refl, ?_, fun _ _ h => h, rfl⟩
          rw [bad (by rw [hm]; rfl)]
          rfl
      · have hge : g.n ≤ i := by simpa using h
        rw [List.take_of_length_le (by omega)] at hall
        refine CallOb.mk [] [errB b2 0] _ (.refl _) (large_spec hT hg) ?_
        rintro v I1 M' - ⟨rfl, hI1, rfl⟩
        refine CondOb.mk (fun h2 => ?_) (fun h2 => ?_)
        · refine StoreOb.mk [] [] _ _ rfl rfl (Nat.le_of_ble_eq_true rfl) rfl ?_
          refine LoadOb.mk _ (errB_rd (b := b2) (e := 40) (.head _)) ?_
          refine ⟨_, _, .sub (List.nil_sublist _) .refl, ?_, hI1, rfl⟩
          rw [mayG, h1, hall, h2]
          rfl
        · have hmg : mayG deb g = match dups [] 0 g.ds with
              | none => 6
              | some acc => bif allNamed acc g.ds then 0 else 41 := by
            rw [mayG, h1, hall, h2]
            rfl
          rw [hmg]
          have hg1 := hg.mono hI1
          refine OtherOb.makeMap TryzEOK rfl (by simp) rfl rfl rfl fun bm => ?_
          refine AllocOb.mk fun b5 hb5 hbM5 => ?_
          refine StoreOb.mk [] [⟨bm, mapO []⟩, errB b2 0] _ _ rfl rfl (Nat.le_of_ble_eq_true rfl) rfl ?_
          refine LoopOb.inv (ι := Nat × List (ByteArray × Int)) (fun x => { fl := [(1, .ref 1 0), (2, .val (ptr b2)), (5, .val (ptr b5)), (43, .val (.slice g.a g.n g.c)), (44, .val (.int .i64 g.n)), (45, .val (.int .i64 x.1))], cl := [(1, [.slice g.a g.n g.c])], gi := I1, mi := [⟨b5, .cells #[.map (some bm)] 88 (0, 0)⟩, ⟨bm, mapO x.2⟩, errB b2 0] })
            (fun x => x.1 ≤ g.n ∧ dups [] 0 g.ds = dups x.2 x.1 (g.ds.drop x.1)) (fun x => g.n - x.1) ?_ ?_
          · exact ⟨(0, []), ⟨by simp, rfl⟩, .refl, .cons .refl (.cons .refl (.cons .refl (.cons .refl (.cons .refl (.cons .refl .nil))))), .cons rfl .nil⟩
          · rintro ⟨i, acc⟩ ⟨hi, hdu⟩
            simp only at hi hdu
            refine CondOb.mk (fun h => ?_) (fun h => ?_)
            · have hlt : i < g.n := by simpa using h
              have hlt' : i < g.ds.length := by omega
              obtain ⟨ad, had, hrd⟩ := hg1.rs.row Df.cells_len hlt hlt'
              have hdrop : g.ds.drop i = g.ds[i] :: g.ds.drop (i + 1) := List.drop_eq_getElem_cons hlt'
              refine IdxOb.mk ad i had rfl hlt ?_
              refine LoadOb.mk _ (hrd _) ?_
              refine LoadOb.mk [.map (some bm)] ⟨rfl, _, _, _, .inr ⟨_, .head _, rfl, rfl⟩, rfl, rfl⟩ ?_
              refine OtherOb.lookup TryzEOK rfl (by simp) rfl rfl rfl rfl (fun w => zero_int w) (l := acc) (g := bm) rfl rfl (by simp) ?_
              refine CondOb.mk (fun h3 => ?_) (fun h3 => ?_)
              · refine StoreOb.mk [⟨b5, .cells #[.map (some bm)] 88 (0, 0)⟩, ⟨bm, mapO acc⟩] [] _ _ rfl rfl (Nat.le_of_ble_eq_true rfl) rfl ?_
                refine LoadOb.mk _ (errB_rd (b := b2) (e := 6) (.tail _ (.tail _ (.head _)))) ?_
                refine ⟨_, _, .sub (List.nil_sublist _) .refl, ?_, hI1, rfl⟩
                rw [hdu, hdrop, dups, h3]
                rfl
              · have hl : lookM g.ds[i].name acc = none := by simpa using h3
                refine LoadOb.mk [.map (some bm)] ⟨rfl, _, _, _, .inr ⟨_, .head _, rfl, rfl⟩, rfl, rfl⟩ ?_
                refine OtherOb.mapNew TryzEOK rfl rfl rfl rfl rfl rfl rfl rfl rfl hl (Mr := [⟨b5, .cells #[.map (some bm)] 88 (0, 0)⟩, errB b2 0]) (List.Perm.swap _ _ _) ?_
                refine ArithOb.mk _ (next_wr (i := i) (by omega)) ?_
                refine ⟨(i + 1, acc ++ [(g.ds[i].name, (i : Int))]), ⟨⟨by simp only; omega, ?_⟩, by simp only; omega⟩, .perm (List.Perm.swap _ _ _) .refl, .cons .refl (.cons .refl (.cons .refl (.cons .refl (.cons .refl (.cons .refl .nil))))), .cons rfl .nil⟩
                simp only
                rw [hdu, hdrop, dups, h3]
                rfl
            · have hge2 : g.n ≤ i := by simpa using h
              have hdd : dups [] 0 g.ds = some acc := by
                rw [hdu, List.drop_eq_nil_of_le (by omega), dups]
              rw [hdd]
              refine CallOb.mk [] [⟨b5, .cells #[.map (some bm)] 88 (0, 0)⟩, ⟨bm, mapO acc⟩, errB b2 0] _ (.refl _) (nodes_spec g) ?_
              rintro v I2 M2 - ⟨gb, rfl, hgb, hI2, rfl⟩
              have hg2 := hg1.mono hI2
              have hI02 : ∀ b o, I b = some o → I2 b = some o := fun b o h => hI2 _ _ (hI1 _ _ h)
              refine CodeOb.range TryzEOK rfl rfl rfl .refl (nodes1_iter hg2 hgb) (fun vs h => ?_)
                (fun k I' M' => (∀ b o, I2 b = some o → I' b = some o) ∧ ((nodePairs 0 g.ds).take k).all (fun p => nodeOk acc p.2) = true ∧ M' = [⟨b5, .cells #[.map (some bm)] 88 (0, 0)⟩, ⟨bm, mapO acc⟩, errB b2 0])
                (fun ex I' M' => ex = .ret ∧ (∀ b o, I2 b = some o → I' b = some o) ∧ allNamed acc g.ds = false ∧ M' = [⟨b5, .cells #[.map (some bm)] 88 (0, 0)⟩, ⟨bm, mapO acc⟩, errB b2 41]) ⟨fun _ _ h => h, rfl, rfl⟩ ?_ ?_ ?_
              · rw [nodeVals_eq] at h
                obtain ⟨p, _, rfl⟩ := List.mem_map.1 h
                rfl
              · rintro k hk I' M' - ⟨hI', hok, rfl⟩ l B h0 h0'
                have hkp : k < (nodePairs 0 g.ds).length := by simpa [nodeVals_eq] using hk
                generalize hp : (nodePairs 0 g.ds)[k] = p
                have hv : (nodeVals 0 g.ds)[k] = [.int .i64 p.1, p.2.val] := by
                  simp only [nodeVals_eq, List.getElem_map, hp]
                rw [hv]
                have next : nodeOk acc p.2 = true → ((nodePairs 0 g.ds).take (k + 1)).all (fun p => nodeOk acc p.2) = true := fun h => by
                  rw [List.take_succ_eq_append_getElem hkp, List.all_append, hok, hp]
                  simp [h]
                refine CondOb.mk (fun h3 => ?_) (fun h3 => ?_)
                · refine ⟨_, _, .refl, hI', next ?_, rfl⟩
                  have h3' : decide (p.2.k = 3) = false := by simpa using h3
                  simp [nodeOk, h3']
                · have h3' : decide (p.2.k = 3) = true := by simpa using h3
                  refine LoadOb.mk [.map (some bm)] ⟨rfl, _, _, _, .inr ⟨_, .head _, rfl, rfl⟩, rfl, rfl⟩ ?_
                  refine OtherOb.lookup TryzEOK rfl (by simp) rfl rfl rfl rfl (fun w => zero_int w) (l := acc) (g := bm) rfl rfl (by simp) ?_
                  refine CondOb.mk (fun h4 => ?_) (fun h4 => ?_)
                  · refine StoreOb.mk [⟨b5, .cells #[.map (some bm)] 88 (0, 0)⟩, ⟨bm, mapO acc⟩] [] _ _ rfl rfl (Nat.le_of_ble_eq_true rfl) rfl ?_
                    refine ⟨_, _, .refl, rfl, hI', ?_, rfl⟩
                    unfold allNamed
                    rw [List.all_eq_false]
                    have h4' : (lookM p.2.t acc).isSome = false := by simpa using h4
                    exact ⟨p, by rw [← hp]; exact List.getElem_mem hkp, by simp [nodeOk, h3', h4']⟩
                  · have h4' : (lookM p.2.t acc).isSome = true := by simpa using h4
                    exact ⟨_, _, .refl, hI', next (by simp [nodeOk, h4']), rfl⟩
              · rintro I' M' - ⟨hI', hok, rfl⟩
                have hall2 : allNamed acc g.ds = true := by
                  unfold allNamed
                  rw [List.take_of_length_le (by simp [nodeVals_eq])] at hok
                  exact hok
                refine StoreOb.mk [⟨b5, .cells #[.map (some bm)] 88 (0, 0)⟩, ⟨bm, mapO acc⟩] [] _ _ rfl rfl (Nat.le_of_ble_eq_true rfl) rfl ?_
                refine LoadOb.mk _ (errB_rd (b := b2) (e := 0) (.tail _ (.tail _ (.head _)))) ?_
                refine ⟨_, _, .sub (List.nil_sublist _) .refl, ?_, fun b o h => hI' _ _ (hI02 _ _ h), rfl⟩
                simp only [hall2]
                rfl
              · rintro ex I' M' - ⟨rfl, hI', hall2, rfl⟩
                refine ⟨by simp, ?_⟩
                refine LoadOb.mk _ (errB_rd (b := b2) (e := 41) (.tail _ (.tail _ (.head _)))) ?_
                refine ⟨_, _, .sub (List.nil_sublist _) .refl, ?_, fun b o h => hI' _ _ (hI02 _ _ h), rfl⟩
                simp only [hall2]
                rfl
end Go.V

/-
  Walks: reach.called, list, calls.
-/
set_option linter.unusedVariables false
set_option linter.unusedSimpArgs false
namespace Go.V
open Go Go.Proofs

/-! ### Rows of numbers in memory -/
structure Rw where
  a : Option Addr
  n : Nat
  c : Nat
  l : List Int
def Rw.val (r : Rw) : Value := .slice r.a r.n r.c
structure Rw.ok (I : GH) (r : Rw) : Prop where
  rs : RS I r.a r.n r.c 1 8 (r.l.map (.int .i64 ·))
theorem Rw.ok.n {I : GH} {r : Rw} (h : r.ok I) : r.l.length = r.n := by
  have := h.rs.len
  simpa using this
theorem Rw.ok.mono {I I' : GH} {r : Rw} (h : r.ok I) (hI : ∀ b o, I b = some o → I' b = some o) : r.ok I' := ⟨h.rs.mono hI⟩
structure Ls where
  rows : List Rw
  a : Option Addr
  n : Nat
  c : Nat
def Ls.val (x : Ls) : Value := .slice x.a x.n x.c
structure Ls.ok (I : GH) (x : Ls) : Prop where
  rs : RS I x.a x.n x.c 1 24 (x.rows.map Rw.val)
  rows : ∀ r ∈ x.rows, r.ok I
theorem Ls.ok.n {I : GH} {x : Ls} (h : x.ok I) : x.rows.length = x.n := by
  have := h.rs.len
  simpa using this
theorem Ls.ok.mono {I I' : GH} {x : Ls} (h : x.ok I) (hI : ∀ b o, I b = some o → I' b = some o) : x.ok I' := ⟨h.rs.mono hI, fun r hr => (h.rows r hr).mono hI⟩
def Ls.ll (x : Ls) : List (List Int) := x.rows.map (·.l)

/-- The function's own slice, given away: nothing changes it any more. -/
theorem OS.give {I : GH} {os : OS} {xs : List Value} {e size b : Nat} (h : os.ok size xs) (hb : os.n * b ≤ 140737488355328) (hI : ∀ g, os.a = some g → I g = none) (Mr : List Blk) :
    ∃ I', Wk [] I (os.blk e ++ Mr) I' Mr ∧ (∀ b o, I b = some o → I' b = some o) ∧ RS I' (os.a.map fun g => ⟨g, 0, none⟩) os.n os.c size b xs := by
  obtain ⟨a, n, c, cur⟩ := os
  cases a with
  | none =>
    obtain ⟨h1, h2⟩ := h.nil rfl
    simp only at h1 h2
    subst h1
    subst h2
    exact ⟨I, .refl, fun _ _ h => h, h.len, ⟨Nat.le_refl _, by simp⟩, .inl rfl⟩
  | some g =>
    obtain ⟨h1, h2, h3, h4⟩ := h.cap g rfl
    have hg := hI g rfl
    exact ⟨ins I g (.cells cur.toArray e (0, 0)), .prom rfl (by simp) .refl, ins_le hg, h.len, ⟨h2, hb⟩, .inr ⟨⟨g, 0, none⟩, rfl, rfl, _, _, _, ins_self .., by simpa using h4⟩⟩
/-- The same, wh a row of numbers. -/
theorem OS.giveInts {I : GH} {os : OS} {l : List Int} {e : Nat} (h : os.ok 1 (l.map (.int .i64 ·))) (hb : os.n * 8 ≤ 140737488355328) (hI : ∀ g, os.a = some g → I g = none) (Mr : List Blk) :
    ∃ (I' : GH) (r : Rw), Wk [] I (os.blk e ++ Mr) I' Mr ∧ (∀ b o, I b = some o → I' b = some o) ∧ os.val = r.val ∧ r.ok I' ∧ r.l = l := by
  obtain ⟨I', h1, h2, h3⟩ := OS.give (b := 8) h hb hI Mr
  exact ⟨I', ⟨_, _, _, l⟩, h1, h2, rfl, ⟨h3⟩, rfl⟩

def OS0 : OS := ⟨none, 0, 0, []⟩
theorem OS0_ok (size : Nat) : OS0.ok size [] := ⟨by simp [OS0], fun _ => ⟨rfl, rfl⟩, fun g h => by cases h⟩
theorem app1_ok {os : OS} {xs : List Value} {v : Value} (hos : os.ok 1 xs) {g c : Nat} {cur : List Value} (h1 : cur.length = c * 1) (h2 : os.n + 1 ≤ c) (h3 : c ≤ maxLen) (h4 : cur.take ((os.n + 1) * 1) = xs ++ [v]) :
    OS.ok ⟨some g, os.n + 1, c, cur⟩ 1 (xs ++ [v]) := by
  have hl := hos.len
  refine ⟨?_, (fun h => by cases h), fun g3 hg3 => ⟨h1, h2, h3, h4⟩⟩
  rw [List.length_append, hl]
  simp
theorem OS.ok.len1 {os : OS} {l : List Int} (h : os.ok 1 (l.map (Value.int .i64))) : os.n = l.length := by
  have := h.len
  simp at this
  omega

theorem perm4 {α : Type} (a c : α) (L : List α) : (a :: (L ++ [c])).Perm (L ++ [c, a]) := by
  have h := (List.perm_append_singleton a (L ++ [c])).symm
  rwa [List.append_assoc] at h

/-! ### list -/
def listL (wh : Bool) : Nat → List Bool → List Int
  | _, [] => []
  | i, b :: s => bif b == wh then (i : Int) :: listL wh (i + 1) s else listL wh (i + 1) s
theorem listL_snoc (wh b : Bool) : ∀ (s : List Bool) (i : Nat), listL wh i (s ++ [b]) = listL wh i s ++ (bif b == wh then [((i + s.length : Nat) : Int)] else [])
  | [], i => by
    show (bif b == wh then ((i : Nat) : Int) :: listL wh (i + 1) [] else listL wh (i + 1) []) = _
    cases b == wh <;> simp [listL]
  | c :: s, i => by
    have := listL_snoc wh b s (i + 1)
    rw [List.cons_append, listL, listL, this]
    cases c == wh <;> simp [Nat.add_comm, Nat.add_left_comm]
theorem listL_len (wh : Bool) : ∀ (s : List Bool) (i : Nat), (listL wh i s).length ≤ s.length
  | [], i => by simp [listL]
  | c :: s, i => by
    have := listL_len wh s (i + 1)
    unfold listL
    cases c == wh <;> simp <;> omega

/-- A row of bools in memory. -/
structure Rb where
  a : Option Addr
  n : Nat
  c : Nat
  l : List Bool
def Rb.val (r : Rb) : Value := .slice r.a r.n r.c
structure Rb.ok (I : GH) (r : Rb) : Prop where
  rs : RS I r.a r.n r.c 1 1 (r.l.map Value.bool)
theorem Rb.ok.n {I : GH} {r : Rb} (h : r.ok I) : r.l.length = r.n := by
  have := h.rs.len
  simpa using this
theorem Rb.ok.mono {I I' : GH} {r : Rb} (h : r.ok I) (hI : ∀ b o, I b = some o → I' b = some o) : r.ok I' := ⟨h.rs.mono hI⟩

set_option maxHeartbeats 1000000 in
theorem list_spec {I : GH} {r : Rb} (hr : r.ok I) (hn : r.n ≤ 1099511627776) (wh : Bool) : Spec Tryz.prog 36 [r.val, .bool wh] I [] fun v I' M' => (∀ b o, I b = some o → I' b = some o) ∧ ∃ x : Rw, v = x.val ∧ x.ok I' ∧ x.l = listL wh 0 r.l ∧ M' = [] := by
  refine spec_of_V [] TryzEOK Tryz.func36 rfl rfl rfl ?_
  intro B h0
  have hrn := hr.n
  refine LoopOb.inv (ι := Nat × OS) (fun x => { fl := [(1, .val (.bool wh)), (5, .val x.2.val), (8, .val r.val), (9, .val (.int .i64 r.n)), (10, .val (.int .i64 x.1))], gi := I, mi := x.2.blk 3 })
    (fun x => x.1 ≤ r.n ∧ x.2.ok 1 ((listL wh 0 (r.l.take x.1)).map (.int .i64 ·)) ∧ ∀ g, x.2.a = some g → I g = none) (fun x => r.n - x.1) ?_ ?_
  · exact ⟨(0, OS0), ⟨by simp, OS0_ok 1, fun g h => by cases h⟩, .refl, .cons .refl (.cons .refl (.cons .refl (.cons .refl (.cons .refl .nil)))), .nil⟩
  · rintro ⟨i, os⟩ ⟨hi, hos, hI⟩
    simp only at hi hos hI
    have hol := hos.len1
    have hll := listL_len wh (r.l.take i) 0
    have htl := List.length_take_le i r.l
    refine CondOb.mk (fun h => ?_) (fun h => ?_)
    · have hlt : i < r.n := by simpa using h
      have hlt' : i < r.l.length := by omega
      obtain ⟨ad, had, hrd⟩ := hr.rs.one hlt hlt'
      have hsn := listL_snoc wh r.l[i] (r.l.take i) 0
      rw [← List.take_succ_eq_append_getElem hlt', List.length_take_of_le (by omega), Nat.zero_add] at hsn
      refine IdxOb.mk ad i had rfl hlt ?_
      refine LoadOb.mk _ (hrd _) ?_
      refine CondOb.mk (fun h2 => ?_) (fun h2 => ?_)
      · rw [h2, cond_true] at hsn
        refine AllocOb.mk fun b9 hb9 hbM9 => ?_
        refine OtherOb.appendN TryzEOK rfl (by simp) (e := 3) rfl rfl rfl os hos rfl (m := 1) rfl (news := [.int .i64 i]) (by decide) (blk_rd (b := b9) (cs := [.int .i64 i]) (k := 0) (n := 1) (T := 3) (.head _) (by simp)) rfl (Mr := [⟨b9, .cells #[.int .i64 i] 3 (0, 0)⟩]) (List.perm_append_comm (l₁ := [_])) (by simp only [maxLen]; omega) (by show (os.n + 1) * 8 ≤ _; omega) ?_
        intro g' c' cur' q0 q1 q2 q3 q4
        refine ArithOb.mk _ (next_wr (i := i) (by omega)) ?_
        refine ⟨(i + 1, ⟨some g', os.n + 1, c', cur'⟩), ⟨⟨by simp only; omega, ?_, fun g hg => by cases hg; exact q0⟩, by simp only; omega⟩, .sub (List.Sublist.cons_cons _ (List.nil_sublist _)) .refl, .cons .refl (.cons .refl (.cons .refl (.cons .refl (.cons .refl .nil)))), .nil⟩
        simp only
        rw [hsn, List.map_append]
        exact app1_ok hos q1 q2 q3 q4
      · rw [h2, cond_false, List.append_nil] at hsn
        refine ArithOb.mk _ (next_wr (i := i) (by omega)) ?_
        refine ⟨(i + 1, os), ⟨⟨by simp only; omega, ?_, hI⟩, by simp only; omega⟩, .refl, .cons .refl (.cons .refl (.cons .refl (.cons .refl (.cons .refl .nil)))), .nil⟩
        simp only
        rw [hsn]
        exact hos
    · have hge : r.n ≤ i := by simpa using h
      rw [List.take_of_length_le (by omega)] at hos hll hol
      obtain ⟨I', x, w1, w2, w3, w4, w5⟩ := OS.giveInts (e := 3) hos (by omega) hI []
      rw [List.append_nil] at w1
      exact ⟨_, _, w1, w2, x, w3, w4, w5, rfl⟩

/-! ### called -/
def markK (n : Nat) (s : List Bool) (k : Int) : List Bool := bif decide (0 ≤ k) && decide (k < n) then s.set k.toNat true else s
def thereL (ds : List Df) (n : Nat) (names : List ByteArray) : List Bool := names.foldl (fun s nm => markK n s (findAt nm ds 0)) (List.replicate n false)
def calledL (g : Gr) (t : Tr) : List Int := listL true 0 (thereL g.ds g.n (namedL t.ns))
theorem markK_len (n : Nat) (s : List Bool) (k : Int) : (markK n s k).length = s.length := by
  unfold markK
  cases decide (0 ≤ k) && decide (k < n) <;> simp
theorem thereL_len (ds : List Df) (n : Nat) (names : List ByteArray) : (thereL ds n names).length = n := by
  have : ∀ (names : List ByteArray) (s : List Bool), (names.foldl (fun s nm => markK n s (findAt nm ds 0)) s).length = s.length := by
    intro names
    induction names with
    | nil => intro s; rfl
    | cons nm names ih => intro s; rw [List.foldl_cons, ih, markK_len]
  rw [thereL, this]
  simp

set_option maxHeartbeats 2000000 in
theorem called_spec {I : GH} {g : Gr} (hg : g.ok I) (hn : g.n ≤ 1099511627776) {t : Tr} (ht : t.ok I) : Spec Tryz.prog 34 [g.val, t.val] I [] fun v I' M' => (∀ b o, I b = some o → I' b = some o) ∧ ∃ x : Rw, v = x.val ∧ x.ok I' ∧ x.l = calledL g t ∧ M' = [] := by
  refine spec_of_V [2, 5] TryzEOK Tryz.func34 rfl rfl rfl ?_
  intro B h0
  have hgn := hg.n
  refine AllocOb.mk fun b2 hb2 hbM2 => ?_
  refine LoadOb.mk [.slice g.a g.n g.c] (blk_rd (b := b2) (cs := [.slice g.a g.n g.c]) (k := 0) (n := 1) (T := 24) (.head _) (by simp)) ?_
  refine MakeOb.mk g.n g.n rfl rfl (Nat.le_refl _) (by show 1 * g.n ≤ _; omega) (by omega) ?_
  refine AllocOb.mk fun b hb hbM => ?_
  refine AllocOb.mk fun b5 hb5 hbM5 => ?_
  refine StoreOb.mk [] [⟨b, .cells (rowOf [.bool false] (g.n * 1)).toArray 4 (0, 0)⟩, ⟨b2, .cells #[.slice g.a g.n g.c] 24 (0, 0)⟩] _ _ rfl rfl (Nat.le_of_ble_eq_true rfl) rfl ?_
  refine CallOb.mk [] [⟨b5, .cells #[.slice (some ⟨b, 0, none⟩) g.n g.n] 74 (0, 0)⟩, ⟨b, .cells (rowOf [.bool false] (g.n * 1)).toArray 4 (0, 0)⟩, ⟨b2, .cells #[.slice g.a g.n g.c] 24 (0, 0)⟩] _ (.refl _) (named_spec t) ?_
  rintro v I1 M1 - ⟨tb, rfl, htb, hI1, rfl⟩
  have hg1 := hg.mono hI1
  have ht1 := ht.mono hI1
  refine CodeOb.range TryzEOK rfl rfl rfl .refl (named1_iter ht1 htb) (fun vs h => ?_)
    (fun k I' M' => (∀ b o, I1 b = some o → I' b = some o) ∧ M' = [⟨b5, .cells #[.slice (some ⟨b, 0, none⟩) g.n g.n] 74 (0, 0)⟩, boolRow b (thereL g.ds g.n ((namedL t.ns).take k)), ⟨b2, .cells #[.slice g.a g.n g.c] 24 (0, 0)⟩])
    (fun _ _ _ => False) ⟨fun _ _ h => h, ?_⟩ ?_ ?_ (fun _ _ _ _ h => h.elim)
  · obtain ⟨c, _, rfl⟩ := List.mem_map.1 h
    rfl
  · show _ :: _ :: _ = _
    rw [rowOf_one, Nat.mul_one]
    simp [boolRow, thereL]
  · rintro k hk I' M' - ⟨hI', rfl⟩ l B h0 h0'
    have hkL : k < (namedL t.ns).length := by simpa using hk
    generalize hx : (namedL t.ns)[k] = x
    have hv : ((namedL t.ns).map fun s => [Value.string s])[k] = [.string x] := by simp [hx]
    rw [hv]
    have hstep : thereL g.ds g.n ((namedL t.ns).take (k + 1)) = markK g.n (thereL g.ds g.n ((namedL t.ns).take k)) (findAt x g.ds 0) := by
      rw [List.take_succ_eq_append_getElem hkL, hx]
      simp [thereL, List.foldl_append]
    have hlen := thereL_len g.ds g.n ((namedL t.ns).take k)
    generalize hs : thereL g.ds g.n ((namedL t.ns).take k) = s at *
    rw [hstep]
    refine LoadOb.mk [.slice g.a g.n g.c] ⟨rfl, _, _, _, .inr ⟨_, .tail _ (.tail _ (.head _)), rfl, rfl⟩, rfl, rfl⟩ ?_
    refine CallOb.mk [] [⟨b5, .cells #[.slice (some ⟨b, 0, none⟩) g.n g.n] 74 (0, 0)⟩, boolRow b s, ⟨b2, .cells #[.slice g.a g.n g.c] 24 (0, 0)⟩] _ (.refl _) (Find_spec (hg1.mono hI') x) ?_
    rintro v I' M' - ⟨rfl, rfl, rfl⟩
    refine GuardOb.mk (fun h1 => ?_) (fun h1 => ?_)
    · refine LoadOb.mk [.slice (some ⟨b, 0, none⟩) g.n g.n] ⟨rfl, _, _, _, .inr ⟨_, .head _, rfl, rfl⟩, rfl, rfl⟩ ?_
      refine CondOb.mk (fun h2 => ?_) (fun h2 => ?_)
      · have hk0 : 0 ≤ findAt x g.ds 0 := by simpa using h1
        have hkn : findAt x g.ds 0 < g.n := by simpa using h2
        have hmk : markK g.n s (findAt x g.ds 0) = s.set (findAt x g.ds 0).toNat true := by
          rw [markK, h1, h2]
          rfl
        refine LoadOb.mk [.slice (some ⟨b, 0, none⟩) g.n g.n] ⟨rfl, _, _, _, .inr ⟨_, .head _, rfl, rfl⟩, rfl, rfl⟩ ?_
        refine IdxOb.mk ⟨b, 0, none⟩ (findAt x g.ds 0).toNat rfl (by omega) (by omega) ?_
        refine StoreOb.add [⟨b5, .cells #[.slice (some ⟨b, 0, none⟩) g.n g.n] 74 (0, 0)⟩] [⟨b2, .cells #[.slice g.a g.n g.c] 24 (0, 0)⟩] _ _ rfl ?_ rfl ?_
        · simp only [List.size_toArray, List.length_map]
          show 0 + (findAt x g.ds 0).toNat * 1 + 1 ≤ _
          omega
        refine ⟨_, _, .refl, hI', ?_⟩
        rw [hmk]
        have e := boolRow_set s (findAt x g.ds 0).toNat (by omega) true
        simp only [boolRow]
        rw [← e]
        simp only [Nat.zero_add, Nat.mul_one]
        rfl
      · refine ⟨_, _, .refl, hI', ?_⟩
        have : markK g.n s (findAt x g.ds 0) = s := by
          rw [markK, h1, h2]
          rfl
        rw [this]
        rfl
    · refine ⟨_, _, .refl, hI', ?_⟩
      have : markK g.n s (findAt x g.ds 0) = s := by
        rw [markK, h1]
        rfl
      rw [this]
      rfl
  · rintro I2 M2 - ⟨hI2, rfl⟩
    have hI02 : ∀ b o, I b = some o → I2 b = some o := fun b o h => hI2 _ _ (hI1 _ _ h)
    have hfull : (namedL t.ns).take ((namedL t.ns).map fun s => [Value.string s]).length = namedL t.ns := List.take_of_length_le (by simp)
    rw [hfull]
    have hsl := thereL_len g.ds g.n (namedL t.ns)
    have hcl : calledL g t = listL true 0 (thereL g.ds g.n (namedL t.ns)) := rfl
    generalize hs : thereL g.ds g.n (namedL t.ns) = s at *
    refine LoadOb.mk [.slice (some ⟨b, 0, none⟩) g.n g.n] ⟨rfl, _, _, _, .inr ⟨_, .head _, rfl, rfl⟩, rfl, rfl⟩ ?_
    refine LoopOb.inv (ι := Nat × OS) (fun x => { fl := [(8, .val x.2.val), (32, .val (.slice (some ⟨b, 0, none⟩) g.n g.n)), (33, .val (.int .i64 g.n)), (34, .val (.int .i64 x.1))], gi := I2, mi := x.2.blk 3 ++ [boolRow b s] })
      (fun x => x.1 ≤ g.n ∧ x.2.ok 1 ((listL true 0 (s.take x.1)).map (.int .i64 ·)) ∧ ∀ g, x.2.a = some g → I2 g = none) (fun x => g.n - x.1) ?_ ?_
    · exact ⟨(0, OS0), ⟨by simp, OS0_ok 1, fun g h => by cases h⟩, .sub (.cons _ (.cons_cons _ (List.nil_sublist _))) .refl, .cons .refl (.cons .refl (.cons .refl (.cons .refl .nil))), .nil⟩
    · rintro ⟨i, os⟩ ⟨hi, hos, hI⟩
      simp only at hi hos hI
      have hol := hos.len1
      have hll := listL_len true (s.take i) 0
      have htl := List.length_take_le i s
      refine CondOb.mk (fun h => ?_) (fun h => ?_)
      · have hlt : i < g.n := by simpa using h
        have hlt' : i < s.length := by omega
        have hsn := listL_snoc true s[i] (s.take i) 0
        rw [← List.take_succ_eq_append_getElem hlt', List.length_take_of_le (by omega), Nat.zero_add] at hsn
        refine IdxOb.mk ⟨b, 0, none⟩ i rfl rfl hlt ?_
        refine LoadOb.mk _ (boolRow_rd (by simp) hlt') ?_
        refine CondOb.mk (fun h2 => ?_) (fun h2 => ?_)
        · rw [h2] at hsn
          refine AllocOb.mk fun b9 hb9 hbM9 => ?_
          refine OtherOb.appendN TryzEOK rfl (by simp) (e := 3) rfl rfl rfl os hos rfl (m := 1) rfl (news := [.int .i64 i]) (by decide) (blk_rd (b := b9) (cs := [.int .i64 i]) (k := 0) (n := 1) (T := 3) (.head _) (by simp)) rfl (Mr := [boolRow b s, ⟨b9, .cells #[.int .i64 i] 3 (0, 0)⟩]) (perm4 _ _ _) (by simp only [maxLen]; omega) (by show (os.n + 1) * 8 ≤ _; omega) ?_
          intro g' c' cur' q0 q1 q2 q3 q4
          refine ArithOb.mk _ (next_wr (i := i) (by omega)) ?_
          refine ⟨(i + 1, ⟨some g', os.n + 1, c', cur'⟩), ⟨⟨by simp only; omega, ?_, fun g hg => by cases hg; exact q0⟩, by simp only; omega⟩, .sub (.cons_cons _ (.cons_cons _ (List.nil_sublist _))) .refl, .cons .refl (.cons .refl (.cons .refl (.cons .refl .nil))), .nil⟩
          simp only
          rw [hsn, List.map_append]
          exact app1_ok hos q1 q2 q3 q4
        · rw [h2] at hsn
          simp only [Bool.false_beq, Bool.not_true, cond_false, List.append_nil] at hsn
          refine ArithOb.mk _ (next_wr (i := i) (by omega)) ?_
          refine ⟨(i + 1, os), ⟨⟨by simp only; omega, ?_, hI⟩, by simp only; omega⟩, .refl, .cons .refl (.cons .refl (.cons .refl (.cons .refl .nil))), .nil⟩
          simp only
          rw [hsn]
          exact hos
      · have hge : g.n ≤ i := by simpa using h
        rw [List.take_of_length_le (by omega)] at hos hll hol
        obtain ⟨I', x, w1, w2, w3, w4, w5⟩ := OS.giveInts (e := 3) hos (by omega) hI []
        rw [List.append_nil] at w1
        exact ⟨_, _, .sub (List.sublist_append_left _ _) w1, fun b o h => w2 _ _ (hI02 _ _ h), x, w3, w4, w5.trans hcl.symm, rfl⟩
end Go.V

/-
  Plain: whom a rule reaches. No program in sight.
-/
set_option linter.unusedVariables false
set_option linter.unusedSimpArgs false
namespace Go.V
open Go

def isM (m : List Bool) (k : Nat) : Prop := m.getD k false = true
def visitL (m : List Bool) (o : List Int) : List Int → List Bool × List Int
  | [] => (m, o)
  | k :: ks => bif m.getD k.toNat false then visitL m o ks else visitL (m.set k.toNat true) (o ++ [k]) ks
def fromGo (L : List (List Int)) : Nat → List Bool → List Int → List Bool
  | 0, m, _ => m
  | f + 1, m, o => match o.getLast? with
    | none => m
    | some w => bif decide (0 < (visitL m o.dropLast (L.getD w.toNat [])).2.length) then fromGo L f (visitL m o.dropLast (L.getD w.toNat [])).1 (visitL m o.dropLast (L.getD w.toNat [])).2 else (visitL m o.dropLast (L.getD w.toNat [])).1
def fromL (L : List (List Int)) (i : Nat) : List Bool := fromGo L (2 * L.length + 2) ((List.replicate L.length false).set i true) [(i : Int)]

/-- How many are not marked. -/
def openN : List Bool → Nat
  | [] => 0
  | b :: s => (bif b then 0 else 1) + openN s
theorem openN_set : ∀ (m : List Bool) (k : Nat), k < m.length → m.getD k false = false → openN (m.set k true) + 1 = openN m
  | b :: m, 0, _, h => by
    have : b = false := by simpa using h
    subst this
    simp [openN]
    omega
  | b :: m, k + 1, hk, h => by
    have := openN_set m k (by simpa using hk) (by simpa using h)
    simp only [List.set_cons_succ, openN]
    omega
theorem openN_le (m : List Bool) : openN m ≤ m.length := by
  induction m with
  | nil => simp [openN]
  | cons b m ih =>
    simp only [openN, List.length_cons]
    cases b <;> simp <;> omega

theorem isM_set {m : List Bool} {k a : Nat} (hk : k < m.length) : isM (m.set k true) a ↔ a = k ∨ isM m a := by
  unfold isM
  simp only [List.getD_eq_getElem?_getD, List.getElem?_set]
  by_cases e : k = a
  · subst e
    simp [hk]
  · rw [if_neg e]
    constructor
    · exact .inr
    · rintro (h | h)
      · exact (e h.symm).elim
      · exact h

def valid (n : Nat) (l : List Int) : Prop := ∀ k ∈ l, 0 ≤ k ∧ k < n
structure Visited (m : List Bool) (o ks : List Int) (r : List Bool × List Int) : Prop where
  len : r.1.length = m.length
  mono : ∀ a, isM m a → isM r.1 a
  all : ∀ k ∈ ks, isM r.1 k.toNat
  only : ∀ a, isM r.1 a → isM m a ∨ ((a : Int) ∈ ks ∧ (a : Int) ∈ r.2)
  keep : ∀ k ∈ o, k ∈ r.2
  news : ∀ k ∈ r.2, k ∈ o ∨ (k ∈ ks ∧ isM r.1 k.toNat)
  mu : 2 * openN r.1 + r.2.length ≤ 2 * openN m + o.length
theorem visitL_ok {n : Nat} : ∀ (ks : List Int) (m : List Bool) (o : List Int), m.length = n → valid n ks → Visited m o ks (visitL m o ks)
  | [], m, o, _, _ => ⟨rfl, fun _ h => h, fun k hk => by simp at hk, fun a h => .inl h, fun k h => h, fun k h => .inl h, Nat.le_refl _⟩
  | k :: ks, m, o, hm, hv => by
    have hk := hv k (by simp)
    have hv' : valid n ks := fun x hx => hv x (by simp [hx])
    have hkl : k.toNat < m.length := by omega
    unfold visitL
    cases hb : m.getD k.toNat false with
    | true =>
      have h := visitL_ok ks m o hm hv'
      simp only [cond_true]
      refine ⟨h.len, h.mono, fun x hx => ?_, fun a ha => ?_, h.keep, fun x hx => ?_, h.mu⟩
      · rcases List.mem_cons.1 hx with rfl | hx
        · exact h.mono _ hb
        · exact h.all x hx
      · rcases h.only a ha with h1 | h1
        · exact .inl h1
        · exact .inr ⟨by simp [h1.1], h1.2⟩
      · rcases h.news x hx with h1 | h1
        · exact .inl h1
        · exact .inr ⟨by simp [h1.1], h1.2⟩
    | false =>
      have h := visitL_ok ks (m.set k.toNat true) (o ++ [k]) (by simpa using hm) hv'
      have hs := openN_set m k.toNat hkl hb
      have hmk : isM (visitL (m.set k.toNat true) (o ++ [k]) ks).1 k.toNat := h.mono _ ((isM_set hkl).2 (.inl rfl))
      have hko : k ∈ (visitL (m.set k.toNat true) (o ++ [k]) ks).2 := h.keep k (by simp)
      simp only [cond_false]
      refine ⟨by rw [h.len]; simp, fun a ha => h.mono a ((isM_set hkl).2 (.inr ha)), fun x hx => ?_, fun a ha => ?_, fun x hx => h.keep x (by simp [hx]), fun x hx => ?_, ?_⟩
      · rcases List.mem_cons.1 hx with rfl | hx
        · exact hmk
        · exact h.all x hx
      · rcases h.only a ha with h1 | h1
        · rcases (isM_set hkl).1 h1 with rfl | h1
          · have e : ((k.toNat : Nat) : Int) = k := by omega
            rw [e]
            exact .inr ⟨by simp, hko⟩
          · exact .inl h1
        · exact .inr ⟨by simp [h1.1], h1.2⟩
      · rcases h.news x hx with h1 | h1
        · simp only [List.mem_append, List.mem_singleton] at h1
          rcases h1 with h1 | rfl
          · exact .inl h1
          · exact .inr ⟨by simp, hmk⟩
        · exact .inr ⟨by simp [h1.1], h1.2⟩
      · have := h.mu
        simp only [List.length_append, List.length_cons, List.length_nil] at this
        omega

/-- Whom one comes to, by whom each one calls. -/
inductive Comes (L : List (List Int)) (i : Nat) : Nat → Prop
  | self : Comes L i i
  | next {a k : Nat} (h : Comes L i a) (hk : (k : Int) ∈ L.getD a []) : Comes L i k

structure FromInv (L : List (List Int)) (i : Nat) (m : List Bool) (o : List Int) : Prop where
  len : m.length = L.length
  val : valid L.length o
  mkd : ∀ k ∈ o, isM m k.toNat
  cl : ∀ a, isM m a → (a : Int) ∈ o ∨ ∀ k ∈ L.getD a [], isM m k.toNat
  rch : ∀ a, isM m a → Comes L i a
  self : isM m i

theorem isM_lt {m : List Bool} {a : Nat} (h : isM m a) : a < m.length := by
  apply Nat.lt_of_not_le
  intro hle
  unfold isM at h
  simp [List.getD_eq_getElem?_getD, hle] at h
theorem FromInv.step {L : List (List Int)} (hL : ∀ l ∈ L, valid L.length l) {i : Nat} {m : List Bool} {o : List Int} {w : Int} (h : FromInv L i m (o ++ [w])) :
    FromInv L i (visitL m o (L.getD w.toNat [])).1 (visitL m o (L.getD w.toNat [])).2 ∧ 2 * openN (visitL m o (L.getD w.toNat [])).1 + (visitL m o (L.getD w.toNat [])).2.length < 2 * openN m + (o ++ [w]).length := by
  have hw := h.val w (by simp)
  have hwl : w.toNat < L.length := by omega
  have hLw : L.getD w.toNat [] = L[w.toNat] := by simp [List.getD_eq_getElem?_getD, hwl]
  have hv : valid L.length (L.getD w.toNat []) := by rw [hLw]; exact hL _ (List.getElem_mem hwl)
  have v := visitL_ok (L.getD w.toNat []) m o h.len hv
  have hwm := h.mkd w (by simp)
  have hwc := h.rch _ hwm
  refine ⟨⟨v.len.trans h.len, fun k hk => ?_, fun k hk => ?_, fun a ha => ?_, fun a ha => ?_, v.mono _ h.self⟩, ?_⟩
  · rcases v.news k hk with h1 | h1
    · exact h.val k (by simp [h1])
    · exact hv k h1.1
  · rcases v.news k hk with h1 | h1
    · exact v.mono _ (h.mkd k (by simp [h1]))
    · exact h1.2
  · rcases v.only a ha with h1 | h1
    · rcases h.cl a h1 with h2 | h2
      · simp only [List.mem_append, List.mem_singleton] at h2
        rcases h2 with h2 | h2
        · exact .inl (v.keep _ h2)
        · have e : a = w.toNat := by omega
          subst e
          exact .inr v.all
      · exact .inr fun k hk => v.mono _ (h2 k hk)
    · exact .inl h1.2
  · rcases v.only a ha with h1 | h1
    · exact h.rch a h1
    · exact .next hwc h1.1
  · have := v.mu
    simp only [List.length_append, List.length_cons, List.length_nil]
    omega

structure FromSays (L : List (List Int)) (i : Nat) (m : List Bool) : Prop where
  len : m.length = L.length
  iff : ∀ a, isM m a ↔ Comes L i a
theorem FromInv.done {L : List (List Int)} {i : Nat} {m : List Bool} (hL : ∀ l ∈ L, valid L.length l) (h : FromInv L i m []) : FromSays L i m := by
  refine ⟨h.len, fun a => ⟨h.rch a, fun hc => ?_⟩⟩
  induction hc with
  | self => exact h.self
  | next hc hk ih =>
    rcases h.cl _ ih with h1 | h1
    · simp at h1
    · simpa using h1 _ hk
theorem FromInv.start {L : List (List Int)} {i : Nat} (hi : i < L.length) : FromInv L i ((List.replicate L.length false).set i true) [(i : Int)] := by
  have hn : ∀ a, ¬ isM (List.replicate L.length false) a := fun a => by
    unfold isM
    by_cases h : a < L.length <;> simp [List.getD_eq_getElem?_getD, h]
  have hs : ∀ a, isM ((List.replicate L.length false).set i true) a ↔ a = i := fun a => by
    rw [isM_set (by simpa using hi)]
    exact ⟨fun h => h.resolve_right (hn a), .inl⟩
  refine ⟨by simp, fun k hk => ?_, fun k hk => ?_, fun a ha => ?_, fun a ha => ?_, (hs i).2 rfl⟩
  · simp only [List.mem_singleton] at hk
    omega
  · simp only [List.mem_singleton] at hk
    subst hk
    simpa using (hs i).2 rfl
  · rw [(hs a).1 ha]
    exact .inl (by simp)
  · rw [(hs a).1 ha]
    exact .self
theorem fromGo_ok {L : List (List Int)} (hL : ∀ l ∈ L, valid L.length l) {i : Nat} : ∀ (f : Nat) (m : List Bool) (o : List Int), FromInv L i m o → o ≠ [] → 2 * openN m + o.length ≤ f → FromSays L i (fromGo L f m o)
  | 0, m, o, h, ho, hf => by
    exact (ho (List.eq_nil_of_length_eq_zero (by omega))).elim
  | f + 1, m, o, h, ho, hf => by
    obtain ⟨o', w, rfl⟩ : ∃ o' w, o = o' ++ [w] := by
      rcases List.eq_nil_or_concat o with h1 | ⟨r, p, h1⟩
      · exact (ho h1).elim
      · exact ⟨r, p, by simpa using h1⟩
    obtain ⟨h1, h2⟩ := h.step hL
    unfold fromGo
    simp only [List.getLast?_concat, List.dropLast_concat]
    cases hb : decide (0 < (visitL m o' (L.getD w.toNat [])).2.length) with
    | true =>
      simp only [cond_true]
      refine fromGo_ok hL f _ _ h1 (fun e => ?_) (by omega)
      rw [e] at hb
      simp at hb
    | false =>
      simp only [cond_false]
      have e : (visitL m o' (L.getD w.toNat [])).2 = [] := List.eq_nil_of_length_eq_zero (by simpa using hb)
      rw [e] at h1
      exact h1.done hL
theorem fromL_ok {L : List (List Int)} (hL : ∀ l ∈ L, valid L.length l) {i : Nat} (hi : i < L.length) : FromSays L i (fromL L i) := by
  refine fromGo_ok hL _ _ _ (.start hi) (by simp) ?_
  have := openN_le ((List.replicate L.length false).set i true)
  simp only [List.length_set, List.length_replicate, List.length_cons, List.length_nil] at this ⊢
  omega
end Go.V

/-
  Walks: reach.calls, reach.from.
-/
set_option linter.unusedVariables false
set_option linter.unusedSimpArgs false
namespace Go.V
open Go Go.Proofs

theorem splice_pre {pre post : List Value} {z v : Value} {k : Nat} (hk : k = pre.length) : splice (pre ++ z :: post) k [v] = pre ++ v :: post := by
  subst hk
  unfold splice
  have e : (pre ++ z :: post).drop (pre.length + [v].length) = post := by
    rw [show pre ++ z :: post = (pre ++ [z]) ++ post from by simp]
    exact List.drop_left' (by simp)
  rw [e, List.take_left' rfl]
  simp
def callsL (g : Gr) : List (List Int) := g.ds.map fun d => calledL g d.t

set_option maxHeartbeats 1000000 in
theorem calls_spec {I : GH} {deb : List Int} (hT : Tabs I deb) {g : Gr} (hg : g.ok I) (hn : g.n ≤ 1099511627776) : Spec Tryz.prog 35 [g.val] I [] fun v I' M' => (∀ b o, I b = some o → I' b = some o) ∧ M' = [] ∧
    ((mayG deb g ≠ 0 ∧ v = .tuple #[.slice none 0 0, .bool false]) ∨ (mayG deb g = 0 ∧ ∃ x : Ls, v = .tuple #[x.val, .bool true] ∧ x.ok I' ∧ x.ll = callsL g)) := by
  refine spec_of_V [] TryzEOK Tryz.func35 rfl rfl rfl ?_
  intro B h0
  have hgn := hg.n
  refine CallOb.mk [] [] _ (.refl _) (May_spec hT hg) ?_
  rintro v I1 M1 - ⟨rfl, hI1, rfl⟩
  refine CondOb.mk (fun h => ?_) (fun h => ?_)
  · exact ⟨_, _, .refl, hI1, rfl, .inl ⟨by simpa using h, rfl⟩⟩
  · have hmay : mayG deb g = 0 := by simpa using h
    refine MakeOb.mk g.n g.n rfl rfl (Nat.le_refl _) (by show 24 * g.n ≤ _; omega) (by omega) ?_
    refine AllocOb.mk fun b hb hbM => ?_
    refine LoopOb.inv (ι := Nat × List Rw × GH) (fun x => { fl := [(1, .ref 1 0), (4, .val (.slice (some ⟨b, 0, none⟩) g.n g.n)), (15, .val (.slice g.a g.n g.c)), (16, .val (.int .i64 g.n)), (17, .val (.int .i64 x.1))], cl := [(1, [.slice g.a g.n g.c])], gi := x.2.2, mi := [⟨b, .cells (x.2.1.map Rw.val ++ List.replicate (g.n - x.1) (Value.slice none 0 0)).toArray 27 (0, 0)⟩] })
      (fun x => x.1 ≤ g.n ∧ x.2.1.length = x.1 ∧ (∀ b o, I b = some o → x.2.2 b = some o) ∧ x.2.2 b = none ∧ (∀ r ∈ x.2.1, r.ok x.2.2) ∧ x.2.1.map (·.l) = (g.ds.take x.1).map (fun d => calledL g d.t)) (fun x => g.n - x.1) ?_ ?_
    · refine ⟨(0, [], I1), ⟨by simp, rfl, hI1, hb, by simp, rfl⟩, ?_, .cons .refl (.cons .refl (.cons .refl (.cons .refl (.cons .refl .nil)))), .cons rfl .nil⟩
      show Wk _ _ [⟨b, .cells (rowOf [.slice none 0 0] (g.n * 1)).toArray 27 (0, 0)⟩] _ _
      rw [rowOf_one, Nat.mul_one]
      exact .refl
    · rintro ⟨i, rs, I2⟩ ⟨hi, hrl, hI2, hb2, hro, hrs⟩
      simp only at hi hrl hI2 hb2 hro hrs
      refine CondOb.mk (fun h => ?_) (fun h => ?_)
      · have hlt : i < g.n := by simpa using h
        have hlt' : i < g.ds.length := by omega
        have hg2 := hg.mono hI2
        obtain ⟨ad, had, hrd⟩ := hg2.rs.row Df.cells_len hlt hlt'
        have hdm : g.ds[i] ∈ g.ds := List.getElem_mem hlt'
        refine IdxOb.mk ad i had rfl hlt ?_
        refine LoadOb.mk _ (hrd _) ?_
        refine CallOb.mkD [] [⟨b, .cells (rs.map Rw.val ++ List.replicate (g.n - i) (Value.slice none 0 0)).toArray 27 (0, 0)⟩] _ (.refl _) (called_spec hg2 hn (hg2.ds _ hdm).t) ?_
        rintro v I3 M3 - hd3 ⟨hI3, x, rfl, hx, hxl, rfl⟩
        refine IdxOb.mk ⟨b, 0, none⟩ i rfl rfl hlt ?_
        refine StoreOb.add [] [] _ _ rfl ?_ rfl ?_
        · simp only [List.size_toArray, List.length_append, List.length_map, List.length_replicate]
          show 0 + i * 1 + 1 ≤ _
          omega
        refine ArithOb.mk _ (next_wr (i := i) (by omega)) ?_
        refine ⟨(i + 1, rs ++ [x], I3), ⟨⟨by simp only; omega, by simp [hrl], fun b o h => hI3 _ _ (hI2 _ _ h), hd3 _ (.head _), fun r hr => ?_, ?_⟩, by simp only; omega⟩, ?_, .cons .refl (.cons .refl (.cons .refl (.cons .refl (.cons .refl .nil)))), .cons rfl .nil⟩
        · simp only [List.mem_append, List.mem_singleton] at hr
          rcases hr with hr | rfl
          · exact (hro r hr).mono hI3
          · exact hx
        · simp only
          rw [List.map_append, hrs, List.take_succ_eq_append_getElem hlt', List.map_append]
          simp [hxl]
        · have hrep : List.replicate (g.n - i) (Value.slice none 0 0) = .slice none 0 0 :: List.replicate (g.n - (i + 1)) (Value.slice none 0 0) := by
            rw [show g.n - i = (g.n - (i + 1)) + 1 from by omega, List.replicate_succ]
          have e := splice_pre (pre := rs.map Rw.val) (post := List.replicate (g.n - (i + 1)) (Value.slice none 0 0)) (z := .slice none 0 0) (v := x.val) (k := 0 + i * 1) (by simp [hrl])
          rw [hrep]
          simp only [List.map_append, List.map_cons, List.map_nil, List.append_assoc, List.cons_append, List.nil_append]
          rw [← e]
          exact .refl
      · have hge : g.n ≤ i := by simpa using h
        have hin : i = g.n := by omega
        subst hin
        refine ⟨_, _, .prom rfl (by simp) .refl, fun b o h => ins_le hb2 _ _ (hI2 _ _ h), rfl, .inr ⟨hmay, ⟨rs, some ⟨b, 0, none⟩, g.n, g.n⟩, rfl, ⟨⟨by simp [hrl], ⟨Nat.le_refl _, by simp only; omega⟩, .inr ⟨_, rfl, rfl, _, _, _, ins_self .., ?_⟩⟩, fun r hr => (hro r hr).mono (ins_le hb2)⟩, ?_⟩⟩
        · simp [hrl]
          exact List.take_of_length_le (by simp [hrl])
        · simp only [Ls.ll, hrs, callsL]
          rw [List.take_of_length_le (by omega)]

end Go.V

/-
  Walks: reach.from.
-/
set_option linter.unusedVariables false
set_option linter.unusedSimpArgs false
namespace Go.V
open Go Go.Proofs

/-! ### from -/
theorem V_frameN {X : Ctx} {c : Code} {F : Fr} {C : Bx} {I : GH} {M : List Blk} {K : KX} {t1 t2 t3 : Nat} {a b d : SV} (h : ∀ G GC, V X c (upd (upd (upd G t3 d) t2 b) t1 a) GC I M K)
    (h1 : F t1 = a) (h2 : F t2 = b) (h3 : F t3 = d) : V X c F C I M K := by
  have := h F C
  rwa [upd_self h3, upd_self h2, upd_self h1] at this

abbrev FromI := Nat × List Bool × OS × List Int × Nat
def fromLP (I : GH) (x : Ls) (y : FromI) : LP := { fl := [(0, .val x.val), (5, .val (.slice (some ⟨y.1, 0, none⟩) x.n x.n)), (6, .val y.2.2.1.val)], gi := I, mi := y.2.2.1.blk 3 ++ [boolRow y.1 y.2.1] }
structure FromLInv (I : GH) (L : List (List Int)) (i : Nat) (y : FromI) : Prop where
  blk : I y.1 = none
  os : y.2.2.1.ok 1 (y.2.2.2.1.map (.int .i64 ·))
  inv : FromInv L i y.2.1 y.2.2.2.1
  ne : y.2.2.2.1 ≠ []
  mu : 2 * openN y.2.1 + y.2.2.2.1.length ≤ y.2.2.2.2
  top : y.2.2.2.2 ≤ 2 * L.length + 2
  eq : fromL L i = fromGo L y.2.2.2.2 y.2.1 y.2.2.2.1

theorem fromGo_succ (L : List (List Int)) (f : Nat) (m : List Bool) (o : List Int) (w : Int) : fromGo L (f + 1) m (o ++ [w]) =
    bif decide (0 < (visitL m o (L.getD w.toNat [])).2.length) then fromGo L f (visitL m o (L.getD w.toNat [])).1 (visitL m o (L.getD w.toNat [])).2 else (visitL m o (L.getD w.toNat [])).1 := by
  rw [fromGo]
  simp only [List.getLast?_concat, List.dropLast_concat]

set_option maxHeartbeats 4000000 in
theorem from_pass {I : GH} {x : Ls} (hx : x.ok I) (hn : x.n ≤ 1099511627776) (hL : ∀ l ∈ x.ll, valid x.ll.length l) {i : Nat} (y : FromI) (hy : FromLInv I x.ll i y) {p : Nat → FromI → Prop}
    (hp : ∀ z, FromLInv I x.ll i z → z.2.2.2.2 < y.2.2.2.2 → p 0 z) (B : Nat) (h0 : World) (G : Fr) (GC : Bx) :
    V ⟨Tryz.prog, TryzE, [], Tryz.f37.ntmps, B, h0, I, [], none⟩ (labelIn (scopeIn (Tryz.f37.body.getD .skip)) 0)
      (upd (upd (upd G 6 (.val y.2.2.1.val)) 5 (.val (.slice (some ⟨y.1, 0, none⟩) x.n x.n))) 0 (.val x.val)) GC I (y.2.2.1.blk 3 ++ [boolRow y.1 y.2.1])
      (scK (fun l => InvAt [] (fromLP I x) (p l)) (retK ⟨Tryz.prog, TryzE, [], Tryz.f37.ntmps, B, h0, I, [], none⟩ Tryz.f37.results.toList
        (fun v I' M' => (∀ b o, I b = some o → I' b = some o) ∧ ∃ r : Rb, v = r.val ∧ r.ok I' ∧ r.l = fromL x.ll i ∧ M' = []))) := by
  obtain ⟨b, m, ⟨oa, n, cp, cur⟩, o, f⟩ := y
  obtain ⟨hb, hos, hinv, hne, hmu, htop, heq⟩ := hy
  simp only at hb hos hinv hne hmu htop heq hp ⊢
  have hxn := hx.n
  have hll : x.ll.length = x.n := by simp [Ls.ll, hxn]
  have hml : m.length = x.n := hinv.len.trans hll
  obtain ⟨o', w, rfl⟩ : ∃ o' w, o = o' ++ [w] := by
    rcases List.eq_nil_or_concat o with h1 | ⟨r, p, h1⟩
    · exact (hne h1).elim
    · exact ⟨r, p, by simpa using h1⟩
  have hol : n = o'.length + 1 := by
    have := hos.len1
    simpa using this
  cases oa with
  | none => have := (hos.nil rfl).1; simp only at this; omega
  | some gb =>
  obtain ⟨hcl, hnc, hcm, hct⟩ := hos.cap gb rfl
  simp only at hcl hnc hcm hct
  have hw := hinv.val w (by simp)
  have hwl : w.toNat < x.ll.length := by omega
  have hwr : w.toNat < x.rows.length := by omega
  have hwn : w.toNat < x.n := by omega
  obtain ⟨hst, hlt⟩ := hinv.step hL
  have hLw : x.ll.getD w.toNat [] = x.rows[w.toNat].l := by simp [Ls.ll, List.getD_eq_getElem?_getD, hwr]
  rw [hLw] at hst hlt
  obtain ⟨f, rfl⟩ : ∃ f', f = f' + 1 := ⟨f - 1, by simp at hmu; omega⟩
  have hgo : fromL x.ll i = bif decide (0 < (visitL m o' x.rows[w.toNat].l).2.length) then fromGo x.ll f (visitL m o' x.rows[w.toNat].l).1 (visitL m o' x.rows[w.toNat].l).2 else (visitL m o' x.rows[w.toNat].l).1 := by
    rw [heq, fromGo_succ, hLw]
  have hval : valid x.ll.length x.rows[w.toNat].l := hL _ (by simp only [Ls.ll]; exact List.mem_map.2 ⟨_, List.getElem_mem hwr, rfl⟩)
  have hrow := hx.rows _ (List.getElem_mem hwr)
  have hrn := hrow.n
  have hrc := hrow.rs.cap
  obtain ⟨ar, har, hrr⟩ := hx.rs.one hwn hwr
  have hn1 : IntKind.i64.wrap ((n : Int) - 1) = ((n - 1 : Nat) : Int) := by
    simp only [List.length_append, List.length_cons, List.length_nil] at hmu
    rw [wrap_i64 ⟨by omega, by omega⟩]
    omega
  obtain ⟨rest, hcur⟩ : ∃ rest, cur = o'.map (Value.int .i64) ++ (.int .i64 w :: rest) := by
    refine ⟨cur.drop n, ?_⟩
    have h2 := List.take_append_drop (n * 1) cur
    rw [hct, Nat.mul_one] at h2
    rw [List.map_append, List.append_assoc] at h2
    exact h2.symm
  have hcw : cur.drop (n - 1) = .int .i64 w :: rest := by
    rw [hcur]
    exact List.drop_left' (by simp; omega)
  refine ArithOb.mk _ hn1 ?_
  refine IdxOb.mk ⟨gb, 0, none⟩ (n - 1) rfl rfl (by show n - 1 < n; omega) ?_
  refine LoadOb.mk [.int .i64 w] ?_ ?_
  · have := blk_rd (I := I) (M := [⟨gb, .cells cur.toArray 3 (0, 0)⟩] ++ [boolRow b m]) (b := gb) (cs := cur) (T := 3) (.head _) (k := (n - 1) * 1) (n := 1) (by omega)
    rw [Nat.mul_one, hcw] at this
    rw [Nat.mul_one]
    exact this
  refine ArithOb.mk _ hn1 ?_
  refine SliceOb.mk 0 (n - 1) rfl rfl (Nat.zero_le _) (by show n - 1 ≤ cp; omega) ?_
  refine IdxOb.mk ar w.toNat har (by omega) hwn ?_
  refine LoadOb.mk _ (hrr _) ?_
  generalize hks : x.rows[w.toNat] = row at *
  have hos0 : OS.ok ⟨some gb, n - 1, cp, cur⟩ 1 (o'.map (.int .i64 ·)) := by
    refine ⟨by simp; omega, (fun h => by cases h), fun g3 h3 => ⟨hcl, by show n - 1 ≤ cp; omega, hcm, ?_⟩⟩
    show cur.take ((n - 1) * 1) = _
    have h2 := List.take_append_drop (n * 1) cur
    rw [hct, Nat.mul_one] at h2
    rw [← h2, List.map_append, List.append_assoc, Nat.mul_one]
    exact List.take_left' (by simp; omega)
  simp only [List.length_append, List.length_cons, List.length_nil] at hlt hmu
  refine LoopOb.inv (ι := Nat × List Bool × OS × List Int) (fun z => { fl := [(0, .val x.val), (5, .val (.slice (some ⟨b, 0, none⟩) x.n x.n)), (6, .val z.2.2.1.val), (32, .val row.val), (33, .val (.int .i64 row.n)), (34, .val (.int .i64 z.1))], gi := I, mi := z.2.2.1.blk 3 ++ [boolRow b z.2.1] })
    (fun z => z.1 ≤ row.n ∧ z.2.1.length = x.n ∧ z.2.2.1.ok 1 (z.2.2.2.map (.int .i64 ·)) ∧ 2 * openN z.2.1 + z.2.2.2.length ≤ 2 * x.n + 2 ∧ visitL m o' row.l = visitL z.2.1 z.2.2.2 (row.l.drop z.1)) (fun z => row.n - z.1) ?_ ?_
  · exact ⟨(0, m, ⟨some gb, n - 1, cp, cur⟩, o'), ⟨by simp, hml, hos0, by simp only; omega, rfl⟩, .refl, .cons .refl (.cons .refl (.cons .refl (.cons .refl (.cons .refl (.cons .refl .nil))))), .nil⟩
  · rintro ⟨j, s, os, q⟩ ⟨hj, hsl, hoq, hmq, hvq⟩
    simp only at hj hsl hoq hmq hvq
    refine CondOb.mk (fun h => ?_) (fun h => ?_)
    · have hjl : j < row.n := by simpa using h
      have hjl' : j < row.l.length := by omega
      obtain ⟨ak, hak, hrk⟩ := hrow.rs.one hjl hjl'
      have hkd : row.l.drop j = row.l[j] :: row.l.drop (j + 1) := List.drop_eq_getElem_cons hjl'
      have hkv := hval _ (List.getElem_mem hjl')
      generalize hk : row.l[j] = k at *
      have hkl : k.toNat < s.length := by omega
      have hoql := hoq.len1
      refine IdxOb.mk ak j hak rfl hjl ?_
      refine LoadOb.mk _ (hrk _) ?_
      refine IdxOb.mk ⟨b, 0, none⟩ k.toNat rfl (by omega) (by omega) ?_
      refine LoadOb.mk _ (boolRow_rd (by simp) hkl) ?_
      have hgd : s.getD k.toNat false = s[k.toNat] := by simp [List.getD_eq_getElem?_getD, hkl]
      refine CondOb.mk (fun h2 => ?_) (fun h2 => ?_)
      · have hf : s.getD k.toNat false = false := by rw [hgd]; simpa using h2
        have hop := openN_set s k.toNat hkl hf
        refine IdxOb.mk ⟨b, 0, none⟩ k.toNat rfl (by omega) (by omega) ?_
        refine StoreOb.add (os.blk 3) [] _ _ rfl ?_ rfl ?_
        · simp only [List.size_toArray, List.length_map]
          show 0 + k.toNat * 1 + 1 ≤ _
          omega
        have e := boolRow_set s k.toNat hkl true
        refine AllocOb.mk fun b9 hb9 hbM9 => ?_
        refine OtherOb.append TryzEOK rfl (by simp) (e := 3) rfl rfl rfl os hoq rfl (m := 1) rfl (news := [.int .i64 k]) (by decide) (blk_rd (b := b9) (cs := [.int .i64 k]) (k := 0) (n := 1) (T := 3) (.head _) (by simp)) rfl (Mr := [⟨b, .cells (splice (s.map Value.bool) (0 + k.toNat * 1) [.bool true]).toArray 4 (0, 0)⟩, ⟨b9, .cells #[.int .i64 k] 3 (0, 0)⟩]) (perm4 _ _ _) (by simp only [maxLen]; omega) (by show (os.n + 1) * 8 ≤ _; omega) ?_
        intro g' c' cur' q1 q2 q3 q4
        refine ArithOb.mk _ (next_wr (i := j) (by omega)) ?_
        refine ⟨(j + 1, s.set k.toNat true, ⟨some g', os.n + 1, c', cur'⟩, q ++ [k]), ⟨⟨by simp only; omega, by simpa using hsl, ?_, ?_, ?_⟩, by simp only; omega⟩, ?_, .cons .refl (.cons .refl (.cons .refl (.cons .refl (.cons .refl (.cons .refl .nil))))), .nil⟩
        · simp only
          rw [List.map_append]
          exact app1_ok hoq q1 q2 q3 q4
        · simp only [List.length_append, List.length_cons, List.length_nil]
          omega
        · simp only
          rw [hvq, hkd, visitL, hf]
          rfl
        · simp only [boolRow]
          rw [← e]
          simp only [Nat.zero_add, Nat.mul_one]
          exact .sub (.cons_cons _ (.cons_cons _ (List.nil_sublist _))) .refl
      · have hf : s.getD k.toNat false = true := by rw [hgd]; simpa using h2
        refine ArithOb.mk _ (next_wr (i := j) (by omega)) ?_
        refine ⟨(j + 1, s, os, q), ⟨⟨by simp only; omega, hsl, hoq, hmq, ?_⟩, by simp only; omega⟩, .refl, .cons .refl (.cons .refl (.cons .refl (.cons .refl (.cons .refl (.cons .refl .nil))))), .nil⟩
        simp only
        rw [hvq, hkd, visitL, hf]
        rfl
    · have hge : row.n ≤ j := by simpa using h
      have hv : visitL m o' row.l = (s, q) := by
        rw [hvq, List.drop_eq_nil_of_le (by omega)]
        rfl
      rw [hv] at hgo hst hlt
      simp only at hgo hst hlt
      have hoql := hoq.len1
      refine CondOb.mk (fun h2 => ?_) (fun h2 => ?_)
      · have hql : 0 < q.length := by simp at h2; omega
        refine ⟨(b, s, os, q, f), hp _ ⟨hb, hoq, hst, fun e => by simp only at e; rw [e] at hql; simp at hql, by simp only; omega, by simp only; omega, ?_⟩ (by simp only; omega), .refl, .cons .refl (.cons .refl (.cons .refl .nil)), .nil⟩
        simp only
        rw [hgo, show decide (0 < q.length) = true from decide_eq_true hql]
        rfl
      · have hql : ¬ 0 < q.length := by simp at h2; omega
        have hfl : fromL x.ll i = s := by
          rw [hgo, show decide (0 < q.length) = false from decide_eq_false hql]
          rfl
        refine ⟨_, _, .sub (List.sublist_append_right _ _) (.prom rfl (by simp) .refl), ins_le hb, ⟨some ⟨b, 0, none⟩, x.n, x.n, s⟩, rfl, ⟨⟨by simp [hsl], ⟨Nat.le_refl _, by simp only; omega⟩, .inr ⟨_, rfl, rfl, _, _, _, ins_self .., ?_⟩⟩⟩, hfl.symm, rfl⟩
        simp [hsl]
        exact List.take_of_length_le (by simp [hsl])

theorem from_spec {I : GH} {x : Ls} (hx : x.ok I) (hn : x.n ≤ 1099511627776) (hL : ∀ l ∈ x.ll, valid x.ll.length l) {i : Nat} (hi : i < x.n) : Spec Tryz.prog 37 [x.val, .int .i64 i] I [] fun v I' M' => (∀ b o, I b = some o → I' b = some o) ∧ ∃ r : Rb, v = r.val ∧ r.ok I' ∧ r.l = fromL x.ll i ∧ M' = [] := by
  refine spec_of_V [] TryzEOK Tryz.func37 rfl rfl rfl ?_
  intro B h0
  have hxn := hx.n
  have hll : x.ll.length = x.n := by simp [Ls.ll, hxn]
  refine CodeOb.scope TryzEOK rfl (fromLP I x) (fun _ => 0) (FromLInv I x.ll i) (fun y => y.2.2.2.2) (fun _ => labelIn (scopeIn (Tryz.f37.body.getD .skip)) 0) (fun _ _ => ⟨by kernel_rfl, by kernel_rfl⟩) ?_ ?_
  · refine MakeOb.mk x.n x.n rfl rfl (Nat.le_refl _) (by show 1 * x.n ≤ _; omega) (by omega) ?_
    refine AllocOb.mk fun b hb hbM => ?_
    refine IdxOb.mk ⟨b, 0, none⟩ i rfl rfl hi ?_
    have hr : rowOf [.bool false] (x.n * 1) = (List.replicate x.n false).map Value.bool := by
      rw [rowOf_one, Nat.mul_one, List.map_replicate]
    refine StoreOb.add [] [] (((List.replicate x.n false).map Value.bool).toArray) 4 (by rw [← hr]; rfl) ?_ rfl ?_
    · simp only [List.size_toArray, List.length_map, List.length_replicate]
      show 0 + i * 1 + 1 ≤ _
      omega
    refine AllocOb.mk fun b6 hb6 hbM6 => ?_
    have e := boolRow_set (List.replicate x.n false) i (by simpa using hi) true
    have hst := FromInv.start (L := x.ll) (i := i) (by omega)
    rw [hll] at hst
    have key := fun G GC => from_pass hx hn hL (i := i) (b, (List.replicate x.n false).set i true, ⟨some b6, 1, 1, [.int .i64 i]⟩, [(i : Int)], 2 * x.n + 2) ⟨hb, ⟨rfl, (fun h => by cases h), fun g3 _ => ⟨rfl, Nat.le_refl _, by simp only [maxLen]; omega, rfl⟩⟩, hst, by simp, ?_, by simp only; omega, by simp only [fromL]; rw [hll]⟩ (p := fun l y => FromLInv I x.ll i y ∧ 0 = l) (fun z hz _ => ⟨hz, rfl⟩) B h0 G GC
    · refine V_frameN (t1 := 0) (t2 := 5) (t3 := 6) (fun G GC => ?_) rfl rfl rfl
      have k2 := key G GC
      simp only [boolRow] at k2
      rw [← e] at k2
      simp only [Nat.zero_add, Nat.mul_one]
      exact k2
    · simp only
      have := openN_le ((List.replicate x.n false).set i true)
      simp only [List.length_set, List.length_replicate, List.length_cons, List.length_nil] at this ⊢
      omega
  · intro y hy
    exact V_frameN (t1 := 0) (t2 := 5) (t3 := 6) (fun G GC => from_pass hx hn hL y hy (fun z hz hlt => ⟨⟨hz, rfl⟩, hlt⟩) B h0 G GC) rfl rfl rfl
end Go.V

/-
  Plain: rows of numbers out of marks; rules parted. No program in sight.
-/
set_option linter.unusedVariables false
set_option linter.unusedSimpArgs false
namespace Go.V
open Go

theorem listL_mem (wh : Bool) : ∀ (s : List Bool) (i : Nat) (k : Int), k ∈ listL wh i s ↔ ∃ j : Nat, k = ((i + j : Nat) : Int) ∧ s[j]? = some wh
  | [], i, k => by simp [listL]
  | b :: s, i, k => by
    have ih := listL_mem wh s (i + 1) k
    unfold listL
    have tail : (∃ j : Nat, k = ((i + 1 + j : Nat) : Int) ∧ s[j]? = some wh) ↔ ∃ j : Nat, k = ((i + (j + 1) : Nat) : Int) ∧ (b :: s)[j + 1]? = some wh := by
      constructor
      · rintro ⟨j, h1, h2⟩
        exact ⟨j, by rw [h1]; omega, by simpa using h2⟩
      · rintro ⟨j, h1, h2⟩
        exact ⟨j, by rw [h1]; omega, by simpa using h2⟩
    have split : (∃ j : Nat, k = ((i + j : Nat) : Int) ∧ (b :: s)[j]? = some wh) ↔ (k = (i : Int) ∧ b = wh) ∨ ∃ j : Nat, k = ((i + (j + 1) : Nat) : Int) ∧ (b :: s)[j + 1]? = some wh := by
      constructor
      · rintro ⟨j, h1, h2⟩
        cases j with
        | zero => exact .inl ⟨by simpa using h1, by simpa using h2⟩
        | succ j => exact .inr ⟨j, h1, h2⟩
      · rintro (⟨h1, h2⟩ | ⟨j, h1, h2⟩)
        · exact ⟨0, by simpa using h1, by simpa using h2⟩
        · exact ⟨j + 1, h1, h2⟩
    rw [split]
    cases hb : b == wh with
    | true =>
      have : b = wh := by simpa using hb
      simp only [cond_true, List.mem_cons, ih, tail]
      simp [this]
    | false =>
      have : b ≠ wh := by simpa using hb
      simp only [cond_false, ih, tail]
      simp [this]
theorem listL_valid {wh : Bool} {s : List Bool} : valid s.length (listL wh 0 s) := fun k hk => by
  obtain ⟨j, h1, h2⟩ := (listL_mem wh s 0 k).1 hk
  have := (List.getElem?_eq_some_iff.1 h2).1
  omega
theorem calledL_valid (g : Gr) (t : Tr) : valid g.n (calledL g t) := by
  have h := listL_valid (wh := true) (s := thereL g.ds g.n (namedL t.ns))
  rw [thereL_len] at h
  exact h
theorem callsL_valid {g : Gr} (hn : g.ds.length = g.n) : ∀ l ∈ callsL g, valid (callsL g).length l := by
  intro l hl
  obtain ⟨d, _, rfl⟩ := List.mem_map.1 hl
  simp only [callsL, List.length_map, hn]
  exact calledL_valid g d.t
theorem listL_both : ∀ (s : List Bool) (i j : Nat), (listL true i s).length + (listL false j s).length = s.length
  | [], _, _ => rfl
  | b :: s, i, j => by
    have := listL_both s (i + 1) (j + 1)
    cases b <;> simp [listL] <;> omega
theorem listL_isM {s : List Bool} {k : Nat} : (k : Int) ∈ listL true 0 s ↔ isM s k := by
  rw [listL_mem]
  unfold isM
  constructor
  · rintro ⟨j, h1, h2⟩
    have : k = j := by omega
    subst this
    simp [List.getD_eq_getElem?_getD, h2]
  · intro h
    refine ⟨k, by omega, ?_⟩
    have hl := isM_lt h
    simp only [List.getD_eq_getElem?_getD, List.getElem?_eq_getElem hl, Option.getD_some] at h
    rw [List.getElem?_eq_getElem hl, h]
theorem listL_notM {s : List Bool} {k : Nat} : (k : Int) ∈ listL false 0 s ↔ k < s.length ∧ ¬ isM s k := by
  rw [listL_mem]
  unfold isM
  constructor
  · rintro ⟨j, h1, h2⟩
    have : k = j := by omega
    subst this
    have hl := (List.getElem?_eq_some_iff.1 h2).1
    exact ⟨hl, by simp [List.getD_eq_getElem?_getD, h2]⟩
  · rintro ⟨hl, h⟩
    refine ⟨k, by omega, ?_⟩
    simp only [List.getD_eq_getElem?_getD, List.getElem?_eq_getElem hl, Option.getD_some] at h
    rw [List.getElem?_eq_getElem hl]
    simpa using h

/-! ### Parts -/
def matOf (L : List (List Int)) : List (List Bool) := (List.range L.length).map fun i => fromL L i
def mat (R : List (List Bool)) (i k : Nat) : Bool := (R.getD i []).getD k false
def partGo (R : List (List Bool)) (i : Nat) : Nat → Nat → List Bool → List Int → List Bool × List Int
  | 0, _, p, q => (p, q)
  | f + 1, k, p, q => bif mat R i k && mat R k i then partGo R i f (k + 1) (p.set k true) (q ++ [(k : Int)]) else partGo R i f (k + 1) p q
def roundsGo (R : List (List Bool)) (n : Nat) : Nat → Nat → List Bool → List (List Int) → List (List Int)
  | 0, _, _, ps => ps
  | f + 1, i, p, ps => bif p.getD i false then roundsGo R n f (i + 1) p ps else roundsGo R n f (i + 1) (partGo R i (n - i) i p []).1 (ps ++ [(partGo R i (n - i) i p []).2])
def roundsL (L : List (List Int)) : List (List Int) := roundsGo (matOf L) L.length L.length 0 (List.replicate L.length false) []

theorem partGo_len (R : List (List Bool)) (i : Nat) : ∀ (f k : Nat) (p : List Bool) (q : List Int), (partGo R i f k p q).1.length = p.length ∧ (partGo R i f k p q).2.length ≤ q.length + f
  | 0, k, p, q => by simp [partGo]
  | f + 1, k, p, q => by
    unfold partGo
    cases mat R i k && mat R k i with
    | true =>
      obtain ⟨h1, h2⟩ := partGo_len R i f (k + 1) (p.set k true) (q ++ [(k : Int)])
      simp only [cond_true]
      refine ⟨by rw [h1]; simp, ?_⟩
      simp only [List.length_append, List.length_cons, List.length_nil] at h2
      omega
    | false =>
      obtain ⟨h1, h2⟩ := partGo_len R i f (k + 1) p q
      simp only [cond_false]
      exact ⟨h1, by omega⟩

/-- Two are in one part. -/
def Mutual (R : List (List Bool)) (i k : Nat) : Prop := mat R i k = true ∧ mat R k i = true
theorem partGo_ok {R : List (List Bool)} {i n : Nat} : ∀ (f k : Nat) (p : List Bool) (q : List Int), k + f = n → p.length = n → (∀ a, k ≤ a → a < n → Mutual R i a → ¬ isM p a) →
    (∀ a, isM (partGo R i f k p q).1 a ↔ isM p a ∨ (k ≤ a ∧ a < n ∧ Mutual R i a)) ∧
    (∀ x, x ∈ (partGo R i f k p q).2 ↔ x ∈ q ∨ ∃ a : Nat, x = (a : Int) ∧ k ≤ a ∧ a < n ∧ Mutual R i a) ∧
    openN (partGo R i f k p q).1 + (partGo R i f k p q).2.length = openN p + q.length
  | 0, k, p, q, hk, hp, hd => by
    refine ⟨fun a => ?_, fun x => ?_, rfl⟩
    · constructor
      · exact .inl
      · rintro (h | ⟨h1, h2, _⟩)
        · exact h
        · omega
    · constructor
      · exact .inl
      · rintro (h | ⟨a, _, h1, h2, _⟩)
        · exact h
        · omega
  | f + 1, k, p, q, hk, hp, hd => by
    unfold partGo
    cases hm : mat R i k && mat R k i with
    | true =>
      have hmu : Mutual R i k := by simpa [Mutual] using hm
      have hkp : k < p.length := by omega
      have hnk := hd k (Nat.le_refl _) (by omega) hmu
      obtain ⟨h1, h2, h3⟩ := partGo_ok (n := n) f (k + 1) (p.set k true) (q ++ [(k : Int)]) (by omega) (by simpa using hp) (fun a ha1 ha2 ha3 hc => by
        rcases (isM_set hkp).1 hc with rfl | hc
        · omega
        · exact hd a (by omega) ha2 ha3 hc)
      simp only [cond_true]
      refine ⟨fun a => ?_, fun x => ?_, ?_⟩
      · rw [h1, isM_set hkp]
        constructor
        · rintro ((rfl | h) | ⟨g1, g2, g3⟩)
          · exact .inr ⟨Nat.le_refl _, by omega, hmu⟩
          · exact .inl h
          · exact .inr ⟨by omega, g2, g3⟩
        · rintro (h | ⟨g1, g2, g3⟩)
          · exact .inl (.inr h)
          · by_cases e : a = k
            · exact .inl (.inl e)
            · exact .inr ⟨by omega, g2, g3⟩
      · rw [h2]
        simp only [List.mem_append, List.mem_singleton]
        constructor
        · rintro ((h | h) | ⟨a, g0, g1, g2, g3⟩)
          · exact .inl h
          · exact .inr ⟨k, h, Nat.le_refl _, by omega, hmu⟩
          · exact .inr ⟨a, g0, by omega, g2, g3⟩
        · rintro (h | ⟨a, g0, g1, g2, g3⟩)
          · exact .inl (.inl h)
          · by_cases e : a = k
            · subst e
              exact .inl (.inr g0)
            · exact .inr ⟨a, g0, by omega, g2, g3⟩
      · have hs := openN_set p k hkp (by simpa [isM] using hnk)
        simp only [List.length_append, List.length_cons, List.length_nil] at h3
        omega
    | false =>
      have hmu : ¬ Mutual R i k := by
        intro h
        rw [h.1, h.2] at hm
        cases hm
      obtain ⟨h1, h2, h3⟩ := partGo_ok (n := n) f (k + 1) p q (by omega) hp (fun a ha1 ha2 ha3 hc => hd a (by omega) ha2 ha3 hc)
      simp only [cond_false]
      refine ⟨fun a => ?_, fun x => ?_, h3⟩
      · rw [h1]
        constructor
        · rintro (h | ⟨g1, g2, g3⟩)
          · exact .inl h
          · exact .inr ⟨by omega, g2, g3⟩
        · rintro (h | ⟨g1, g2, g3⟩)
          · exact .inl h
          · by_cases e : a = k
            · subst e
              exact (hmu g3).elim
            · exact .inr ⟨by omega, g2, g3⟩
      · rw [h2]
        constructor
        · rintro (h | ⟨a, g0, g1, g2, g3⟩)
          · exact .inl h
          · exact .inr ⟨a, g0, by omega, g2, g3⟩
        · rintro (h | ⟨a, g0, g1, g2, g3⟩)
          · exact .inl h
          · by_cases e : a = k
            · subst e
              exact (hmu g3).elim
            · exact .inr ⟨a, g0, by omega, g2, g3⟩

/-- An equivalence below n. -/
structure Equ (R : List (List Bool)) (n : Nat) : Prop where
  refl : ∀ i, i < n → Mutual R i i
  trans : ∀ i j k, Mutual R i j → Mutual R j k → Mutual R i k
theorem Mutual.symm {R : List (List Bool)} {i j : Nat} (h : Mutual R i j) : Mutual R j i := ⟨h.2, h.1⟩

theorem roundsGo_sum {R : List (List Bool)} {n : Nat} (hR : Equ R n) : ∀ (f i : Nat) (p : List Bool) (ps : List (List Int)), i + f = n → p.length = n → (∀ a, a < n → (isM p a ↔ ∃ j, j < i ∧ Mutual R j a)) →
    ((roundsGo R n f i p ps).map List.length).sum = (ps.map List.length).sum + openN p
  | 0, i, p, ps, hi, hp, hpl => by
    have : openN p = 0 := by
      have all : ∀ (m : List Bool), (∀ a, a < m.length → isM m a) → openN m = 0 := by
        intro m
        induction m with
        | nil => intro _; rfl
        | cons b m ih =>
          intro h
          have h0 := h 0 (by simp)
          have hb : b = true := by simpa [isM] using h0
          subst hb
          have := ih fun a ha => by
            have := h (a + 1) (by simpa using ha)
            simpa [isM] using this
          simp [openN, this]
      exact all p fun a ha => (hpl a (by omega)).2 ⟨a, by omega, hR.refl a (by omega)⟩
    simp [roundsGo, this]
  | f + 1, i, p, ps, hi, hp, hpl => by
    unfold roundsGo
    cases hb : p.getD i false with
    | true =>
      simp only [cond_true]
      refine roundsGo_sum hR f (i + 1) p ps (by omega) hp fun a ha => ?_
      rw [hpl a ha]
      constructor
      · rintro ⟨j, h1, h2⟩
        exact ⟨j, by omega, h2⟩
      · rintro ⟨j, h1, h2⟩
        by_cases e : j = i
        · subst e
          obtain ⟨j', g1, g2⟩ := (hpl j (by omega)).1 hb
          exact ⟨j', g1, hR.trans _ _ _ g2 h2⟩
        · exact ⟨j, by omega, h2⟩
    | false =>
      have hni : ¬ isM p i := by simpa [isM] using hb
      have hno : ∀ j, j < i → ¬ Mutual R j i := fun j hj hm => hni ((hpl i (by omega)).2 ⟨j, hj, hm⟩)
      have hnp : ∀ a, i ≤ a → a < n → Mutual R i a → ¬ isM p a := fun a h1 h2 h3 h4 => by
        obtain ⟨j, g1, g2⟩ := (hpl a h2).1 h4
        exact hno j g1 (hR.trans _ _ _ g2 h3.symm)
      obtain ⟨q1, q2, q3⟩ := partGo_ok (n := n) (n - i) i p [] (by omega) hp hnp
      have hl := (partGo_len R i (n - i) i p []).1
      simp only [cond_false]
      rw [roundsGo_sum hR f (i + 1) _ _ (by omega) (by rw [hl]; exact hp) fun a ha => ?_]
      · simp only [List.map_append, List.sum_append, List.map_cons, List.map_nil, List.sum_cons, List.sum_nil, List.length_nil] at q3 ⊢
        omega
      · rw [q1, hpl a ha]
        constructor
        · rintro (⟨j, h1, h2⟩ | ⟨h1, h2, h3⟩)
          · exact ⟨j, by omega, h2⟩
          · exact ⟨i, by omega, h3⟩
        · rintro ⟨j, h1, h2⟩
          by_cases e : j = i
          · subst e
            refine .inr ⟨?_, ha, h2⟩
            apply Nat.le_of_not_lt
            intro hlt
            exact hno a hlt h2.symm
          · exact .inl ⟨j, by omega, h2⟩

theorem Comes.trans {L : List (List Int)} {i j k : Nat} (h1 : Comes L i j) (h2 : Comes L j k) : Comes L i k := by
  induction h2 with
  | self => exact h1
  | next _ hk ih => exact .next ih hk
theorem mat_ok {L : List (List Int)} (hL : ∀ l ∈ L, valid L.length l) {i k : Nat} (hi : i < L.length) : mat (matOf L) i k = true ↔ Comes L i k := by
  have h := (fromL_ok hL hi).iff k
  have e : (matOf L).getD i [] = fromL L i := by simp [matOf, List.getD_eq_getElem?_getD, hi]
  unfold mat
  rw [e]
  exact h
theorem mat_lt {L : List (List Int)} {i k : Nat} (h : mat (matOf L) i k = true) : i < L.length := by
  apply Nat.lt_of_not_le
  intro hle
  have e : (matOf L).getD i [] = [] := by simp [matOf, List.getD_eq_getElem?_getD, hle]
  unfold mat at h
  rw [e] at h
  simp at h
theorem equ_mat {L : List (List Int)} (hL : ∀ l ∈ L, valid L.length l) : Equ (matOf L) L.length := by
  refine ⟨fun i hi => ⟨(mat_ok hL hi).2 .self, (mat_ok hL hi).2 .self⟩, fun i j k h1 h2 => ?_⟩
  have a1 := mat_lt h1.1
  have a2 := mat_lt h1.2
  have a3 := mat_lt h2.2
  exact ⟨(mat_ok hL a1).2 (((mat_ok hL a1).1 h1.1).trans ((mat_ok hL a2).1 h2.1)), (mat_ok hL a3).2 (((mat_ok hL a3).1 h2.2).trans ((mat_ok hL a2).1 h1.2))⟩
theorem roundsL_sum {L : List (List Int)} (hL : ∀ l ∈ L, valid L.length l) : ((roundsL L).map List.length).sum = L.length := by
  have hn : ∀ a, ¬ isM (List.replicate L.length false) a := fun a => by
    unfold isM
    by_cases h : a < L.length <;> simp [List.getD_eq_getElem?_getD, h]
  have ho : ∀ n, openN (List.replicate n false) = n := fun n => by
    induction n with
    | zero => rfl
    | succ n ih => simp [List.replicate_succ, openN, ih]; omega
  unfold roundsL
  rw [roundsGo_sum (equ_mat hL) _ _ _ _ (by omega) (by simp) fun a ha => ⟨fun h => (hn a h).elim, fun ⟨j, h, _⟩ => by omega⟩, ho]
  simp
end Go.V

/-
  Walks: reach.Calls, From, Useless, Self.
-/
set_option linter.unusedVariables false
set_option linter.unusedSimpArgs false
namespace Go.V
open Go Go.Proofs

def rw0 : Rw := ⟨none, 0, 0, []⟩
theorem rw0_ok (I : GH) : rw0.ok I := ⟨⟨rfl, ⟨Nat.le_refl _, by simp [rw0]⟩, .inl rfl⟩⟩
def inR (i : Int) (n : Nat) : Bool := !decide (i < 0) && !decide ((n : Int) ≤ i)
def callsG (deb : List Int) (g : Gr) (i : Int) : List Int := bif inR i g.n && decide (mayG deb g = 0) then (callsL g).getD i.toNat [] else []
def fromG (deb : List Int) (g : Gr) (i : Int) : List Int := bif inR i g.n && decide (mayG deb g = 0) then listL true 0 (fromL (callsL g) i.toNat) else []
def uselessG (deb : List Int) (g : Gr) : List Int := bif decide (mayG deb g = 0) && !decide ((g.n : Int) = 0) then listL false 0 (fromL (callsL g) 0) else []

theorem Calls_spec {I : GH} {deb : List Int} (hT : Tabs I deb) {g : Gr} (hg : g.ok I) (hn : g.n ≤ 1099511627776) (i : Int) : Spec Tryz.prog 7 [g.val, .int .i64 i] I [] fun v I' M' => (∀ b o, I b = some o → I' b = some o) ∧ ∃ x : Rw, v = x.val ∧ x.ok I' ∧ x.l = callsG deb g i ∧ M' = [] := by
  refine spec_of_V [] TryzEOK Tryz.func7 rfl rfl rfl ?_
  intro B h0
  have hgn := hg.n
  refine GuardOb.mk (fun h1 => ?_) (fun h1 => ?_)
  · refine GuardOb.mk (fun h2 => ?_) (fun h2 => ?_)
    · have hin : inR i g.n = true := by
        have h2' : decide ((g.n : Int) ≤ i) = false := h2
        rw [inR, h1, h2']
        rfl
      refine CallOb.mk [] [] _ (.refl _) (May_spec hT hg) ?_
      rintro v I1 M1 - ⟨rfl, hI1, rfl⟩
      refine CondOb.mk (fun h3 => ?_) (fun h3 => ?_)
      · refine ⟨_, _, .refl, hI1, rw0, rfl, rw0_ok _, ?_, rfl⟩
        have h3' : decide (mayG deb g = 0) = false := by simpa using h3
        rw [callsG, hin, h3']
        rfl
      · have hm : decide (mayG deb g = 0) = true := by simpa using h3
        have hi0 : 0 ≤ i := by simpa using h1
        have hi1 : i < g.n := by simpa using h2
        have hl' : i.toNat < g.ds.length := by omega
        have hg1 := hg.mono hI1
        obtain ⟨ad, had, hrd⟩ := hg1.rs.row Df.cells_len (j := i.toNat) (by omega) hl'
        have hdm : g.ds[i.toNat] ∈ g.ds := List.getElem_mem hl'
        refine CodeOb.draw TryzEOK rfl rfl rfl ?_
        refine IdxOb.mk ad i.toNat had (by omega) (by omega) ?_
        refine LoadOb.mk _ (Rd.part (k := 1) (m := 2) (hrd _) (by decide)) ?_
        refine CallOb.mk [] [] _ (.refl _) (called_spec hg1 hn (hg1.ds _ hdm).t) ?_
        rintro v I2 M2 - ⟨hI2, x, rfl, hx, hxl, rfl⟩
        refine ⟨_, _, .refl, fun b o h => hI2 _ _ (hI1 _ _ h), x, rfl, hx, ?_, rfl⟩
        rw [callsG, hin, hm, hxl]
        simp [callsL, List.getD_eq_getElem?_getD, hl']
    · refine ⟨_, _, .refl, fun _ _ h => h, rw0, rfl, rw0_ok _, ?_, rfl⟩
      have h2' : decide ((g.n : Int) ≤ i) = true := h2
      rw [callsG, inR, h1, h2']
      rfl
  · refine ⟨_, _, .refl, fun _ _ h => h, rw0, rfl, rw0_ok _, ?_, rfl⟩
    rw [callsG, inR, h1]
    rfl

theorem callsL_len {g : Gr} (hn : g.ds.length = g.n) : (callsL g).length = g.n := by simp [callsL, hn]
theorem from_len {L : List (List Int)} (hL : ∀ l ∈ L, valid L.length l) {i : Nat} (hi : i < L.length) : (fromL L i).length = L.length := (fromL_ok hL hi).len

theorem From_spec {I : GH} {deb : List Int} (hT : Tabs I deb) {g : Gr} (hg : g.ok I) (hn : g.n ≤ 1099511627776) (i : Int) : Spec Tryz.prog 8 [g.val, .int .i64 i] I [] fun v I' M' => (∀ b o, I b = some o → I' b = some o) ∧ ∃ x : Rw, v = x.val ∧ x.ok I' ∧ x.l = fromG deb g i ∧ M' = [] := by
  refine spec_of_V [] TryzEOK Tryz.func8 rfl rfl rfl ?_
  intro B h0
  have hgn := hg.n
  refine CallOb.mk [] [] _ (.refl _) (calls_spec hT hg hn) ?_
  rintro v I1 M1 - ⟨hI1, rfl, ⟨hm, rfl⟩ | ⟨hm, x, rfl, hx, hxl⟩⟩
  · refine GuardOb.mk (fun h => by cases h) (fun _ => ?_)
    refine ⟨_, _, .refl, hI1, rw0, rfl, rw0_ok _, ?_, rfl⟩
    have h3' : decide (mayG deb g = 0) = false := by simpa using hm
    rw [fromG, h3', Bool.and_false]
    rfl
  · have h3' : decide (mayG deb g = 0) = true := by simpa using hm
    have hxn : x.n = g.n := by
      have h1 := hx.n
      have h2 := congrArg List.length hxl
      simp only [Ls.ll, List.length_map, callsL] at h2
      omega
    have hv : ∀ l ∈ x.ll, valid x.ll.length l := by rw [hxl]; exact callsL_valid hgn
    refine GuardOb.mk (fun _ => ?_) (fun h => by cases h)
    refine GuardOb.mk (fun h1 => ?_) (fun h1 => ?_)
    · refine CondOb.mk (fun h2 => ?_) (fun h2 => ?_)
      · refine ⟨_, _, .refl, hI1, rw0, rfl, rw0_ok _, ?_, rfl⟩
        have h2' : decide ((g.n : Int) ≤ i) = true := by rw [← hxn]; exact h2
        rw [fromG, inR, h1, h2']
        rfl
      · have h2' : decide ((g.n : Int) ≤ i) = false := by rw [← hxn]; exact h2
        have hi0 : 0 ≤ i := by simpa using h1
        have hi1 : i < g.n := by simpa using h2'
        obtain ⟨j, rfl⟩ := Int.eq_ofNat_of_zero_le hi0
        refine CallOb.mk [] [] _ (.refl _) (from_spec hx (by omega) hv (i := j) (by omega)) ?_
        rintro v I2 M2 - ⟨hI2, r, rfl, hr, hrl, rfl⟩
        have hrn : r.n = g.n := by
          have h1 := hr.n
          rw [hrl, from_len hv (by rw [hxl, callsL_len hgn]; omega), hxl, callsL_len hgn] at h1
          exact h1.symm
        refine CallOb.mk [] [] _ (.refl _) (list_spec hr (by omega) true) ?_
        rintro v I3 M3 - ⟨hI3, y, rfl, hy, hyl, rfl⟩
        refine ⟨_, _, .refl, fun b o h => hI3 _ _ (hI2 _ _ (hI1 _ _ h)), y, rfl, hy, ?_, rfl⟩
        rw [fromG, inR, h1, h2', h3', hyl, hrl, hxl]
        rfl
    · refine ⟨_, _, .refl, hI1, rw0, rfl, rw0_ok _, ?_, rfl⟩
      rw [fromG, inR, h1]
      rfl

theorem Useless_spec {I : GH} {deb : List Int} (hT : Tabs I deb) {g : Gr} (hg : g.ok I) (hn : g.n ≤ 1099511627776) : Spec Tryz.prog 9 [g.val] I [] fun v I' M' => (∀ b o, I b = some o → I' b = some o) ∧ ∃ x : Rw, v = x.val ∧ x.ok I' ∧ x.l = uselessG deb g ∧ M' = [] := by
  refine spec_of_V [] TryzEOK Tryz.func9 rfl rfl rfl ?_
  intro B h0
  have hgn := hg.n
  refine CallOb.mk [] [] _ (.refl _) (calls_spec hT hg hn) ?_
  rintro v I1 M1 - ⟨hI1, rfl, ⟨hm, rfl⟩ | ⟨hm, x, rfl, hx, hxl⟩⟩
  · refine GuardOb.mk (fun h => by cases h) (fun _ => ?_)
    refine ⟨_, _, .refl, hI1, rw0, rfl, rw0_ok _, ?_, rfl⟩
    have h3' : decide (mayG deb g = 0) = false := by simpa using hm
    rw [uselessG, h3']
    rfl
  · have h3' : decide (mayG deb g = 0) = true := by simpa using hm
    have hxn : x.n = g.n := by
      have h1 := hx.n
      have h2 := congrArg List.length hxl
      simp only [Ls.ll, List.length_map, callsL] at h2
      omega
    have hv : ∀ l ∈ x.ll, valid x.ll.length l := by rw [hxl]; exact callsL_valid hgn
    refine GuardOb.mk (fun _ => ?_) (fun h => by cases h)
    refine CondOb.mk (fun h2 => ?_) (fun h2 => ?_)
    · refine ⟨_, _, .refl, hI1, rw0, rfl, rw0_ok _, ?_, rfl⟩
      have h2' : decide ((g.n : Int) = 0) = true := by rw [← hxn]; exact h2
      rw [uselessG, h2', h3']
      rfl
    · have h2' : decide ((g.n : Int) = 0) = false := by rw [← hxn]; exact h2
      have hpos : g.n ≠ 0 := by simp at h2'; omega
      refine CallOb.mk [] [] _ (.refl _) (from_spec hx (by omega) hv (i := 0) (by omega)) ?_
      rintro v I2 M2 - ⟨hI2, r, rfl, hr, hrl, rfl⟩
      have hrn : r.n = g.n := by
        have h1 := hr.n
        rw [hrl, from_len hv (by rw [hxl, callsL_len hgn]; omega), hxl, callsL_len hgn] at h1
        exact h1.symm
      refine CallOb.mk [] [] _ (.refl _) (list_spec hr (by omega) false) ?_
      rintro v I3 M3 - ⟨hI3, y, rfl, hy, hyl, rfl⟩
      refine ⟨_, _, .refl, fun b o h => hI3 _ _ (hI2 _ _ (hI1 _ _ h)), y, rfl, hy, ?_, rfl⟩
      rw [uselessG, h2', h3', hyl, hrl, hxl]
      rfl
end Go.V

/-
  Walks: reach.Self, slices.ContainsFunc, slices.IndexFunc.
-/
set_option linter.unusedVariables false
set_option linter.unusedSimpArgs false
namespace Go.V
open Go Go.Proofs

/-- Whether one of them is as asked for; where. -/
def idxOf (q : Int → Bool) : List Int → Nat → Int
  | [], _ => -1
  | k :: ks, i => bif q k then (i : Int) else idxOf q ks (i + 1)
theorem idxOf_ge (q : Int → Bool) : ∀ (l : List Int) (i : Nat), decide ((0 : Int) ≤ idxOf q l i) = l.any q
  | [], i => by simp [idxOf]
  | k :: ks, i => by
    have := idxOf_ge q ks (i + 1)
    unfold idxOf
    cases h : q k with
    | true => simp [h]
    | false => simpa [h] using this

theorem IndexFunc_spec {I : GH} {M : List Blk} {r : Rw} (hr : r.ok I) {f : Nat} {cap : Array Value} (q : Int → Bool) (hf : ∀ k ∈ r.l, ∀ I1, (∀ b o, I b = some o → I1 b = some o) → Spec Tryz.prog f (.int .i64 k :: cap.toList) I1 M fun v I' M' => v = .bool (q k) ∧ (∀ b o, I1 b = some o → I' b = some o) ∧ M' = M) :
    Spec Tryz.prog 65 [r.val, .func (.func f) #[] cap] I M fun v I' M' => v = .int .i64 (idxOf q r.l 0) ∧ (∀ b o, I b = some o → I' b = some o) ∧ M' = M := by
  refine spec_of_V [] TryzEOK Tryz.func65 rfl rfl rfl ?_
  intro B h0
  have hrn := hr.n
  have hrc := hr.rs.cap
  refine LoopOb.inv (ι := Nat × GH) (fun x => { fl := [(0, .val r.val), (1, .val (.func (.func f) #[] cap)), (7, .val (.int .i64 r.n)), (8, .val (.int .i64 x.1))], gi := x.2, mi := M })
    (fun x => x.1 ≤ r.n ∧ (∀ b o, I b = some o → x.2 b = some o) ∧ idxOf q r.l 0 = idxOf q (r.l.drop x.1) x.1) (fun x => r.n - x.1) ?_ ?_
  · exact ⟨(0, I), ⟨by simp, fun _ _ h => h, rfl⟩, .refl, .cons .refl (.cons .refl (.cons .refl (.cons .refl .nil))), .nil⟩
  · rintro ⟨i, I1⟩ ⟨hi, hI1, hx⟩
    simp only at hi hI1 hx
    refine CondOb.mk (fun h => ?_) (fun h => ?_)
    · have hlt : i < r.n := by simpa using h
      have hlt' : i < r.l.length := by omega
      obtain ⟨ad, had, hrd⟩ := (hr.mono hI1).rs.one hlt hlt'
      have hdrop : r.l.drop i = r.l[i] :: r.l.drop (i + 1) := List.drop_eq_getElem_cons hlt'
      refine IdxOb.mk ad i had rfl hlt ?_
      refine LoadOb.mk _ (hrd _) ?_
      refine CallOb.mk M [] _ (by simp) (hf _ (List.getElem_mem hlt') I1 hI1) ?_
      rintro v I2 M2 hI2 ⟨rfl, -, rfl⟩
      refine CondOb.mk (fun h2 => ?_) (fun h2 => ?_)
      · refine ⟨_, _, .refl, ?_, fun b o h => hI2 _ _ (hI1 _ _ h), by simp⟩
        rw [hx, hdrop, idxOf, h2]
        rfl
      · refine ArithOb.mk _ (next_wr (i := i) (by omega)) ?_
        refine ⟨(i + 1, I2), ⟨⟨by simp only; omega, fun b o h => hI2 _ _ (hI1 _ _ h), ?_⟩, by simp only; omega⟩, .perm (by simp) .refl, .cons .refl (.cons .refl (.cons .refl (.cons .refl .nil))), .nil⟩
        simp only
        rw [hx, hdrop, idxOf, h2]
        rfl
    · have hge : r.n ≤ i := by simpa using h
      refine ⟨_, _, .refl, ?_, hI1, rfl⟩
      rw [hx, List.drop_eq_nil_of_le (by omega)]
      rfl
theorem ContainsFunc_spec {I : GH} {M : List Blk} {r : Rw} (hr : r.ok I) {f : Nat} {cap : Array Value} (q : Int → Bool) (hf : ∀ k ∈ r.l, ∀ I1, (∀ b o, I b = some o → I1 b = some o) → Spec Tryz.prog f (.int .i64 k :: cap.toList) I1 M fun v I' M' => v = .bool (q k) ∧ (∀ b o, I1 b = some o → I' b = some o) ∧ M' = M) :
    Spec Tryz.prog 41 [r.val, .func (.func f) #[] cap] I M fun v I' M' => v = .bool (r.l.any q) ∧ (∀ b o, I b = some o → I' b = some o) ∧ M' = M := by
  refine spec_of_V [] TryzEOK Tryz.func41 rfl rfl rfl ?_
  intro B h0
  refine CallOb.mk M [] _ (by simp) (IndexFunc_spec hr q hf) ?_
  rintro v I2 M2 - ⟨rfl, hI2, rfl⟩
  refine ⟨_, _, .refl, ?_, hI2, by simp⟩
  rw [← idxOf_ge q r.l 0]

def selfG (deb : List Int) (g : Gr) (i : Int) : Bool :=
  bif inR i g.n && decide (mayG deb g = 0) then ((callsL g).getD i.toNat []).any fun k => (fromL (callsL g) k.toNat).getD i.toNat false else false

theorem Self1_spec {I : GH} {x : Ls} (hx : x.ok I) (hn : x.n ≤ 1099511627776) (hL : ∀ l ∈ x.ll, valid x.ll.length l) {i : Nat} (hi : i < x.n) {k : Int} (hk : 0 ≤ k ∧ k < x.n) {b5 b3 : Nat} :
    Spec Tryz.prog 42 [.int .i64 k, ptr b5, ptr b3] I [⟨b5, .cells #[x.val] 30 (0, 0)⟩, ⟨b3, .cells #[.int .i64 i] 3 (0, 0)⟩]
      fun v I' M' => v = .bool ((fromL x.ll k.toNat).getD i false) ∧ (∀ b o, I b = some o → I' b = some o) ∧ M' = [⟨b5, .cells #[x.val] 30 (0, 0)⟩, ⟨b3, .cells #[.int .i64 i] 3 (0, 0)⟩] := by
  refine spec_of_V [] TryzEOK Tryz.func42 rfl rfl rfl ?_
  intro B h0
  have hxn := hx.n
  have hll : x.ll.length = x.n := by simp [Ls.ll, hxn]
  obtain ⟨k, rfl⟩ := Int.eq_ofNat_of_zero_le hk.1
  have hkl : k < x.n := by omega
  have hfl := from_len hL (i := k) (by omega)
  refine CodeOb.draw TryzEOK rfl rfl rfl ?_
  refine LoadOb.mk [x.val] ⟨rfl, _, _, _, .inr ⟨_, .head _, rfl, rfl⟩, rfl, rfl⟩ ?_
  refine LoadOb.mk [.int .i64 i] ⟨rfl, _, _, _, .inr ⟨_, .tail _ (.head _), rfl, rfl⟩, rfl, rfl⟩ ?_
  refine PCallOb.mk _ (from_spec hx hn hL hkl) ?_
  rintro v I2 M2 - ⟨hI2, r, rfl, hr, hrl, rfl⟩
  have hrn := hr.n
  have hil : i < r.n := by rw [← hrn, hrl, hfl]; omega
  obtain ⟨ad, had, hrd⟩ := hr.rs.one hil (by omega)
  refine IdxOb.mk ad i had rfl hil ?_
  refine LoadOb.mk _ (hrd _) ?_
  refine ⟨_, _, .refl, ?_, hI2, rfl⟩
  have e : (fromL x.ll k)[i]? = some (r.l[i]'(by omega)) := by rw [← hrl]; exact List.getElem?_eq_getElem (by omega)
  simp only [Int.toNat_natCast, Int.ofNat_eq_natCast, List.getD_eq_getElem?_getD, e, Option.getD_some]
  rfl

theorem Self_spec {I : GH} {deb : List Int} (hT : Tabs I deb) {g : Gr} (hg : g.ok I) (hn : g.n ≤ 1099511627776) (i : Int) : Spec Tryz.prog 16 [g.val, .int .i64 i] I [] fun v I' M' => v = .bool (selfG deb g i) ∧ (∀ b o, I b = some o → I' b = some o) ∧ M' = [] := by
  refine spec_of_V [3, 5] TryzEOK Tryz.func16 rfl rfl rfl ?_
  intro B h0
  have hgn := hg.n
  refine AllocOb.mk fun b3 hb3 hbM3 => ?_
  have rd3 : ∀ {I1 : GH} {M : List Blk}, (⟨b3, .cells #[.int .i64 i] 3 (0, 0)⟩ : Blk) ∈ M → Rd I1 M ⟨b3, 0, none⟩ 1 [.int .i64 i] := fun h => ⟨rfl, _, _, _, .inr ⟨_, h, rfl, rfl⟩, rfl, rfl⟩
  refine CallOb.mk [] [⟨b3, .cells #[.int .i64 i] 3 (0, 0)⟩] _ (.refl _) (calls_spec hT hg hn) ?_
  rintro v I1 M1 - ⟨hI1, rfl, ⟨hm, rfl⟩ | ⟨hm, x, rfl, hx, hxl⟩⟩
  · refine AllocOb.mk fun b5 hb5 hbM5 => ?_
    refine StoreOb.mk [] [⟨b3, .cells #[.int .i64 i] 3 (0, 0)⟩] _ _ rfl rfl (Nat.le_of_ble_eq_true rfl) rfl ?_
    refine GuardOb.mk (fun h => by cases h) (fun _ => ?_)
    refine ⟨_, _, .sub (List.nil_sublist _) .refl, ?_, hI1, rfl⟩
    have h3' : decide (mayG deb g = 0) = false := by simpa using hm
    rw [selfG, h3', Bool.and_false]
    rfl
  · have h3' : decide (mayG deb g = 0) = true := by simpa using hm
    have hxn : x.n = g.n := by
      have h1 := hx.n
      have h2 := congrArg List.length hxl
      simp only [Ls.ll, List.length_map, callsL] at h2
      omega
    have hv : ∀ l ∈ x.ll, valid x.ll.length l := by rw [hxl]; exact callsL_valid hgn
    refine AllocOb.mk fun b5 hb5 hbM5 => ?_
    refine StoreOb.mk [] [⟨b3, .cells #[.int .i64 i] 3 (0, 0)⟩] _ _ rfl rfl (Nat.le_of_ble_eq_true rfl) rfl ?_
    have rd5 : ∀ {I1 : GH} {M : List Blk}, (⟨b5, .cells #[x.val] 30 (0, 0)⟩ : Blk) ∈ M → Rd I1 M ⟨b5, 0, none⟩ 1 [x.val] := fun h => ⟨rfl, _, _, _, .inr ⟨_, h, rfl, rfl⟩, rfl, rfl⟩
    refine GuardOb.mk (fun _ => ?_) (fun h => by cases h)
    refine LoadOb.mk _ (rd3 (.tail _ (.head _))) ?_
    refine GuardOb.mk (fun h1 => ?_) (fun h1 => ?_)
    · refine LoadOb.mk _ (rd3 (.tail _ (.head _))) ?_
      refine LoadOb.mk [x.val] (rd5 (.head _)) ?_
      refine CondOb.mk (fun h2 => ?_) (fun h2 => ?_)
      · refine ⟨_, _, .sub (List.nil_sublist _) .refl, ?_, hI1, rfl⟩
        have h2' : decide ((g.n : Int) ≤ i) = true := by rw [← hxn]; exact h2
        rw [selfG, inR, h1, h2']
        rfl
      · have h2' : decide ((g.n : Int) ≤ i) = false := by rw [← hxn]; exact h2
        have hi0 : 0 ≤ i := by simpa using h1
        have hi1 : i < g.n := by simpa using h2'
        obtain ⟨j, rfl⟩ := Int.eq_ofNat_of_zero_le hi0
        have hjr : j < x.rows.length := by have := hx.n; omega
        obtain ⟨ar, har, hrr⟩ := hx.rs.one (j := j) (by omega) hjr
        have hrow := hx.rows _ (List.getElem_mem hjr)
        refine LoadOb.mk [x.val] (rd5 (.head _)) ?_
        refine LoadOb.mk _ (rd3 (.tail _ (.head _))) ?_
        refine IdxOb.mk ar j har rfl (by omega) ?_
        refine LoadOb.mk _ (hrr _) ?_
        have hLj : x.ll.getD j [] = x.rows[j].l := by simp [Ls.ll, List.getD_eq_getElem?_getD, hjr]
        have hll : x.ll.length = x.n := by simp [Ls.ll, hx.n]
        have hvj : valid x.ll.length x.rows[j].l := hv _ (by simp only [Ls.ll]; exact List.mem_map.2 ⟨_, List.getElem_mem hjr, rfl⟩)
        refine CallOb.mk [⟨b5, .cells #[x.val] 30 (0, 0)⟩, ⟨b3, .cells #[.int .i64 (j : Nat)] 3 (0, 0)⟩] [] _ (by simp; rfl) (ContainsFunc_spec hrow (f := 42) (cap := #[ptr b5, ptr b3]) (fun k => (fromL x.ll k.toNat).getD j false) (fun k hk I2 hI2 => Self1_spec (hx.mono hI2) (by omega) hv (i := j) (by omega) (by have := hvj k hk; omega))) ?_
        rintro v I2 M2 - ⟨rfl, hI2, rfl⟩
        refine ⟨_, _, .sub (List.nil_sublist _) .refl, ?_, fun b o h => hI2 _ _ (hI1 _ _ h), rfl⟩
        rw [selfG, inR, h1, h2', h3', ← hxl]
        simp only [Int.toNat_natCast, Int.ofNat_eq_natCast, hLj]
        rfl
    · refine ⟨_, _, .sub (List.nil_sublist _) .refl, ?_, hI1, rfl⟩
      rw [selfG, inR, h1]
      rfl
end Go.V

/-
  Walks: reach.Rounds.
-/
set_option linter.unusedVariables false
set_option linter.unusedSimpArgs false
namespace Go.V
open Go Go.Proofs

structure Lb where
  rows : List Rb
  a : Option Addr
  n : Nat
  c : Nat
def Lb.val (x : Lb) : Value := .slice x.a x.n x.c
structure Lb.ok (I : GH) (x : Lb) : Prop where
  rs : RS I x.a x.n x.c 1 24 (x.rows.map Rb.val)
  rows : ∀ r ∈ x.rows, r.ok I
theorem Lb.ok.mono {I I' : GH} {x : Lb} (h : x.ok I) (hI : ∀ b o, I b = some o → I' b = some o) : x.ok I' := ⟨h.rs.mono hI, fun r hr => (h.rows r hr).mono hI⟩

theorem perm5 {α : Type} (a c : α) (L1 L2 : List α) : (a :: ((L1 ++ L2) ++ [c])).Perm (L1 ++ (L2 ++ [c, a])) := by
  have h := perm4 a c (L1 ++ L2)
  rwa [List.append_assoc L1 L2 [c, a]] at h
theorem perm6 {α : Type} (a r : α) (Q O : List α) : (a :: (Q ++ (O ++ [r]))).Perm (O ++ (Q ++ [r, a])) := by
  have h1 : (Q ++ (O ++ [r])).Perm (O ++ Q ++ [r]) := by
    rw [← List.append_assoc]
    exact List.perm_append_comm.append_right [r]
  have h2 := (h1.cons a).trans (perm4 a r (O ++ Q))
  rwa [List.append_assoc] at h2
theorem perm7 {α : Type} (g r b : α) (Q : List α) : (g :: (Q ++ [r, b])).Perm ([b] ++ (Q ++ [g, r])) := by
  have h1 : (Q ++ [r, b]).Perm (b :: (Q ++ [r])) := (perm4 b r Q).symm
  have h2 : (g :: (Q ++ [r])).Perm (Q ++ [g, r]) := List.perm_middle.symm
  exact ((h1.cons g).trans (List.Perm.swap b g _)).trans (h2.cons b)

def roundsG (deb : List Int) (g : Gr) : List (List Int) := bif decide (mayG deb g = 0) then roundsL (callsL g) else []

set_option maxHeartbeats 4000000 in
theorem Rounds_spec {I : GH} {deb : List Int} (hT : Tabs I deb) {g : Gr} (hg : g.ok I) (hn : g.n ≤ 1099511627776) : Spec Tryz.prog 10 [g.val] I [] fun v I' M' => (∀ b o, I b = some o → I' b = some o) ∧ ∃ (os : OS) (rs : List Rw), v = os.val ∧ os.ok 1 (rs.map Rw.val) ∧ (∀ r ∈ rs, r.ok I') ∧ rs.map (·.l) = roundsG deb g ∧ M' = os.blk 27 := by
  refine spec_of_V [] TryzEOK Tryz.func10 rfl rfl rfl ?_
  intro B h0
  have hgn := hg.n
  refine CallOb.mk [] [] _ (.refl _) (calls_spec hT hg hn) ?_
  rintro v I1 M1 - ⟨hI1, rfl, ⟨hm, rfl⟩ | ⟨hm, x, rfl, hx, hxl⟩⟩
  · refine CondOb.mk (fun _ => ?_) (fun h => by cases h)
    refine ⟨_, _, .refl, hI1, OS0, [], rfl, OS0_ok 1, by simp, ?_, rfl⟩
    have h3' : decide (mayG deb g = 0) = false := by simpa using hm
    rw [roundsG, h3']
    rfl
  · have h3' : decide (mayG deb g = 0) = true := by simpa using hm
    have hrg : roundsG deb g = roundsL x.ll := by
      rw [roundsG, h3', hxl]
      rfl
    rw [hrg]
    have hxr := hx.n
    have hxn : x.n = g.n := by
      have h2 := congrArg List.length hxl
      simp only [Ls.ll, List.length_map, callsL] at h2
      omega
    have hv : ∀ l ∈ x.ll, valid x.ll.length l := by rw [hxl]; exact callsL_valid hgn
    have hll : x.ll.length = x.n := by simp [Ls.ll, hxr]
    refine CondOb.mk (fun h => by cases h) (fun _ => ?_)
    refine MakeOb.mk x.n x.n rfl rfl (Nat.le_refl _) (by show 24 * x.n ≤ _; omega) (by omega) ?_
    refine AllocOb.mk fun b hb hbM => ?_
    refine LoopOb.inv (ι := Nat × List Rb × GH) (fun y => { fl := [(3, .val x.val), (5, .val (.slice (some ⟨b, 0, none⟩) x.n x.n)), (23, .val (.int .i64 x.n)), (24, .val (.int .i64 y.1))], gi := y.2.2, mi := [⟨b, .cells (y.2.1.map Rb.val ++ List.replicate (x.n - y.1) (Value.slice none 0 0)).toArray 74 (0, 0)⟩] })
      (fun y => y.1 ≤ x.n ∧ y.2.1.length = y.1 ∧ (∀ b o, I1 b = some o → y.2.2 b = some o) ∧ y.2.2 b = none ∧ (∀ r ∈ y.2.1, r.ok y.2.2) ∧ y.2.1.map (·.l) = (List.range y.1).map (fun i => fromL x.ll i)) (fun y => x.n - y.1) ?_ ?_
    · refine ⟨(0, [], I1), ⟨by simp, rfl, fun _ _ h => h, hb, by simp, rfl⟩, ?_, .cons .refl (.cons .refl (.cons .refl (.cons .refl .nil))), .nil⟩
      show Wk _ _ [⟨b, .cells (rowOf [.slice none 0 0] (x.n * 1)).toArray 74 (0, 0)⟩] _ _
      rw [rowOf_one, Nat.mul_one]
      exact .refl
    · rintro ⟨i, rs, I2⟩ ⟨hi, hrl, hI2, hb2, hro, hrs⟩
      simp only at hi hrl hI2 hb2 hro hrs
      refine CondOb.mk (fun h => ?_) (fun h => ?_)
      · have hlt : i < x.n := by simpa using h
        refine CallOb.mkD [] [⟨b, .cells (rs.map Rb.val ++ List.replicate (x.n - i) (Value.slice none 0 0)).toArray 74 (0, 0)⟩] _ (.refl _) (from_spec (hx.mono hI2) (by omega) hv (i := i) hlt) ?_
        rintro v I3 M3 - hd3 ⟨hI3, r, rfl, hr, hrlv, rfl⟩
        refine IdxOb.mk ⟨b, 0, none⟩ i rfl rfl hlt ?_
        refine StoreOb.add [] [] _ _ rfl ?_ rfl ?_
        · simp only [List.size_toArray, List.length_append, List.length_map, List.length_replicate]
          show 0 + i * 1 + 1 ≤ _
          omega
        refine ArithOb.mk _ (next_wr (i := i) (by omega)) ?_
        refine ⟨(i + 1, rs ++ [r], I3), ⟨⟨by simp only; omega, by simp [hrl], fun b o h => hI3 _ _ (hI2 _ _ h), hd3 _ (.head _), fun r' hr' => ?_, ?_⟩, by simp only; omega⟩, ?_, .cons .refl (.cons .refl (.cons .refl (.cons .refl .nil))), .nil⟩
        · simp only [List.mem_append, List.mem_singleton] at hr'
          rcases hr' with hr' | rfl
          · exact (hro r' hr').mono hI3
          · exact hr
        · simp only
          rw [List.map_append, hrs, List.range_succ, List.map_append]
          simp [hrlv]
        · have hrep : List.replicate (x.n - i) (Value.slice none 0 0) = .slice none 0 0 :: List.replicate (x.n - (i + 1)) (.slice none 0 0) := by
            rw [show x.n - i = (x.n - (i + 1)) + 1 from by omega, List.replicate_succ]
          have e := splice_pre (pre := rs.map Rb.val) (post := List.replicate (x.n - (i + 1)) (.slice none 0 0)) (z := .slice none 0 0) (v := r.val) (k := 0 + i * 1) (by simp [hrl])
          rw [hrep]
          simp only [List.map_append, List.map_cons, List.map_nil, List.append_assoc, List.cons_append, List.nil_append]
          rw [← e]
          exact .refl
      · have hge : x.n ≤ i := by simpa using h
        have hin : i = x.n := by omega
        subst hin
        have hmat : rs.map (·.l) = matOf x.ll := by rw [hrs, matOf, hll]
        -- the rows of marks stand
        have hRok : Lb.ok (ins I2 b (.cells (rs.map Rb.val ++ List.replicate (x.n - x.n) (Value.slice none 0 0)).toArray 74 (0, 0))) ⟨rs, some ⟨b, 0, none⟩, x.n, x.n⟩ := by
          refine ⟨⟨by simp [hrl], ⟨Nat.le_refl _, by simp only; omega⟩, .inr ⟨_, rfl, rfl, _, _, _, ins_self .., ?_⟩⟩, fun r hr => (hro r hr).mono (ins_le hb2)⟩
          simp [hrl]
          exact List.take_of_length_le (by simp [hrl])
        generalize hR : (⟨rs, some ⟨b, 0, none⟩, x.n, x.n⟩ : Lb) = R at hRok
        have hRv : R.val = .slice (some ⟨b, 0, none⟩) x.n x.n := by rw [← hR]; rfl
        have hRr : R.rows = rs := by rw [← hR]
        have hRn : R.n = x.n := by rw [← hR]
        have hRa : R.a = some ⟨b, 0, none⟩ := by rw [← hR]
        generalize hI0 : ins I2 b (.cells (rs.map Rb.val ++ List.replicate (x.n - x.n) (Value.slice none 0 0)).toArray 74 (0, 0)) = I0 at hRok
        have hI20 : ∀ b o, I2 b = some o → I0 b = some o := by rw [← hI0]; exact ins_le hb2
        refine MakeOb.mk x.n x.n rfl rfl (Nat.le_refl _) (by show 1 * x.n ≤ _; omega) (by omega) ?_
        refine AllocOb.mk fun b8 hb8 hbM8 => ?_
        refine LoopOb.inv (ι := Nat × List Bool × OS × List Rw × GH) (fun y => { fl := [(3, .val x.val), (5, .val R.val), (7, .val y.2.2.1.val), (8, .val (.slice (some ⟨b8, 0, none⟩) x.n x.n)), (38, .val (.int .i64 x.n)), (39, .val (.int .i64 y.1))], gi := y.2.2.2.2, mi := y.2.2.1.blk 27 ++ [boolRow b8 y.2.1] })
          (fun y => y.1 ≤ x.n ∧ y.2.1.length = x.n ∧ y.2.2.1.ok 1 (y.2.2.2.1.map Rw.val) ∧ (∀ b o, I0 b = some o → y.2.2.2.2 b = some o) ∧ (∀ r ∈ y.2.2.2.1, r.ok y.2.2.2.2) ∧ y.2.2.2.1.length ≤ y.1 ∧ roundsL x.ll = roundsGo (matOf x.ll) x.n (x.n - y.1) y.1 y.2.1 (y.2.2.2.1.map (·.l))) (fun y => x.n - y.1) ?_ ?_
        · refine ⟨(0, List.replicate x.n false, OS0, [], I0), ⟨by simp, by simp, OS0_ok 1, fun _ _ h => h, by simp, by simp, by simp only [roundsL, hll]; rfl⟩, ?_, .cons .refl (.cons (by simp only [hRv]; exact .refl) (.cons .refl (.cons .refl (.cons .refl (.cons .refl .nil))))), .nil⟩
          have hr8 : rowOf [.bool false] (x.n * 1) = (List.replicate x.n false).map Value.bool := by
            rw [rowOf_one, Nat.mul_one, List.map_replicate]
          show Wk _ _ [⟨b8, .cells (rowOf [.bool false] (x.n * 1)).toArray 4 (0, 0)⟩, _] _ _
          rw [hr8]
          refine .perm (List.Perm.swap _ _ _) (.prom rfl (by simp) ?_)
          rw [hI0]
          exact .refl
        · rintro ⟨i, p, os, ws, I3⟩ ⟨hi, hpl, hos, hI3, hws, hwl, hgo⟩
          simp only at hi hpl hos hI3 hws hwl hgo
          refine CondOb.mk (fun h => ?_) (fun h => ?_)
          · have hlt : i < x.n := by simpa using h
            have hlp : i < p.length := by omega
            have hR3 := hRok.mono hI3
            have hosn : os.n = ws.length := by
              have := hos.len
              simp at this
              omega
            have hgd : p.getD i false = p[i] := by simp [List.getD_eq_getElem?_getD, hlp]
            have hgo1 : roundsL x.ll = bif p.getD i false then roundsGo (matOf x.ll) x.n (x.n - (i + 1)) (i + 1) p (ws.map (·.l)) else roundsGo (matOf x.ll) x.n (x.n - (i + 1)) (i + 1) (partGo (matOf x.ll) i (x.n - i) i p []).1 (ws.map (·.l) ++ [(partGo (matOf x.ll) i (x.n - i) i p []).2]) := by
              rw [hgo, show x.n - i = (x.n - (i + 1)) + 1 from by omega, roundsGo, show (x.n - (i + 1)) + 1 = x.n - i from by omega]
            refine IdxOb.mk ⟨b8, 0, none⟩ i rfl rfl hlt ?_
            refine LoadOb.mk _ (boolRow_rd (by simp) hlp) ?_
            refine CondOb.mk (fun h2 => ?_) (fun h2 => ?_)
            · rw [hgd, h2] at hgo1
              refine ArithOb.mk _ (next_wr (i := i) (by omega)) ?_
              exact ⟨(i + 1, p, os, ws, I3), ⟨⟨by simp only; omega, hpl, hos, hI3, hws, by simp only; omega, hgo1⟩, by simp only; omega⟩, .refl, .cons .refl (.cons .refl (.cons .refl (.cons .refl (.cons .refl (.cons .refl .nil))))), .nil⟩
            · rw [hgd, h2, cond_false] at hgo1
              refine LoopOb.inv (ι := Nat × List Bool × OS × List Int) (fun z => { fl := [(3, .val x.val), (5, .val R.val), (7, .val os.val), (8, .val (.slice (some ⟨b8, 0, none⟩) x.n x.n)), (9, .val (.int .i64 i)), (10, .val z.2.2.1.val), (11, .val (.int .i64 z.1)), (38, .val (.int .i64 x.n)), (39, .val (.int .i64 i))], gi := I3, mi := z.2.2.1.blk 3 ++ (os.blk 27 ++ [boolRow b8 z.2.1]) })
                (fun z => z.1 ≤ x.n ∧ i ≤ z.1 ∧ z.2.1.length = x.n ∧ z.2.2.1.ok 1 (z.2.2.2.map (.int .i64 ·)) ∧ (∀ g, z.2.2.1.a = some g → I3 g = none) ∧ z.2.2.2.length ≤ z.1 ∧ partGo (matOf x.ll) i (x.n - i) i p [] = partGo (matOf x.ll) i (x.n - z.1) z.1 z.2.1 z.2.2.2) (fun z => x.n - z.1) ?_ ?_
              · exact ⟨(i, p, OS0, []), ⟨by simp only; omega, Nat.le_refl _, hpl, OS0_ok 1, (fun g h => by cases h), Nat.zero_le _, rfl⟩, .refl, .cons .refl (.cons .refl (.cons .refl (.cons .refl (.cons .refl (.cons .refl (.cons .refl (.cons .refl (.cons .refl .nil)))))))), .nil⟩
              · rintro ⟨k, s, oq, q⟩ ⟨hk, hik, hsl, hoq, hoI, hql, hpg⟩
                simp only at hk hik hsl hoq hoI hql hpg
                have hoqn := hoq.len1
                refine CondOb.mk (fun h => ?_) (fun h => ?_)
                · have hkl : k < x.n := by simpa using h
                  have rowi : ∀ {j : Nat} (hj : j < x.n), ∃ (hjr : j < R.rows.length), (R.rows[j]'hjr).ok I3 ∧ (R.rows[j]'hjr).n = x.n ∧ (R.rows[j]'hjr).l.length = x.n ∧ ∀ a (ha : a < (R.rows[j]'hjr).l.length), mat (matOf x.ll) j a = (R.rows[j]'hjr).l[a] := fun {j} hj => by
                    have hjr : j < R.rows.length := by rw [hRr]; omega
                    have hok := hR3.rows _ (List.getElem_mem hjr)
                    have hmj : (matOf x.ll).getD j [] = (R.rows[j]'hjr).l := by
                      rw [← hmat, ← hRr]
                      simp [List.getD_eq_getElem?_getD, hjr]
                    have hl : (R.rows[j]'hjr).l.length = x.n := by
                      rw [← hmj]
                      have : (matOf x.ll).getD j [] = fromL x.ll j := by simp [matOf, List.getD_eq_getElem?_getD, hll, hj]
                      rw [this, from_len hv (by omega), hll]
                    refine ⟨hjr, hok, by rw [← hok.n, hl], hl, fun a ha => ?_⟩
                    unfold mat
                    rw [hmj]
                    simp [List.getD_eq_getElem?_getD, ha]
                  obtain ⟨hir, hiok, hin, hil, himat⟩ := rowi hlt
                  obtain ⟨hkr, hkok, hkn, hkll, hkmat⟩ := rowi hkl
                  have hone : ∀ {j : Nat} (hj : j < R.n) (hj' : j < R.rows.length), ∃ ad, R.a = some ad ∧ ∀ M, Rd I3 M (ad.add (j * 1)) 1 [(R.rows[j]'hj').val] := fun hj hj' => hR3.rs.one hj hj'
                  obtain ⟨ai, hai, hri⟩ := hone (j := i) (by omega) hir
                  obtain ⟨ak, hak, hrk⟩ := hone (j := k) (by omega) hkr
                  obtain ⟨ci, hci, hrci⟩ := hiok.rs.one (j := k) (by omega) (by omega)
                  obtain ⟨ck, hck, hrck⟩ := hkok.rs.one (j := i) (by omega) (by omega)
                  have hgk : partGo (matOf x.ll) i (x.n - i) i p [] = bif mat (matOf x.ll) i k && mat (matOf x.ll) k i then partGo (matOf x.ll) i (x.n - (k + 1)) (k + 1) (s.set k true) (q ++ [(k : Int)]) else partGo (matOf x.ll) i (x.n - (k + 1)) (k + 1) s q := by
                    rw [hpg, show x.n - k = (x.n - (k + 1)) + 1 from by omega, partGo]
                  rw [himat k (by omega), hkmat i (by omega)] at hgk
                  refine IdxOb.mk ai i hai rfl (by omega) ?_
                  refine LoadOb.mk _ (hri _) ?_
                  refine IdxOb.mk ci k hci rfl (by omega) ?_
                  refine LoadOb.mk _ (hrci _) ?_
                  refine GuardOb.mk (fun c1 => ?_) (fun c1 => ?_)
                  · refine IdxOb.mk ak k hak rfl (by omega) ?_
                    refine LoadOb.mk _ (hrk _) ?_
                    refine IdxOb.mk ck i hck rfl (by omega) ?_
                    refine LoadOb.mk _ (hrck _) ?_
                    refine CondOb.mk (fun c2 => ?_) (fun c2 => ?_)
                    · have hks : k < s.length := by omega
                      have e := boolRow_set s k hks true
                      refine IdxOb.mk ⟨b8, 0, none⟩ k rfl rfl hkl ?_
                      refine StoreOb.add (oq.blk 3 ++ os.blk 27) [] (s.map Value.bool).toArray 4 (by simp [boolRow]) ?_ rfl ?_
                      · simp only [List.size_toArray, List.length_map]
                        show 0 + k * 1 + 1 ≤ _
                        omega
                      refine AllocOb.mk fun b9 hb9 hbM9 => ?_
                      refine OtherOb.appendN TryzEOK rfl (by simp) (e := 3) rfl rfl rfl oq hoq rfl (m := 1) rfl (news := [.int .i64 k]) (by decide) (blk_rd (b := b9) (cs := [.int .i64 k]) (k := 0) (n := 1) (T := 3) (.head _) (by simp)) rfl (Mr := os.blk 27 ++ [⟨b8, .cells (splice (s.map Value.bool) (0 + k * 1) [.bool true]).toArray 4 (0, 0)⟩, ⟨b9, .cells #[.int .i64 k] 3 (0, 0)⟩]) (perm5 _ _ _ _) (by simp only [maxLen]; omega) (by show (oq.n + 1) * 8 ≤ _; omega) ?_
                      intro g' c' cur' q0 q1 q2 q3 q4
                      refine ArithOb.mk _ (next_wr (i := k) (by omega)) ?_
                      refine ⟨(k + 1, s.set k true, ⟨some g', oq.n + 1, c', cur'⟩, q ++ [(k : Int)]), ⟨⟨by simp only; omega, by simp only; omega, by simpa using hsl, ?_, fun g hg => by cases hg; exact q0, by simp only [List.length_append, List.length_cons, List.length_nil]; omega, ?_⟩, by simp only; omega⟩, ?_, .cons .refl (.cons .refl (.cons .refl (.cons .refl (.cons .refl (.cons .refl (.cons .refl (.cons .refl (.cons .refl .nil)))))))), .nil⟩
                      · simp only
                        rw [List.map_append]
                        exact app1_ok hoq q1 q2 q3 q4
                      · simp only
                        rw [hgk, c1, c2]
                        rfl
                      · simp only [boolRow]
                        rw [← e]
                        simp only [Nat.zero_add, Nat.mul_one]
                        exact .sub (.cons_cons _ (List.Sublist.append_left (.cons_cons _ (List.nil_sublist _)) _)) .refl
                    · refine ArithOb.mk _ (next_wr (i := k) (by omega)) ?_
                      refine ⟨(k + 1, s, oq, q), ⟨⟨by simp only; omega, by simp only; omega, hsl, hoq, hoI, by simp only; omega, ?_⟩, by simp only; omega⟩, .refl, .cons .refl (.cons .refl (.cons .refl (.cons .refl (.cons .refl (.cons .refl (.cons .refl (.cons .refl (.cons .refl .nil)))))))), .nil⟩
                      simp only
                      rw [hgk, c1, c2]
                      rfl
                  · refine ArithOb.mk _ (next_wr (i := k) (by omega)) ?_
                    refine ⟨(k + 1, s, oq, q), ⟨⟨by simp only; omega, by simp only; omega, hsl, hoq, hoI, by simp only; omega, ?_⟩, by simp only; omega⟩, .refl, .cons .refl (.cons .refl (.cons .refl (.cons .refl (.cons .refl (.cons .refl (.cons .refl (.cons .refl (.cons .refl .nil)))))))), .nil⟩
                    simp only
                    rw [hgk, c1]
                    rfl
                · have hge : x.n ≤ k := by simpa using h
                  have hpf : partGo (matOf x.ll) i (x.n - i) i p [] = (s, q) := by
                    rw [hpg, show x.n - k = 0 from by omega]
                    rfl
                  rw [hpf] at hgo1
                  refine AllocOb.mk fun b9 hb9 hbM9 => ?_
                  refine OtherOb.appendN TryzEOK rfl (by simp) (e := 27) rfl rfl rfl os hos rfl (m := 1) rfl (news := [oq.val]) (by decide) (blk_rd (b := b9) (cs := [oq.val]) (k := 0) (n := 1) (T := 27) (.head _) (by simp)) rfl (Mr := oq.blk 3 ++ [boolRow b8 s, (⟨b9, .cells #[oq.val] 27 (0, 0)⟩ : Blk)]) (perm6 _ _ _ _) (by simp only [maxLen]; omega) (by show (os.n + 1) * 24 ≤ _; omega) ?_
                  intro g' c' cur' q0 q1 q2 q3 q4
                  refine ArithOb.mk _ (next_wr (i := i) (by omega)) ?_
                  obtain ⟨I4, r, w1, w2, w3, w4, w5⟩ := OS.giveInts (e := 3) hoq (by omega) hoI [⟨g', .cells cur'.toArray 27 (0, 0)⟩, boolRow b8 s]
                  refine ⟨(i + 1, s, ⟨some g', os.n + 1, c', cur'⟩, ws ++ [r], I4), ⟨⟨by simp only; omega, hsl, ?_, fun b o h => w2 _ _ (hI3 _ _ h), fun r' hr' => ?_, by simp only [List.length_append, List.length_cons, List.length_nil]; omega, ?_⟩, by simp only; omega⟩, .perm (perm7 _ _ _ _) (.sub (List.sublist_append_right [(⟨b9, .cells #[oq.val] 27 (0, 0)⟩ : Blk)] _) w1), .cons .refl (.cons .refl (.cons .refl (.cons .refl (.cons .refl (.cons .refl .nil))))), .nil⟩
                  · simp only
                    rw [List.map_append, List.map_cons, List.map_nil, ← w3]
                    exact app1_ok hos q1 q2 q3 q4
                  · simp only [List.mem_append, List.mem_singleton] at hr'
                    rcases hr' with hr' | rfl
                    · exact (hws r' hr').mono w2
                    · exact w4
                  · simp only
                    rw [List.map_append, List.map_cons, List.map_nil, w5]
                    exact hgo1
          · have hge : x.n ≤ i := by simpa using h
            refine ⟨_, _, .sub (List.sublist_append_left _ _) .refl, fun b o h => hI3 _ _ (hI20 _ _ (hI2 _ _ (hI1 _ _ h))), os, ws, rfl, hos, hws, ?_, rfl⟩
            rw [hgo, show x.n - i = 0 from by omega]
            rfl
end Go.V

/-
  From a row's own words to the executor's: the tables that the row lists lie in the memory that stands; what a contract leaves alone.
-/
set_option linter.unusedVariables false
set_option linter.unusedSimpArgs false
namespace Go.V
open Go Go.Proofs

/-! ### What a contract gives to one who calls from without -/
def ghost (W : World) : GH := fun b => W.heap[b]?
theorem ghost_holds (W : World) : Holds (ghost W) [] W := ⟨fun b o h => h, (fun x hx => by cases hx), (fun x hx => by cases hx), List.nodup_nil⟩
structure OldKept (W W' : World) : Prop where
  old : ∀ b, b < W.heap.size → W'.heap[b]? = W.heap[b]?
  sz : W.heap.size ≤ W'.heap.size
  out : Same W W'
theorem calls_of_specE {P : Program} {f : Nat} {args : List Value} {W : World} {post : Value → GH → List Blk → Prop} (h : SpecE P f args (ghost W) [] post) :
    Calls P f args.toArray W fun e W' => ∃ v, e = .returned v ∧ (∃ I' M', post v I' M') ∧ OldKept W W' := by
  refine (h.2 W (ghost_holds W)).mono ?_
  rintro e W' ⟨v, I', M', rfl, hp, _, hK⟩
  exact ⟨v, rfl, ⟨I', M', hp⟩, fun b hb => hK.old b hb (fun y hy => by cases hy), hK.sz, hK.out⟩

theorem OldKept.kept {W W' : World} (h : OldKept W W') (may : MemPlace → Prop) : W.keptBut W' may := by
  refine ⟨h.out.1, h.out.2, fun i hi => ?_⟩
  rw [h.old i hi]
  cases W.heap[i]? with
  | none => rfl
  | some o => cases o <;> simp
theorem OldKept.frozen {W W' : World} (h : OldKept W W') {a : Addr} (ha : a.block < W.heap.size) : W'.frozen? a = W.frozen? a := by
  unfold World.frozen?
  rw [h.old _ ha]

variable {H : Type} {enc : TypeId × Value → H} {P : Program}
/-- The row's closing, where all that stood at the call stands. -/
theorem post_of_old {f : Func} {s : ChangeSpec} {apart fresh handsOn again : Bool} {W W' : World} {args : Array Value} {v : Value} {ds gs : List (DataW H)} {before pa pv : List MemPlace}
    (hW : DataW.Whole enc P f.params.toList s.vars apart W args.toList ds gs before)
    (hres : ∀ (b : Nat) (sp : Nat → Bool) (hd : Bool), DataW.TrodAll enc P W' b sp hd f.resultTypes.toList (v.resultList f.resultTypes.size) (s.fn H (ds ++ gs)).results [])
    (hargs : ∀ sp : Nat → Bool, (∀ p ∈ before, sp p.block = true) → DataW.TrodAll enc P W' 0 sp true f.params.toList args.toList (s.fn H (ds ++ gs)).args pa)
    (hvars : ∀ sp : Nat → Bool, (∀ p ∈ before, sp p.block = true) → DataW.TrodVars enc P W' sp s.vars (s.fn H (ds ++ gs)).vars pv)
    (hps : before = pa ++ pv) (hk : OldKept W W')
    (hok : ∀ (j : Nat) (t : TypeId) (r : Value), f.resultTypes[j]? = some t → (v.resultList f.resultTypes.size)[j]? = some r → Value.okWide P W' .any 0 t r) :
    s.post enc P f apart fresh handsOn again W args v W' := by
  have hold : ∀ p ∈ before, (fun b => decide (b < W.heap.size)) p.block = true := fun p hp => by simpa using hW.lt p hp
  have hlt : ∀ p ∈ before, p.block < W.heap.size := fun p hp => hW.lt p hp
  refine ⟨ds, gs, before, [], pa, pv, hW, hres _ _ _, hargs _ hold, hvars _ hold, World.keptBut_mono (fun p hp => ⟨hp, ?_⟩) (hk.kept (· ∈ before)), fun _ => ?_⟩
  · rw [hps, List.mem_append] at hp
    exact Or.inr hp
  · obtain ⟨_, _, _, _, _, hz, hn⟩ := hW
    refine ⟨hok, _, _, ([] ++ pa) ++ pv, ⟨[] ++ pa, pv, ChangeShapes.trodAll_append (hargs _ (fun _ _ => rfl)) (hres _ _ _), hvars _ (fun _ _ => rfl), rfl, ?_, ?_⟩, ?_⟩
    · intro b off hp
      have hp' : MemPlace.cell b off ∈ before := by rw [hps]; simpa using hp
      rw [hk.frozen (a := ⟨b, off, none⟩) (hlt _ hp')]
      exact hz b off hp'
    · intro ha
      have := hn ha
      rw [hps] at this
      simpa using this
    · intro p hp _
      rw [hps]
      simpa using hp

/-! ### Tables -/
def leafVal : DataW H → Option Value
  | .lit (.int k z) => some (.int k z)
  | .lit (.string l) => some (.string ⟨l.toArray⟩)
  | .lit (.bool b) => some (.bool b)
  | _ => none
def leafT (P : Program) (e : TypeId) : Bool := match P.underlying e with
  | some .bool | some (.int _) | some .string => true
  | _ => false
section
variable {w : World} {base : Nat} {sp : Nat → Bool} {held : Bool} {fuel : Nat} {t e : TypeId} {cs : List Value} {d : DataW H} {p : List MemPlace}
theorem leaf_inv (he : leafT P e = true) (h : DataW.trod enc P w base sp held fuel e cs = some (d, p)) {v : Value} (hv : leafVal d = some v) : cs = [v] := by
  unfold leafT at he
  split at he
  · rename_i hu
    obtain ⟨b, rfl, hx⟩ := DataW.trod_bool hu h
    cases hx
    simpa [leafVal] using hv
  · rename_i k hu
    obtain ⟨n, rfl, hx, _⟩ := DataW.trod_int hu h
    cases hx
    simpa [leafVal] using hv
  · rename_i hu
    obtain ⟨s, rfl, hx, _⟩ := DataW.trod_string hu h
    cases hx
    simpa [leafVal] using hv
  · cases he
theorem mapM_get {α β : Type} {f : α → Option β} : ∀ {l : List α} {r : List β}, l.mapM f = some r → r.length = l.length ∧ ∀ i (h : i < l.length) (h' : i < r.length), f l[i] = some r[i]
  | [], r, h => by
    simp at h
    subst h
    exact ⟨rfl, fun i h => by simp at h⟩
  | x :: l, r, h => by
    simp only [List.mapM_cons, Option.bind_eq_bind, Option.bind_eq_some_iff, Option.pure_def, Option.some.injEq] at h
    obtain ⟨b, hb, r', hr', rfl⟩ := h
    obtain ⟨h1, h2⟩ := mapM_get hr'
    refine ⟨by simp [h1], fun i hi hi' => ?_⟩
    cases i with
    | zero => simpa using hb
    | succ i => simpa using h2 i (by simpa using hi) (by simpa using hi')
theorem pieces_one {cs vs : List Value} (hl : cs.length = vs.length) (h : ∀ i (hi : i < vs.length), (cs.drop i).take 1 = [vs[i]]) : cs = vs := by
  apply List.ext_getElem hl
  intro i h1 h2
  have := h i h2
  rw [List.drop_eq_getElem_cons h1, List.take_succ_cons, List.take_zero] at this
  simpa using this
theorem leaves_array {n : Nat} (ht : P.underlying t = some (.array n e)) (he : leafT P e = true) (hce : P.cellsOf e = 1) (hct : P.cellsOf t = n) {ds : List (DataW H)} (h : DataW.trod enc P w base sp held fuel t cs = some (.agg ds, p)) {vs : List Value} (hv : ds.mapM leafVal = some vs) : cs = vs := by
  obtain ⟨xs, m, rfl, hx, hl, hxl, hi⟩ := DataW.trod_array ht h
  have hds : ds = xs.map (·.1) := by
    have := congrArg Prod.fst hx
    simpa using this
  obtain ⟨g1, g2⟩ := mapM_get hv
  have hvl : vs.length = n := by rw [g1, hds]; simpa using hxl
  refine pieces_one (by rw [hl, hct, hvl]) fun i hi' => ?_
  have h1 := hi i (by omega)
  rw [hce, Nat.mul_one] at h1
  have hxi : i < xs.length := by omega
  rw [List.getElem?_eq_getElem hxi] at h1
  have h2 := g2 i (by rw [hds]; simpa using hxi) hi'
  have h3 : ds[i]'(by rw [hds]; simpa using hxi) = xs[i].1 := by simp [hds]
  rw [h3] at h2
  exact leaf_inv he (d := xs[i].1) (p := xs[i].2) h1 h2
theorem leaves_struct {fs : Array Field} (ht : P.underlying t = some (.struct fs)) (hf : ∀ (i : Nat) (f : Field), fs[i]? = some f → leafT P f.type = true ∧ f.offset = i ∧ P.cellsOf f.type = 1) (hct : P.cellsOf t = fs.size) {ds : List (DataW H)} (h : DataW.trod enc P w base sp held fuel t cs = some (.agg ds, p)) {vs : List Value} (hv : ds.mapM leafVal = some vs) : cs = vs := by
  obtain ⟨xs, m, rfl, hx, hl, hxl, hi⟩ := DataW.trod_struct ht h
  have hds : ds = xs.map (·.1) := by
    have := congrArg Prod.fst hx
    simpa using this
  obtain ⟨g1, g2⟩ := mapM_get hv
  have hvl : vs.length = fs.size := by rw [g1, hds]; simpa using hxl
  refine pieces_one (by rw [hl, hct, hvl]) fun i hi' => ?_
  have hif : i < fs.size := by omega
  obtain ⟨k1, k2, k3⟩ := hf i fs[i] (Array.getElem?_eq_getElem hif)
  have h1 := hi i fs[i] (Array.getElem?_eq_getElem hif)
  rw [k2, k3] at h1
  have hxi : i < xs.length := by omega
  rw [List.getElem?_eq_getElem hxi] at h1
  have h2 := g2 i (by rw [hds]; simpa using hxi) hi'
  have h3 : ds[i]'(by rw [hds]; simpa using hxi) = xs[i].1 := by simp [hds]
  rw [h3] at h2
  exact leaf_inv k1 (d := xs[i].1) (p := xs[i].2) h1 h2
theorem pieces_flat {sz : Nat} : ∀ (rows : List (List Value)) (cs : List Value), cs.length = rows.length * sz → (∀ i (hi : i < rows.length), (cs.drop (i * sz)).take sz = rows[i]) → cs = rows.flatten
  | [], cs, hl, _ => List.eq_nil_of_length_eq_zero (by simpa using hl)
  | r :: rows, cs, hl, h => by
    have h0 := h 0 (by simp)
    simp only [Nat.zero_mul, List.drop_zero, List.getElem_cons_zero] at h0
    rw [List.length_cons, Nat.add_mul, Nat.one_mul] at hl
    have ih := pieces_flat (sz := sz) rows (cs.drop sz) (by rw [List.length_drop]; omega) fun i hi => by
      have := h (i + 1) (by simpa using hi)
      rw [List.drop_drop, show sz + i * sz = (i + 1) * sz from by rw [Nat.add_mul]; omega]
      simpa using this
    rw [List.flatten_cons, ← ih, ← h0, List.take_append_drop]
/-- An array of rows. -/
theorem rows_array {n sz : Nat} (ht : P.underlying t = some (.array n e)) (hce : P.cellsOf e = sz) (hct : P.cellsOf t = n * sz) {ds : List (DataW H)} (h : DataW.trod enc P w base sp held fuel t cs = some (.agg ds, p)) {rows : List (List Value)} (hr : rows.length = ds.length)
    (hin : ∀ i (hi : i < ds.length) (hi' : i < rows.length) fuel cs p, DataW.trod enc P w base sp held fuel e cs = some (ds[i], p) → cs = rows[i]) : cs = rows.flatten := by
  obtain ⟨xs, m, rfl, hx, hl, hxl, hi⟩ := DataW.trod_array ht h
  have hds : ds = xs.map (·.1) := by
    have := congrArg Prod.fst hx
    simpa using this
  have hrl : rows.length = n := by rw [hr, hds]; simpa using hxl
  refine pieces_flat (sz := sz) rows cs (by rw [hl, hct, hrl]) fun i hi' => ?_
  have h1 := hi i (by omega)
  rw [hce] at h1
  have hxi : i < xs.length := by omega
  rw [List.getElem?_eq_getElem hxi] at h1
  have h3 : ds[i]'(by rw [hds]; simpa using hxi) = xs[i].1 := by simp [hds]
  exact hin i (by rw [hds]; simpa using hxi) hi' m _ xs[i].2 (by rw [h3]; exact h1)
def rowVal (d : DataW H) : Option (List Value) := match d with
  | .agg l => l.mapM leafVal
  | _ => none
theorem rows_array2 {n sz : Nat} (ht : P.underlying t = some (.array n e)) (hce : P.cellsOf e = sz) (hct : P.cellsOf t = n * sz) {ds : List (DataW H)} (h : DataW.trod enc P w base sp held fuel t cs = some (.agg ds, p)) {rows : List (List Value)} (hr : ds.mapM rowVal = some rows)
    (hin : ∀ fuel cs p l row, DataW.trod enc P w base sp held fuel e cs = some (.agg l, p) → l.mapM leafVal = some row → cs = row) : cs = rows.flatten := by
  obtain ⟨g1, g2⟩ := mapM_get hr
  refine rows_array ht hce hct h g1 fun i hi hi' fuel cs p h' => ?_
  have h2 := g2 i hi hi'
  unfold rowVal at h2
  split at h2
  · rename_i l hl
    rw [hl] at h'
    exact hin _ _ _ _ _ h' h2
  · cases h2
end
end Go.V

/-
  The tables that this seat's rows list lie in the memory that stands.
-/
set_option linter.unusedVariables false
set_option linter.unusedSimpArgs false
namespace Go.V
open Go Go.Proofs

theorem var_block {P : Program} {W : World} {n : String} {g : Nat} {cs : Array Value} (hg : P.globalNamed n = some g) (h : W.var? P n = some cs) : ∃ T fr, W.heap[g]? = some (.cells cs T fr) := by
  simp only [World.var?, hg, Option.bind_some] at h
  split at h
  · rename_i c T fr hh
    cases h
    exact ⟨T, fr, hh⟩
  · cases h
def debL : List Int := [0, 1, 56, 2, 57, 49, 28, 3, 61, 58, 42, 50, 38, 29, 17, 4, 62, 47, 59, 36, 45, 43, 51, 22, 53, 39, 33, 30, 24, 18, 12, 5, 63, 55, 48, 27, 60, 41, 37, 16, 46, 35, 44, 21, 52, 32, 23, 11, 54, 26, 40, 15, 34, 20, 31, 10, 25, 14, 19, 9, 13, 8, 7, 6]

/-- From the list of a row, whatever stands at its end. -/
theorem tabs_of_laid {W : World} {rest : List (String × DataW Unit)} (h : laidMet Tryz.prog ([("math/bits.deBruijn32tab", YtcccmnppfmfkiaaGreatDoor.Rows.laid_math_bits_deBruijn32tab), ("math/bits.deBruijn64tab", YtcccmnppfmfkiaaGreatDoor.Rows.laid_math_bits_deBruijn64tab), ("internal/strconv.uint64pow10", YtcccmnppfmfkiaaGreatDoor.Rows.laid_internal_strconv_uint64pow10), ("bonsai/tree.counts", YtcccmnppfmfkiaaGreatDoor.Rows.laid_bonsai_tree_counts), ("bonsai/print.counts", YtcccmnppfmfkiaaGreatDoor.Rows.laid_bonsai_print_counts), ("bonsai/print.signs", YtcccmnppfmfkiaaGreatDoor.Rows.laid_bonsai_print_signs)] ++ rest) W) : Tabs (ghost W) debL := by
  obtain ⟨ps, hL, _⟩ := h
  obtain ⟨g1, t1, cs1, f1, p1, q1, hg1, ht1, hv1, hd1, hL, _⟩ := hL
  obtain ⟨g2, t2, cs2, f2, p2, q2, hg2, ht2, hv2, hd2, hL, _⟩ := hL
  obtain ⟨g3, t3, cs3, f3, p3, q3, hg3, ht3, hv3, hd3, hL, _⟩ := hL
  obtain ⟨g4, t4, cs4, f4, p4, q4, hg4, ht4, hv4, hd4, hL, _⟩ := hL
  obtain ⟨g5, t5, cs5, f5, p5, q5, hg5, ht5, hv5, hd5, hL, _⟩ := hL
  obtain ⟨g6, t6, cs6, f6, p6, q6, hg6, ht6, hv6, hd6, hL, _⟩ := hL
  obtain rfl := Option.some.inj ((show Tryz.prog.globalNamed "math/bits.deBruijn64tab" = some 3 by kernel_rfl).symm.trans hg2)
  obtain rfl := Option.some.inj ((show (Tryz.prog.globals[3]?).map (·.type) = some 167 by kernel_rfl).symm.trans ht2)
  obtain rfl := Option.some.inj ((show Tryz.prog.globalNamed "bonsai/tree.counts" = some 0 by kernel_rfl).symm.trans hg4)
  obtain rfl := Option.some.inj ((show (Tryz.prog.globals[0]?).map (·.type) = some 119 by kernel_rfl).symm.trans ht4)
  obtain rfl := Option.some.inj ((show Tryz.prog.globalNamed "bonsai/print.counts" = some 2 by kernel_rfl).symm.trans hg5)
  obtain rfl := Option.some.inj ((show (Tryz.prog.globals[2]?).map (·.type) = some 158 by kernel_rfl).symm.trans ht5)
  obtain rfl := Option.some.inj ((show Tryz.prog.globalNamed "bonsai/print.signs" = some 1 by kernel_rfl).symm.trans hg6)
  obtain rfl := Option.some.inj ((show (Tryz.prog.globals[1]?).map (·.type) = some 145 by kernel_rfl).symm.trans ht6)
  obtain ⟨T2, r2, b2⟩ := var_block hg2 hv2
  obtain ⟨T4, r4, b4⟩ := var_block hg4 hv4
  obtain ⟨T5, r5, b5⟩ := var_block hg5 hv5
  obtain ⟨T6, r6, b6⟩ := var_block hg6 hv6
  have c2 : cs2.toList = debL.map (Value.int .u8) := leaves_array (show Tryz.prog.underlying 167 = some (.array 64 5) by kernel_rfl) (by kernel_rfl) (by kernel_rfl) (by kernel_rfl) hd2 (by kernel_rfl)
  have c4 : cs4.toList = countsL.map (Value.int .i64) := rows_array2 (n := 10) (sz := 2) (show Tryz.prog.underlying 119 = some (.array 10 118) by kernel_rfl) (by kernel_rfl) (by kernel_rfl) hd4
    (rows := [[.int .i64 0, .int .i64 0], [.int .i64 0, .int .i64 0], [.int .i64 0, .int .i64 0], [.int .i64 0, .int .i64 0], [.int .i64 2, .int .i64 (-1)], [.int .i64 2, .int .i64 (-1)], [.int .i64 1, .int .i64 1], [.int .i64 1, .int .i64 1], [.int .i64 1, .int .i64 1], [.int .i64 1, .int .i64 1]]) (by kernel_rfl)
    (fun _ _ _ _ _ h1 h2 => leaves_array (show Tryz.prog.underlying 118 = some (.array 2 3) by kernel_rfl) (by kernel_rfl) (by kernel_rfl) (by kernel_rfl) h1 h2)
  have fields : ∀ {t : TypeId}, (match Tryz.prog.underlying t with
      | some (.struct fs) => decide (Tryz.prog.cellsOf t = fs.size) && (List.range fs.size).all fun i => match fs[i]? with
        | some f => leafT Tryz.prog f.type && (decide (f.offset = i) && decide (Tryz.prog.cellsOf f.type = 1))
        | none => false
      | _ => false) = true → ∀ (fuel : Nat) (cs : List Value) (p : List MemPlace) (l : List (DataW Unit)) (row : List Value), DataW.trod (fun _ => ()) Tryz.prog W 0 (fun _ => true) false fuel t cs = some (.agg l, p) → l.mapM leafVal = some row → cs = row := by
    intro t hc fuel cs p l row h1 h2
    split at hc
    · rename_i fs hu
      simp only [Bool.and_eq_true, decide_eq_true_eq, List.all_eq_true, List.mem_range] at hc
      refine leaves_struct hu (fun i f hf => ?_) hc.1 h1 h2
      have hi := hc.2 i (Array.getElem?_eq_some_iff.1 hf).1
      rw [hf] at hi
      simpa using hi
    · cases hc
  have c5 : cs5.toList = pcountsV := rows_array2 (n := 3) (sz := 3) (show Tryz.prog.underlying 158 = some (.array 3 157) by kernel_rfl) (by kernel_rfl) (by kernel_rfl) hd5
    (rows := [[.int .i64 0, .int .i64 1, .string ⟨#[63]⟩], [.int .i64 0, .int .i64 (-1), .string ⟨#[42]⟩], [.int .i64 1, .int .i64 (-1), .string ⟨#[43]⟩]]) (by kernel_rfl) (fields (by kernel_rfl))
  have c6 : cs6.toList = signsL.map fun l => Value.string (strOf l) := rows_array2 (n := 10) (sz := 3) (show Tryz.prog.underlying 145 = some (.array 10 144) by kernel_rfl) (by kernel_rfl) (by kernel_rfl) hd6
    (rows := [[.string ⟨#[]⟩, .string ⟨#[]⟩, .string ⟨#[]⟩], [.string ⟨#[]⟩, .string ⟨#[]⟩, .string ⟨#[]⟩], [.string ⟨#[]⟩, .string ⟨#[]⟩, .string ⟨#[]⟩], [.string ⟨#[]⟩, .string ⟨#[]⟩, .string ⟨#[]⟩], [.string ⟨#[]⟩, .string ⟨#[32]⟩, .string ⟨#[]⟩], [.string ⟨#[]⟩, .string ⟨#[32, 47, 32]⟩, .string ⟨#[]⟩], [.string ⟨#[]⟩, .string ⟨#[]⟩, .string ⟨#[]⟩], [.string ⟨#[38]⟩, .string ⟨#[]⟩, .string ⟨#[]⟩], [.string ⟨#[33]⟩, .string ⟨#[]⟩, .string ⟨#[]⟩], [.string ⟨#[60]⟩, .string ⟨#[]⟩, .string ⟨#[62]⟩]]) (by kernel_rfl) (fields (by kernel_rfl))
  have arr : ∀ {cs : Array Value} {l : List Value}, cs.toList = l → cs = l.toArray := fun h => by
    apply Array.ext'
    simpa using h
  refine ⟨⟨T4, r4, ?_⟩, ⟨T5, r5, ?_⟩, ⟨T6, r6, ?_⟩, by decide, by decide, T2, r2, ?_⟩
  · rw [← arr c4]; exact b4
  · rw [← arr c5]; exact b5
  · rw [← arr c6]; exact b6
  · rw [← arr c2]; exact b2
end Go.V

/-
  What all cards of this seat share: a world for the witness.
-/
set_option linter.unusedVariables false
set_option linter.unusedSimpArgs false
namespace Go.V
open Go Go.Proofs

def setC (cs : Array Value) : Obj → Obj
  | .cells _ t fr => .cells cs t fr
  | o => o
def pow10L : List Int := (List.range 20).map fun i => (10 : Int) ^ i
def deb32L : List Int := [0, 1, 28, 2, 29, 14, 24, 3, 30, 22, 20, 15, 25, 17, 4, 8, 31, 27, 13, 23, 21, 19, 16, 7, 26, 12, 18, 6, 11, 5, 10, 9]
/-- A world for the witness: the settled one, the tables laid. -/
noncomputable def laidWorld (os : Os) : World :=
  { World.holding Tryz.prog os ⟨#[], #[], []⟩ with heap := ((((((World.holding Tryz.prog os ⟨#[], #[], []⟩).heap.modify 0 (setC (countsL.map (Value.int .i64)).toArray)).modify 2 (setC pcountsV.toArray)).modify 1 (setC (signsL.map fun l => Value.string (strOf l)).toArray)).modify 3 (setC (debL.map (Value.int .u8)).toArray)).modify 5 (setC (pow10L.map (Value.int .u64)).toArray)).modify 6 (setC (deb32L.map (Value.int .u8)).toArray) }
theorem own : ownKnob Tryz.prog.godebug = none := by kernel_rfl
theorem laidOut : laidOutB Tryz.prog = true := by kernel_rfl
theorem all_mem {α : Type} {l : List α} {q : α → Bool} (h : l.all q = true) {x : α} (hx : x ∈ l) : q x = true := List.all_eq_true.1 h x hx
theorem tabs_ghost {W : World} {L : List (String × DataW Unit)} (hL : laidMetH Tryz.prog L W) (he : L = [("math/bits.deBruijn32tab", YtcccmnppfmfkiaaGreatDoor.Rows.laid_math_bits_deBruijn32tab), ("math/bits.deBruijn64tab", YtcccmnppfmfkiaaGreatDoor.Rows.laid_math_bits_deBruijn64tab), ("internal/strconv.uint64pow10", YtcccmnppfmfkiaaGreatDoor.Rows.laid_internal_strconv_uint64pow10), ("bonsai/tree.counts", YtcccmnppfmfkiaaGreatDoor.Rows.laid_bonsai_tree_counts), ("bonsai/print.counts", YtcccmnppfmfkiaaGreatDoor.Rows.laid_bonsai_print_counts), ("bonsai/print.signs", YtcccmnppfmfkiaaGreatDoor.Rows.laid_bonsai_print_signs)]) : Tabs (ghost W) debL := by
  subst he
  exact tabs_of_laid (rest := []) hL
end Go.V

/-
  Walks: bonsailaw12.has, long; grammars whose sizes may be great.
-/
set_option linter.unusedVariables false
set_option linter.unusedSimpArgs false
namespace Go.V
open Go Go.Proofs

/-! ### Weak: sizes may be great -/
structure NdW (I : GH) (d : Nd) : Prop where
  k : 0 ≤ d.k ∧ d.k < 256
  s0 : u64ok d.s0
  s1 : u64ok d.s1
  s2 : u64ok d.s2
  s3 : u64ok d.s3
  lo : i64ok d.lo
  hi : i64ok d.hi
  rs : RS I d.ka d.kn d.kc 1 0 (d.kids.map (.int .i64 ·))
  kids : ∀ x ∈ d.kids, i64ok x
  ts : d.t.size ≤ 9223372036854775807
structure TrW (I : GH) (t : Tr) : Prop where
  rs : RS I t.a t.n t.c 9 0 (t.ns.flatMap Nd.cells)
  ns : ∀ d ∈ t.ns, NdW I d
  root : i64ok t.root
structure DfW (I : GH) (d : Df) : Prop where
  name : d.name.size ≤ 9223372036854775807
  t : TrW I d.t
structure GrW (I : GH) (g : Gr) : Prop where
  rs : RS I g.a g.n g.c 3 0 (g.ds.flatMap Df.cells)
  ds : ∀ d ∈ g.ds, DfW I d
theorem RS.big {I : GH} {a : Option Addr} {n c size b b' : Nat} {vs : List Value} (h : RS I a n c size b vs) (hb : n * b' ≤ 140737488355328) : RS I a n c size b' vs := ⟨h.len, ⟨h.cap.1, hb⟩, h.rd⟩


/-! ### What a statement goes over -/
structure NdSmall (d : Nd) : Prop where
  kn : d.kn < 2500
structure DfSmall (d : Df) : Prop where
  name : d.name.size < 2500
  n : d.t.n < 2500
  ns : ∀ nd ∈ d.t.ns, NdSmall nd
structure GrSmall (g : Gr) : Prop where
  n : g.n < 2500
  ds : ∀ d ∈ g.ds, DfSmall d
theorem NdW.ok {I : GH} {d : Nd} (h : NdW I d) (hs : NdSmall d) : d.ok I :=
  ⟨h.k, h.s0, h.s1, h.s2, h.s3, h.ts, h.lo, h.hi, h.rs.big (by have := hs.kn; omega), h.kids⟩
theorem DfW.ok {I : GH} {d : Df} (h : DfW I d) (hs : DfSmall d) : d.ok I :=
  ⟨by have := hs.name; omega, ⟨h.t.rs.big (by have := hs.n; omega), fun nd hnd => (h.t.ns nd hnd).ok (hs.ns nd hnd), h.t.root⟩⟩
theorem GrW.ok {I : GH} {g : Gr} (h : GrW I g) (hs : GrSmall g) : g.ok I :=
  ⟨h.rs.big (by have := hs.n; omega), fun d hd => (h.ds d hd).ok (hs.ds d hd)⟩
theorem NdW.mono {I I' : GH} {d : Nd} (h : NdW I d) (hI : ∀ b o, I b = some o → I' b = some o) : NdW I' d := { h with rs := h.rs.mono hI }
theorem DfW.mono {I I' : GH} {d : Df} (h : DfW I d) (hI : ∀ b o, I b = some o → I' b = some o) : DfW I' d := ⟨h.name, h.t.rs.mono hI, fun nd hnd => (h.t.ns nd hnd).mono hI, h.t.root⟩
theorem GrW.mono {I I' : GH} {g : Gr} (h : GrW I g) (hI : ∀ b o, I b = some o → I' b = some o) : GrW I' g := ⟨h.rs.mono hI, fun d hd => (h.ds d hd).mono hI⟩
theorem GrW.n {I : GH} {g : Gr} (h : GrW I g) : g.ds.length = g.n := by
  have := h.rs.len
  rw [flat_len _ 3 Df.cells_len] at this
  omega
theorem TrW.n {I : GH} {t : Tr} (h : TrW I t) : t.ns.length = t.n := by
  have := h.rs.len
  rw [flat_len _ 9 Nd.cells_len] at this
  omega

/-- A sum that does not wrap. -/
theorem wr_eq {x r : Int} (h : x = r) (hr : -9223372036854775808 ≤ r ∧ r ≤ 9223372036854775807) : IntKind.i64.wrap x = r := by
  rw [h]
  exact wrap_i64 hr

theorem OS.rdI {I : GH} {M : List Blk} {os : OS} {l : List Int} {e : Nat} (h : os.ok 1 (l.map (.int .i64 ·))) (hM : ∀ x ∈ os.blk e, x ∈ M) {j : Nat} (hj : j < l.length) :
    ∃ ad, (os.a.map fun g => (⟨g, 0, none⟩ : Addr)) = some ad ∧ Rd I M (ad.add (j * 1)) 1 [.int .i64 l[j]] := by
  obtain ⟨a, n, c, cur⟩ := os
  have hl := h.len1
  simp only at hl
  cases a with
  | none => have := (h.nil rfl).1; simp only at this; omega
  | some g =>
    obtain ⟨h1, h2, h3, h4⟩ := h.cap g rfl
    simp only at h1 h2 h4
    refine ⟨⟨g, 0, none⟩, rfl, ?_⟩
    rw [addr_add _ rfl]
    refine ⟨rfl, _, _, _, .inr ⟨⟨g, .cells cur.toArray e (0, 0)⟩, hM _ (by simp [OS.blk]), rfl, rfl⟩, ?_, rfl⟩
    simp only [Nat.zero_add, Nat.mul_one]
    have hj' : j < (l.map (Value.int .i64)).length := by simpa using hj
    have e1 : (cur.take (n * 1))[j]? = some (.int .i64 l[j]) := by
      rw [h4]
      simp [hj]
    rw [List.getElem?_take] at e1
    have hjn : j < n * 1 := by omega
    rw [if_pos hjn] at e1
    have hjc : j < cur.length := (List.getElem?_eq_some_iff.1 e1).1
    rw [List.drop_eq_getElem_cons hjc, List.take_succ_cons, List.take_zero]
    rw [List.getElem?_eq_getElem hjc] at e1
    rw [Option.some.inj e1]

/-! ### long -/
structure LongIn (g : Gr) (x : Nat × Nat) : Prop where
  i : x.2 ≤ g.n
  n : x.1 ≤ 6000
  small : x.1 < 2500 → x.2 ≤ x.1 ∧ ∀ j (h : j < g.ds.length), j < x.2 → DfSmall g.ds[j]
structure LongIn2 (g : Gr) (d : Df) (i : Nat) (x : Nat × Nat) : Prop where
  k : x.2 ≤ d.t.n
  n : x.1 ≤ 6000
  small : x.1 < 2500 → i + 1 ≤ x.1 ∧ x.2 ≤ x.1 ∧ d.name.size < 2500 ∧ (∀ j (h : j < g.ds.length), j < i → DfSmall g.ds[j]) ∧ ∀ j (h : j < d.t.ns.length), j < x.2 → NdSmall d.t.ns[j]

set_option maxRecDepth 100000 in
set_option maxHeartbeats 2000000 in
theorem long_spec {I : GH} {g : Gr} (hg : GrW I g) : Spec Tryz.prog 5 [g.val] I [] fun v I' M' => (∃ r, v = .bool r ∧ (r = false → GrSmall g)) ∧ I' = I ∧ M' = [] := by
  refine spec_of_V [] TryzEOK Tryz.func5 rfl rfl rfl ?_
  intro B h0
  have hgn := hg.n
  refine LoopOb.inv (ι := Nat × Nat) (fun x => { fl := [(1, .ref 1 0), (3, .val (.int .i64 x.1)), (4, .val (.int .i64 x.2))], cl := [(1, [.slice g.a g.n g.c])], gi := I }) (LongIn g) (fun x => g.n - x.2) ?_ ?_
  · exact ⟨(0, 0), ⟨Nat.zero_le _, Nat.zero_le _, fun _ => ⟨Nat.le_refl _, fun j _ h => by simp at h⟩⟩, .refl, .cons .refl (.cons .refl (.cons .refl .nil)), .cons rfl .nil⟩
  · rintro ⟨n, i⟩ ⟨hi, hn, hsm⟩
    simp only at hi hn hsm
    have done : ∀ {c : Bool}, (n < 2500 → i = g.n) → c = decide ((2500 : Int) ≤ n) → (c = false → GrSmall g) := by
      intro c h1 h2 h3
      have hlt : n < 2500 := by
        rw [h2] at h3
        have := of_decide_eq_false h3
        omega
      obtain ⟨h4, h5⟩ := hsm hlt
      have := h1 hlt
      refine ⟨by omega, fun d hd => ?_⟩
      obtain ⟨j, hj, rfl⟩ := List.getElem_of_mem hd
      exact h5 j hj (by omega)
    refine GuardOb.mk (fun h => ?_) (fun h => ?_)
    · have hlt : i < g.n := by simpa using h
      refine CondOb.mk (fun h2 => ?_) (fun h2 => ?_)
      · have hn2 : n < 2500 := by have := of_decide_eq_true h2; omega
        obtain ⟨hin, hds⟩ := hsm hn2
        have hlt' : i < g.ds.length := by omega
        obtain ⟨ad, had, hrd⟩ := hg.rs.row Df.cells_len hlt hlt'
        have hd := hg.ds _ (List.getElem_mem hlt')
        have hdn := hd.t.n
        have hnm := hd.name
        have r1 : ∀ M, Rd I M ((ad.add (i * 3)).add 0) 1 [.string g.ds[i].name] := fun M => (hrd M).part (k := 0) (m := 1) (by decide)
        have r2 : ∀ M, Rd I M (((ad.add (i * 3)).add 1).add 0) 1 [.slice g.ds[i].t.a g.ds[i].t.n g.ds[i].t.c] := fun M => ((hrd M).part (k := 1) (m := 2) (by decide)).part (k := 0) (m := 1) (by decide)
        generalize hdd : g.ds[i] = d at hd hdn r1 r2 hnm
        refine ArithOb.mk ((n + 5 : Nat) : Int) (wr_eq (by omega) (by omega)) ?_
        refine IdxOb.mk ad i had rfl hlt ?_
        refine LoadOb.mk _ (r1 _) ?_
        refine ArithOb.mk ((n + 5 + min 2500 d.name.size : Nat) : Int) (wr_eq (by omega) (by omega)) ?_
        refine LoopOb.inv (ι := Nat × Nat) (fun x => { fl := [(1, .ref 1 0), (3, .val (.int .i64 x.1)), (4, .val (.int .i64 i)), (5, .val (.int .i64 x.2))], cl := [(1, [.slice g.a g.n g.c])], gi := I }) (LongIn2 g d i) (fun x => d.t.n - x.2) ?_ ?_
        · exact ⟨(n + 5 + min 2500 d.name.size, 0), ⟨Nat.zero_le _, by simp only; omega, fun h => ⟨by simp only at h ⊢; omega, Nat.zero_le _, by simp only at h; omega, hds, fun j _ h => by simp at h⟩⟩, .refl, .cons .refl (.cons .refl (.cons .refl (.cons .refl .nil))), .cons rfl .nil⟩
        · rintro ⟨m, k⟩ ⟨hk, hm, hsm2⟩
          simp only at hk hm hsm2
          have out : (m < 2500 → k = d.t.n) → LongIn g (m, i + 1) := fun h1 => by
            refine ⟨by simp only; omega, hm, fun h2 => ?_⟩
            obtain ⟨g1, g2, g3, g4, g5⟩ := hsm2 h2
            have g6 := h1 h2
            refine ⟨g1, fun j hj hj2 => ?_⟩
            by_cases e : j = i
            · subst e
              rw [hdd]
              refine ⟨g3, by simp only at h2; omega, fun nd hnd => ?_⟩
              obtain ⟨q, hq, rfl⟩ := List.getElem_of_mem hnd
              exact g5 q hq (by omega)
            · exact g4 j hj (by simp only at hj2; omega)
          refine IdxOb.mk ad i had rfl hlt ?_
          refine LoadOb.mk _ (r2 _) ?_
          refine GuardOb.mk (fun h3 => ?_) (fun h3 => ?_)
          · have hkl : k < d.t.n := by simpa using h3
            refine CondOb.mk (fun h4 => ?_) (fun h4 => ?_)
            · have hm2 : m < 2500 := by have := of_decide_eq_true h4; omega
              obtain ⟨g1, g2, g3, g4, g5⟩ := hsm2 hm2
              have hkl' : k < d.t.ns.length := by omega
              obtain ⟨bd, hbd, hrb⟩ := hd.t.rs.row Nd.cells_len hkl hkl'
              have hnd := hd.t.ns _ (List.getElem_mem hkl')
              have hts := hnd.ts
              have r3 : ∀ M, Rd I M ((bd.add (k * 9)).add 8) 1 [.slice d.t.ns[k].ka d.t.ns[k].kn d.t.ns[k].kc] := fun M => (hrb M).part (k := 8) (m := 1) (by decide)
              have r4 : ∀ M, Rd I M ((bd.add (k * 9)).add 5) 1 [.string d.t.ns[k].t] := fun M => (hrb M).part (k := 5) (m := 1) (by decide)
              generalize hxx : d.t.ns[k] = nd at hnd hts r3 r4
              refine CodeOb.draw TryzEOK rfl rfl rfl ?_
              refine ArithOb.mk ((m + 1 : Nat) : Int) (wr_eq (by omega) (by omega)) ?_
              refine IdxOb.mk ad i had rfl hlt ?_
              refine LoadOb.mk _ (r2 _) ?_
              refine IdxOb.mk bd k hbd rfl hkl ?_
              refine LoadOb.mk _ (r3 _) ?_
              refine ArithOb.mk ((m + 1 + min 2500 nd.kn : Nat) : Int) (wr_eq (by omega) (by omega)) ?_
              refine IdxOb.mk ad i had rfl hlt ?_
              refine LoadOb.mk _ (r2 _) ?_
              refine IdxOb.mk bd k hbd rfl hkl ?_
              refine LoadOb.mk _ (r4 _) ?_
              refine DivOb.mk (by decide) ?_
              refine ArithOb.mk ((min 2500 nd.t.size / 20 : Nat) : Int) (wr_eq (by rw [Int.tdiv_eq_ediv_of_nonneg (by omega)]; omega) (by omega)) ?_
              refine ArithOb.mk ((m + 1 + min 2500 nd.kn + min 2500 nd.t.size / 20 : Nat) : Int) (wr_eq (by omega) (by omega)) ?_
              refine ArithOb.mk _ (next_wr (i := k) (by omega)) ?_
              refine ⟨(_, k + 1), ⟨⟨by simp only; omega, by simp only; omega, fun h5 => ?_⟩, by simp only; omega⟩, .refl, .cons .refl (.cons .refl (.cons .refl (.cons .refl .nil))), .cons rfl .nil⟩
              simp only at h5 ⊢
              refine ⟨by omega, by omega, g3, g4, fun j hj hj2 => ?_⟩
              by_cases e : j = k
              · subst e
                rw [hxx]
                exact ⟨by omega⟩
              · exact g5 j hj (by omega)
            · have hm2 : 2500 ≤ m := by have := of_decide_eq_false h4; omega
              refine ArithOb.mk _ (next_wr (i := i) (by omega)) ?_
              exact ⟨(m, i + 1), ⟨out fun h => by omega, by simp only; omega⟩, .refl, .cons .refl (.cons .refl (.cons .refl .nil)), .cons rfl .nil⟩
          · have hkl : d.t.n ≤ k := by simpa using h3
            refine ArithOb.mk _ (next_wr (i := i) (by omega)) ?_
            exact ⟨(m, i + 1), ⟨out fun h => by omega, by simp only; omega⟩, .refl, .cons .refl (.cons .refl (.cons .refl .nil)), .cons rfl .nil⟩
      · have hn2 : 2500 ≤ n := by have := of_decide_eq_false h2; omega
        exact ⟨_, _, .refl, ⟨_, rfl, done (fun h => by omega) rfl⟩, rfl, rfl⟩
    · have hge : g.n ≤ i := by simpa using h
      exact ⟨_, _, .refl, ⟨_, rfl, done (fun h => by omega) rfl⟩, rfl, rfl⟩
end Go.V
