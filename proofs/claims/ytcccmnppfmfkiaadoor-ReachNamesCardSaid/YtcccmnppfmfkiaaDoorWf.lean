/-
  Walks: gram.May.
-/
import Derived.Test.YtcccmnppfmfkiaaDoorWe
import Derived.Test.YtcccmnppfmfkiaaDoorVm
set_option linter.unusedVariables false
set_option linter.unusedSimpArgs false
namespace Go.V
open Go Go.Proofs

def nodePairs : Nat → List Df → List (Nat × Nd)
  | _, [] => []
  | i, d :: ds => d.t.ns.map (fun n => (i, n)) ++ nodePairs (i + 1) ds
theorem nodeVals_eq : ∀ (ds : List Df) (i : Nat), nodeVals i ds = (nodePairs i ds).map fun p => [.int .i64 p.1, p.2.val]
  | [], i => rfl
  | d :: ds, i => by
    simp only [nodeVals, nodePairs, List.map_append, List.map_map, nodeVals_eq ds (i + 1)]
    rfl

def okDefs (ds : List Df) : Bool := ds.all fun d => mayName d.name && normal d.t
def dups : List (ByteArray × Int) → Nat → List Df → Option (List (ByteArray × Int))
  | acc, _, [] => some acc
  | acc, i, d :: ds => bif (lookM d.name acc).isSome then none else dups (acc ++ [(d.name, (i : Int))]) (i + 1) ds
def nodeOk (acc : List (ByteArray × Int)) (n : Nd) : Bool := !decide (n.k = 3) || (lookM n.t acc).isSome
def allNamed (acc : List (ByteArray × Int)) (ds : List Df) : Bool := (nodePairs 0 ds).all fun p => nodeOk acc p.2
def mayG (deb : List Int) (g : Gr) : Int :=
  bif decide ((g.n : Int) = 0) then 4 else bif !okDefs g.ds then 4 else bif largeG deb g then 40 else
  match dups [] 0 g.ds with
  | none => 6
  | some acc => bif allNamed acc g.ds then 0 else 41

def errB (b : Nat) (e : Int) : Blk := ⟨b, .cells #[.int .i64 e] 48 (0, 0)⟩
theorem errB_rd {I : GH} {M : List Blk} {b : Nat} {e : Int} (h : errB b e ∈ M) : Rd I M ⟨b, 0, none⟩ 1 [.int .i64 e] :=
  ⟨rfl, _, _, _, .inr ⟨_, h, rfl, rfl⟩, rfl, rfl⟩
theorem zero_int (w : World) : (zeroValue 3).run Tryd.prog w = .ok (.int .i64 0) w := by
  have h : (Tryd.prog.info? 3).map (fun i => i.zero) = some (some (.int .i64 0)) := by kernel_rfl
  obtain ⟨i, h1, h2⟩ := Option.map_eq_some_iff.1 h
  simp [zeroValue, typeInfo, h1, h2]

set_option maxHeartbeats 2000000 in
theorem May_spec {I : GH} {deb : List Int} (hT : Tabs I deb) {g : Gr} (hg : g.ok I) : Spec Tryd.prog 21 [g.val] I [] (fun v I' M' => v = .int .i64 (mayG deb g) ∧ (∀ b o, I b = some o → I' b = some o) ∧ M' = []) := by
  refine spec_of_V [2, 5] TrydEOK Tryd.func21 rfl rfl rfl ?_
  intro B h0
  have hgn := hg.n
  have hcap := hg.rs.cap
  refine AllocOb.mk fun b2 hb2 hbM2 => ?_
  refine CondOb.mk (fun h1 => ?_) (fun h1 => ?_)
  · refine StoreOb.mk [] [] _ _ rfl rfl (Nat.le_of_ble_eq_true rfl) rfl ?_
    refine LoadOb.mk _ (errB_rd (b := b2) (e := 4) (.head _)) ?_
    refine ⟨_, _, .sub (List.nil_sublist _) .refl, ?_, fun _ _ h => h, rfl⟩
    rw [mayG, h1]
    rfl
  · have hpos : g.n ≠ 0 := by simp at h1; omega
    refine LoopOb.inv (ι := Nat) (fun i => { fl := [(1, .ref 1 0), (2, .val (ptr b2)), (19, .val (.slice g.a g.n g.c)), (20, .val (.int .i64 g.n)), (21, .val (.int .i64 i))], cl := [(1, [.slice g.a g.n g.c])], gi := I, mi := [errB b2 0] })
      (fun i => i ≤ g.n ∧ okDefs (g.ds.take i) = true) (fun i => g.n - i) ?_ ?_
    · exact ⟨0, ⟨by simp, rfl⟩, .refl, .cons .refl (.cons .refl (.cons .refl (.cons .refl (.cons .refl .nil)))), .cons rfl .nil⟩
    · rintro i ⟨hi, hall⟩
      refine CondOb.mk (fun h => ?_) (fun h => ?_)
      · have hlt : i < g.n := by simpa using h
        have hlt' : i < g.ds.length := by omega
        obtain ⟨ad, had, hrd⟩ := hg.rs.row Df.cells_len hlt hlt'
        have hdm : g.ds[i] ∈ g.ds := List.getElem_mem hlt'
        have bad : (mayName g.ds[i].name && normal g.ds[i].t) = false → mayG deb g = 4 := fun hb => by
          have : okDefs g.ds = false := by
            unfold okDefs
            rw [List.all_eq_false]
            exact ⟨_, hdm, by simp [hb]⟩
          rw [mayG, h1, this]
          rfl
        refine IdxOb.mk ad i had rfl hlt ?_
        refine LoadOb.mk _ (hrd _) ?_
        refine CallOb.mk [] [errB b2 0] _ (.refl _) (NMay_spec _ g.ds[i].name) ?_
        rintro v I' M' - ⟨rfl, rfl, rfl⟩
        refine GuardOb.mk (fun h2 => ?_) (fun h2 => ?_)
        · have hm : mayName g.ds[i].name = true := by simpa using h2
          refine CallOb.mk [] [errB b2 0] _ (.refl _) (Normal_spec hT.c (hg.ds _ hdm).t) ?_
          rintro v I' M' - ⟨rfl, rfl, rfl⟩
          refine CondOb.mk (fun h3 => ?_) (fun h3 => ?_)
          · have hno : normal g.ds[i].t = false := by simpa using h3
            refine StoreOb.mk [] [] _ _ rfl rfl (Nat.le_of_ble_eq_true rfl) rfl ?_
            refine LoadOb.mk _ (errB_rd (b := b2) (e := 4) (.head _)) ?_
            refine ⟨_, _, .sub (List.nil_sublist _) .refl, ?_, fun _ _ h => h, rfl⟩
            rw [bad (by rw [hm, hno]; rfl)]
            rfl
          · have hno : normal g.ds[i].t = true := by simpa using h3
            refine ArithOb.mk _ (next_wr (i := i) (by omega)) ?_
            refine ⟨i + 1, ⟨⟨by omega, ?_⟩, by omega⟩, .refl, .cons .refl (.cons .refl (.cons .refl (.cons .refl (.cons .refl .nil)))), .cons rfl .nil⟩
            unfold okDefs at hall ⊢
            rw [List.take_succ_eq_append_getElem hlt', List.all_append, hall]
            simp [hm, hno]
        · have hm : mayName g.ds[i].name = false := by simpa using h2
          refine StoreOb.mk [] [] _ _ rfl rfl (Nat.le_of_ble_eq_true rfl) rfl ?_
          refine LoadOb.mk _ (errB_rd (b := b2) (e := 4) (.head _)) ?_
          refine ⟨_, _, .sub (List.nil_sublist _) .refl, ?_, fun _ _ h => h, rfl⟩
          rw [bad (by rw [hm]; rfl)]
          rfl
      · have hge : g.n ≤ i := by simpa using h
        rw [List.take_of_length_le (by omega)] at hall
        refine CallOb.mk [] [errB b2 0] _ (.refl _) (large_spec hT hg) ?_
        rintro v I1 M' - ⟨rfl, hI1, rfl⟩
        refine CondOb.mk (fun h2 => ?_) (fun h2 => ?_)
        · refine StoreOb.mk [] [] _ _ rfl rfl (Nat.le_of_ble_eq_true rfl) rfl ?_
          refine LoadOb.mk _ (errB_rd (b := b2) (e := 40) (.head _)) ?_
          refine ⟨_, _, .sub (List.nil_sublist _) .refl, ?_, hI1, rfl⟩
          rw [mayG, h1, hall, h2]
          rfl
        · have hmg : mayG deb g = match dups [] 0 g.ds with
              | none => 6
              | some acc => bif allNamed acc g.ds then 0 else 41 := by
            rw [mayG, h1, hall, h2]
            rfl
          rw [hmg]
          have hg1 := hg.mono hI1
          refine OtherOb.makeMap TrydEOK rfl (by simp) rfl rfl rfl fun bm => ?_
          refine AllocOb.mk fun b5 hb5 hbM5 => ?_
          refine StoreOb.mk [] [⟨bm, mapO []⟩, errB b2 0] _ _ rfl rfl (Nat.le_of_ble_eq_true rfl) rfl ?_
          refine LoopOb.inv (ι := Nat × List (ByteArray × Int)) (fun x => { fl := [(1, .ref 1 0), (2, .val (ptr b2)), (5, .val (ptr b5)), (43, .val (.slice g.a g.n g.c)), (44, .val (.int .i64 g.n)), (45, .val (.int .i64 x.1))], cl := [(1, [.slice g.a g.n g.c])], gi := I1, mi := [⟨b5, .cells #[.map (some bm)] 83 (0, 0)⟩, ⟨bm, mapO x.2⟩, errB b2 0] })
            (fun x => x.1 ≤ g.n ∧ dups [] 0 g.ds = dups x.2 x.1 (g.ds.drop x.1)) (fun x => g.n - x.1) ?_ ?_
          · exact ⟨(0, []), ⟨by simp, rfl⟩, .refl, .cons .refl (.cons .refl (.cons .refl (.cons .refl (.cons .refl (.cons .refl .nil))))), .cons rfl .nil⟩
          · rintro ⟨i, acc⟩ ⟨hi, hdu⟩
            simp only at hi hdu
            refine CondOb.mk (fun h => ?_) (fun h => ?_)
            · have hlt : i < g.n := by simpa using h
              have hlt' : i < g.ds.length := by omega
              obtain ⟨ad, had, hrd⟩ := hg1.rs.row Df.cells_len hlt hlt'
              have hdrop : g.ds.drop i = g.ds[i] :: g.ds.drop (i + 1) := List.drop_eq_getElem_cons hlt'
              refine IdxOb.mk ad i had rfl hlt ?_
              refine LoadOb.mk _ (hrd _) ?_
              refine LoadOb.mk [.map (some bm)] ⟨rfl, _, _, _, .inr ⟨_, .head _, rfl, rfl⟩, rfl, rfl⟩ ?_
              refine OtherOb.lookup TrydEOK rfl (by simp) rfl rfl rfl rfl (fun w => zero_int w) (l := acc) (g := bm) rfl rfl (by simp) ?_
              refine CondOb.mk (fun h3 => ?_) (fun h3 => ?_)
              · refine StoreOb.mk [⟨b5, .cells #[.map (some bm)] 83 (0, 0)⟩, ⟨bm, mapO acc⟩] [] _ _ rfl rfl (Nat.le_of_ble_eq_true rfl) rfl ?_
                refine LoadOb.mk _ (errB_rd (b := b2) (e := 6) (.tail _ (.tail _ (.head _)))) ?_
                refine ⟨_, _, .sub (List.nil_sublist _) .refl, ?_, hI1, rfl⟩
                rw [hdu, hdrop, dups, h3]
                rfl
              · have hl : lookM g.ds[i].name acc = none := by simpa using h3
                refine LoadOb.mk [.map (some bm)] ⟨rfl, _, _, _, .inr ⟨_, .head _, rfl, rfl⟩, rfl, rfl⟩ ?_
                refine OtherOb.mapNew TrydEOK rfl rfl rfl rfl rfl rfl rfl rfl rfl hl (Mr := [⟨b5, .cells #[.map (some bm)] 83 (0, 0)⟩, errB b2 0]) (List.Perm.swap _ _ _) ?_
                refine ArithOb.mk _ (next_wr (i := i) (by omega)) ?_
                refine ⟨(i + 1, acc ++ [(g.ds[i].name, (i : Int))]), ⟨⟨by simp only; omega, ?_⟩, by simp only; omega⟩, .perm (List.Perm.swap _ _ _) .refl, .cons .refl (.cons .refl (.cons .refl (.cons .refl (.cons .refl (.cons .refl .nil))))), .cons rfl .nil⟩
                simp only
                rw [hdu, hdrop, dups, h3]
                rfl
            · have hge2 : g.n ≤ i := by simpa using h
              have hdd : dups [] 0 g.ds = some acc := by
                rw [hdu, List.drop_eq_nil_of_le (by omega), dups]
              rw [hdd]
              refine CallOb.mk [] [⟨b5, .cells #[.map (some bm)] 83 (0, 0)⟩, ⟨bm, mapO acc⟩, errB b2 0] _ (.refl _) (nodes_spec g) ?_
              rintro v I2 M2 - ⟨gb, rfl, hgb, hI2, rfl⟩
              have hg2 := hg1.mono hI2
              have hI02 : ∀ b o, I b = some o → I2 b = some o := fun b o h => hI2 _ _ (hI1 _ _ h)
              refine CodeOb.range TrydEOK rfl rfl rfl .refl (nodes1_iter hg2 hgb) (fun vs h => ?_)
                (fun k I' M' => (∀ b o, I2 b = some o → I' b = some o) ∧ ((nodePairs 0 g.ds).take k).all (fun p => nodeOk acc p.2) = true ∧ M' = [⟨b5, .cells #[.map (some bm)] 83 (0, 0)⟩, ⟨bm, mapO acc⟩, errB b2 0])
                (fun ex I' M' => ex = .ret ∧ (∀ b o, I2 b = some o → I' b = some o) ∧ allNamed acc g.ds = false ∧ M' = [⟨b5, .cells #[.map (some bm)] 83 (0, 0)⟩, ⟨bm, mapO acc⟩, errB b2 41]) ⟨fun _ _ h => h, rfl, rfl⟩ ?_ ?_ ?_
              · rw [nodeVals_eq] at h
                obtain ⟨p, _, rfl⟩ := List.mem_map.1 h
                rfl
              · rintro k hk I' M' - ⟨hI', hok, rfl⟩ l B h0 h0'
                have hkp : k < (nodePairs 0 g.ds).length := by simpa [nodeVals_eq] using hk
                generalize hp : (nodePairs 0 g.ds)[k] = p
                have hv : (nodeVals 0 g.ds)[k] = [.int .i64 p.1, p.2.val] := by
                  simp only [nodeVals_eq, List.getElem_map, hp]
                rw [hv]
                have next : nodeOk acc p.2 = true → ((nodePairs 0 g.ds).take (k + 1)).all (fun p => nodeOk acc p.2) = true := fun h => by
                  rw [List.take_succ_eq_append_getElem hkp, List.all_append, hok, hp]
                  simp [h]
                refine CondOb.mk (fun h3 => ?_) (fun h3 => ?_)
                · refine ⟨_, _, .refl, hI', next ?_, rfl⟩
                  have h3' : decide (p.2.k = 3) = false := by simpa using h3
                  simp [nodeOk, h3']
                · have h3' : decide (p.2.k = 3) = true := by simpa using h3
                  refine LoadOb.mk [.map (some bm)] ⟨rfl, _, _, _, .inr ⟨_, .head _, rfl, rfl⟩, rfl, rfl⟩ ?_
                  refine OtherOb.lookup TrydEOK rfl (by simp) rfl rfl rfl rfl (fun w => zero_int w) (l := acc) (g := bm) rfl rfl (by simp) ?_
                  refine CondOb.mk (fun h4 => ?_) (fun h4 => ?_)
                  · refine StoreOb.mk [⟨b5, .cells #[.map (some bm)] 83 (0, 0)⟩, ⟨bm, mapO acc⟩] [] _ _ rfl rfl (Nat.le_of_ble_eq_true rfl) rfl ?_
                    refine ⟨_, _, .refl, rfl, hI', ?_, rfl⟩
                    unfold allNamed
                    rw [List.all_eq_false]
                    have h4' : (lookM p.2.t acc).isSome = false := by simpa using h4
                    exact ⟨p, by rw [← hp]; exact List.getElem_mem hkp, by simp [nodeOk, h3', h4']⟩
                  · have h4' : (lookM p.2.t acc).isSome = true := by simpa using h4
                    exact ⟨_, _, .refl, hI', next (by simp [nodeOk, h4']), rfl⟩
              · rintro I' M' - ⟨hI', hok, rfl⟩
                have hall2 : allNamed acc g.ds = true := by
                  unfold allNamed
                  rw [List.take_of_length_le (by simp [nodeVals_eq])] at hok
                  exact hok
                refine StoreOb.mk [⟨b5, .cells #[.map (some bm)] 83 (0, 0)⟩, ⟨bm, mapO acc⟩] [] _ _ rfl rfl (Nat.le_of_ble_eq_true rfl) rfl ?_
                refine LoadOb.mk _ (errB_rd (b := b2) (e := 0) (.tail _ (.tail _ (.head _)))) ?_
                refine ⟨_, _, .sub (List.nil_sublist _) .refl, ?_, fun b o h => hI' _ _ (hI02 _ _ h), rfl⟩
                simp only [hall2]
                rfl
              · rintro ex I' M' - ⟨rfl, hI', hall2, rfl⟩
                refine ⟨by simp, ?_⟩
                refine LoadOb.mk _ (errB_rd (b := b2) (e := 41) (.tail _ (.tail _ (.head _)))) ?_
                refine ⟨_, _, .sub (List.nil_sublist _) .refl, ?_, fun b o h => hI' _ _ (hI02 _ _ h), rfl⟩
                simp only [hall2]
                rfl
end Go.V
