/-
  Walks: expr.Normal, gram.Nodes, gram.large, gram.Find, gram.nodes, reach.named.
-/
import Derived.Test.YtcccmnppfmfkiaaDoorWc
set_option linter.unusedVariables false
set_option linter.unusedSimpArgs false
namespace Go.V
open Go Go.Proofs

def normKids (ns : List Nd) (kind : Int) : List Int → Bool
  | [] => true
  | k :: ks => bif decide (kindAt ns k = kind) || (decide (kindAt ns k = 0) && decide (kind = 4)) then false else normKids ns kind ks
def normNodes (ns : List Nd) : List Nd → Bool
  | [] => true
  | d :: ds => bif !decide (d.k = 4) && !decide (d.k = 5) then normNodes ns ds else bif normKids ns d.k d.kids then normNodes ns ds else false
def normal (t : Tr) : Bool := right t && normNodes t.ns t.ns

theorem next_wr {i : Nat} (h : i ≤ 140737488355328) : IntKind.i64.wrap ((i : Int) + 1) = ((i + 1 : Nat) : Int) := by
  rw [wrap_i64 ⟨by omega, by omega⟩]
  omega

set_option maxHeartbeats 1000000 in
theorem Normal_spec {I : GH} (hc : HasCounts I) {t : Tr} (ht : t.ok I) : Spec Tryd.prog 44 [t.val] I [] (fun v I' M' => v = .bool (normal t) ∧ I' = I ∧ M' = []) := by
  refine spec_of_V [] TrydEOK Tryd.func44 rfl rfl rfl ?_
  intro B h0
  have hn := ht.n
  have hcap := ht.rs.cap
  refine CallOb.mk [] [] _ (.refl _) (Right_spec hc ht) ?_
  rintro v I' M' - ⟨rfl, rfl, rfl⟩
  refine CondOb.mk (fun h => ?_) (fun h => ?_)
  · refine ⟨_, _, .refl, ?_, rfl, rfl⟩
    simp [normal, show right t = false by simpa using h]
  · have hr : right t = true := by simpa using h
    have hno : normal t = normNodes t.ns t.ns := by simp [normal, hr]
    rw [hno]
    refine LoopOb.inv (ι := Nat) (fun i => { fl := [(1, .ref 1 0), (12, .val (.slice t.a t.n t.c)), (13, .val (.int .i64 t.n)), (14, .val (.int .i64 i))], cl := [(1, t.cells)], gi := I' })
      (fun i => i ≤ t.n ∧ normNodes t.ns t.ns = normNodes t.ns (t.ns.drop i)) (fun i => t.n - i) ?_ ?_
    · exact ⟨0, ⟨by simp, rfl⟩, .refl, .cons .refl (.cons .refl (.cons .refl (.cons .refl .nil))), .cons rfl .nil⟩
    · rintro i ⟨hi, hin⟩
      refine CondOb.mk (fun h => ?_) (fun h => ?_)
      · have hlt : i < t.n := by simpa using h
        have hlt' : i < t.ns.length := by omega
        obtain ⟨ad, had, hrd⟩ := ht.rs.row Nd.cells_len hlt hlt'
        have hdk := ht.ns t.ns[i] (List.getElem_mem hlt')
        have hkn := hdk.kn
        have hdrop : t.ns.drop i = t.ns[i] :: t.ns.drop (i + 1) := List.drop_eq_getElem_cons hlt'
        refine IdxOb.mk ad i had rfl hlt ?_
        refine LoadOb.mk _ (hrd _) ?_
        refine GuardOb.mk (fun k1 => ?_) (fun k1 => ?_)
        · refine CondOb.mk (fun k2 => ?_) (fun k2 => ?_)
          · refine ArithOb.mk _ (next_wr (i := i) (by omega)) ?_
            refine ⟨i + 1, ⟨⟨by omega, ?_⟩, by omega⟩, .refl, .cons .refl (.cons .refl (.cons .refl (.cons .refl .nil))), .cons rfl .nil⟩
            rw [hin, hdrop, normNodes, k1, k2]
            rfl
          · have hstep : normNodes t.ns t.ns = bif normKids t.ns t.ns[i].k t.ns[i].kids then normNodes t.ns (t.ns.drop (i + 1)) else false := by
              rw [hin, hdrop, normNodes, k1, k2]
              rfl
            refine LoopOb.inv (ι := Nat)
              (fun j => { fl := [(1, .ref 1 0), (4, .ref 4 0), (12, .val (.slice t.a t.n t.c)), (13, .val (.int .i64 t.n)), (14, .val (.int .i64 i)), (27, .val (.slice t.ns[i].ka t.ns[i].kn t.ns[i].kc)), (28, .val (.int .i64 t.ns[i].kn)), (29, .val (.int .i64 j))], cl := [(1, t.cells), (4, t.ns[i].cells)], gi := I' })
              (fun j => j ≤ t.ns[i].kn ∧ normKids t.ns t.ns[i].k t.ns[i].kids = normKids t.ns t.ns[i].k (t.ns[i].kids.drop j)) (fun j => t.ns[i].kn - j) ?_ ?_
            · exact ⟨0, ⟨by simp, rfl⟩, .refl, .cons .refl (.cons .refl (.cons .refl (.cons .refl (.cons .refl (.cons .refl (.cons .refl (.cons .refl .nil))))))), .cons rfl (.cons rfl .nil)⟩
            · rintro j ⟨hj, hjn⟩
              refine CondOb.mk (fun h => ?_) (fun h => ?_)
              · have hjl : j < t.ns[i].kn := by simpa using h
                have hjl' : j < t.ns[i].kids.length := by omega
                obtain ⟨ak, hak, hrk⟩ := hdk.rs.one hjl hjl'
                have hkd : t.ns[i].kids.drop j = t.ns[i].kids[j] :: t.ns[i].kids.drop (j + 1) := List.drop_eq_getElem_cons hjl'
                have hkk := right_kids hr i hlt' _ (List.getElem_mem hjl')
                generalize hkv : t.ns[i].kids[j] = kv at *
                obtain ⟨q, rfl⟩ := Int.eq_ofNat_of_zero_le hkk.1
                have hql : q < t.ns.length := by omega
                have hql' : q < t.n := by omega
                obtain ⟨aq, haq, hrq0⟩ := ht.rs.row Nd.cells_len hql' hql
                have hrq : ∀ M, Rd I' M ((aq.add (q * 9)).add 0) 1 [.int .u8 t.ns[q].k] := fun M => (hrq0 M).part (k := 0) (m := 1) (by decide)
                have hkat : kindAt t.ns ((q : Nat) : Int) = t.ns[q].k := by simp [kindAt, List.getD_eq_getElem?_getD, hql]
                have bad : (decide (t.ns[q].k = t.ns[i].k) || (decide (t.ns[q].k = 0) && decide (t.ns[i].k = 4))) = true → normNodes t.ns t.ns = false := fun hb => by
                  rw [hstep, hjn, hkd, normKids, hkat, hb]
                  rfl
                have good : (decide (t.ns[q].k = t.ns[i].k) || (decide (t.ns[q].k = 0) && decide (t.ns[i].k = 4))) = false → normKids t.ns t.ns[i].k t.ns[i].kids = normKids t.ns t.ns[i].k (t.ns[i].kids.drop (j + 1)) := fun hb => by
                  rw [hjn, hkd, normKids, hkat, hb]
                  rfl
                have hwr := next_wr (i := j) (by have := hdk.rs.cap; omega)
                refine IdxOb.mk ak j hak rfl hjl ?_
                refine LoadOb.mk _ (hrk _) ?_
                refine IdxOb.mk aq q haq rfl hql' ?_
                refine LoadOb.mk _ (hrq _) ?_
                refine GuardOb.mk (fun c1 => ?_) (fun c1 => ?_)
                · refine GuardOb.mk (fun c2 => ?_) (fun c2 => ?_)
                  · refine CondOb.mk (fun c3 => ?_) (fun c3 => ?_)
                    · refine ⟨_, _, .refl, ?_, rfl, rfl⟩
                      rw [bad (by rw [c1, c2, c3]; rfl)]
                    · refine ArithOb.mk _ hwr ?_
                      exact ⟨j + 1, ⟨⟨by omega, good (by rw [c1, c2, c3]; rfl)⟩, by omega⟩, .refl, .cons .refl (.cons .refl (.cons .refl (.cons .refl (.cons .refl (.cons .refl (.cons .refl (.cons .refl .nil))))))), .cons rfl (.cons rfl .nil)⟩
                  · refine ArithOb.mk _ hwr ?_
                    exact ⟨j + 1, ⟨⟨by omega, good (by rw [c1, c2]; rfl)⟩, by omega⟩, .refl, .cons .refl (.cons .refl (.cons .refl (.cons .refl (.cons .refl (.cons .refl (.cons .refl (.cons .refl .nil))))))), .cons rfl (.cons rfl .nil)⟩
                · refine ⟨_, _, .refl, ?_, rfl, rfl⟩
                  rw [bad (by rw [c1]; rfl)]
              · have hje : t.ns[i].kids.drop j = [] := List.drop_eq_nil_of_le (by simp at h; omega)
                refine ArithOb.mk _ (next_wr (i := i) (by omega)) ?_
                refine ⟨i + 1, ⟨⟨by omega, ?_⟩, by omega⟩, .refl, .cons .refl (.cons .refl (.cons .refl (.cons .refl .nil))), .cons rfl .nil⟩
                rw [hstep, hjn, hje]
                rfl
        · have hstep : normNodes t.ns t.ns = bif normKids t.ns t.ns[i].k t.ns[i].kids then normNodes t.ns (t.ns.drop (i + 1)) else false := by
            rw [hin, hdrop, normNodes, k1]
            rfl
          refine LoopOb.inv (ι := Nat)
            (fun j => { fl := [(1, .ref 1 0), (4, .ref 4 0), (12, .val (.slice t.a t.n t.c)), (13, .val (.int .i64 t.n)), (14, .val (.int .i64 i)), (27, .val (.slice t.ns[i].ka t.ns[i].kn t.ns[i].kc)), (28, .val (.int .i64 t.ns[i].kn)), (29, .val (.int .i64 j))], cl := [(1, t.cells), (4, t.ns[i].cells)], gi := I' })
            (fun j => j ≤ t.ns[i].kn ∧ normKids t.ns t.ns[i].k t.ns[i].kids = normKids t.ns t.ns[i].k (t.ns[i].kids.drop j)) (fun j => t.ns[i].kn - j) ?_ ?_
          · exact ⟨0, ⟨by simp, rfl⟩, .refl, .cons .refl (.cons .refl (.cons .refl (.cons .refl (.cons .refl (.cons .refl (.cons .refl (.cons .refl .nil))))))), .cons rfl (.cons rfl .nil)⟩
          · rintro j ⟨hj, hjn⟩
            refine CondOb.mk (fun h => ?_) (fun h => ?_)
            · have hjl : j < t.ns[i].kn := by simpa using h
              have hjl' : j < t.ns[i].kids.length := by omega
              obtain ⟨ak, hak, hrk⟩ := hdk.rs.one hjl hjl'
              have hkd : t.ns[i].kids.drop j = t.ns[i].kids[j] :: t.ns[i].kids.drop (j + 1) := List.drop_eq_getElem_cons hjl'
              have hkk := right_kids hr i hlt' _ (List.getElem_mem hjl')
              generalize hkv : t.ns[i].kids[j] = kv at *
              obtain ⟨q, rfl⟩ := Int.eq_ofNat_of_zero_le hkk.1
              have hql : q < t.ns.length := by omega
              have hql' : q < t.n := by omega
              obtain ⟨aq, haq, hrq0⟩ := ht.rs.row Nd.cells_len hql' hql
              have hrq : ∀ M, Rd I' M ((aq.add (q * 9)).add 0) 1 [.int .u8 t.ns[q].k] := fun M => (hrq0 M).part (k := 0) (m := 1) (by decide)
              have hkat : kindAt t.ns ((q : Nat) : Int) = t.ns[q].k := by simp [kindAt, List.getD_eq_getElem?_getD, hql]
              have bad : (decide (t.ns[q].k = t.ns[i].k) || (decide (t.ns[q].k = 0) && decide (t.ns[i].k = 4))) = true → normNodes t.ns t.ns = false := fun hb => by
                rw [hstep, hjn, hkd, normKids, hkat, hb]
                rfl
              have good : (decide (t.ns[q].k = t.ns[i].k) || (decide (t.ns[q].k = 0) && decide (t.ns[i].k = 4))) = false → normKids t.ns t.ns[i].k t.ns[i].kids = normKids t.ns t.ns[i].k (t.ns[i].kids.drop (j + 1)) := fun hb => by
                rw [hjn, hkd, normKids, hkat, hb]
                rfl
              have hwr := next_wr (i := j) (by have := hdk.rs.cap; omega)
              refine IdxOb.mk ak j hak rfl hjl ?_
              refine LoadOb.mk _ (hrk _) ?_
              refine IdxOb.mk aq q haq rfl hql' ?_
              refine LoadOb.mk _ (hrq _) ?_
              refine GuardOb.mk (fun c1 => ?_) (fun c1 => ?_)
              · refine GuardOb.mk (fun c2 => ?_) (fun c2 => ?_)
                · refine CondOb.mk (fun c3 => ?_) (fun c3 => ?_)
                  · refine ⟨_, _, .refl, ?_, rfl, rfl⟩
                    rw [bad (by rw [c1, c2, c3]; rfl)]
                  · refine ArithOb.mk _ hwr ?_
                    exact ⟨j + 1, ⟨⟨by omega, good (by rw [c1, c2, c3]; rfl)⟩, by omega⟩, .refl, .cons .refl (.cons .refl (.cons .refl (.cons .refl (.cons .refl (.cons .refl (.cons .refl (.cons .refl .nil))))))), .cons rfl (.cons rfl .nil)⟩
                · refine ArithOb.mk _ hwr ?_
                  exact ⟨j + 1, ⟨⟨by omega, good (by rw [c1, c2]; rfl)⟩, by omega⟩, .refl, .cons .refl (.cons .refl (.cons .refl (.cons .refl (.cons .refl (.cons .refl (.cons .refl (.cons .refl .nil))))))), .cons rfl (.cons rfl .nil)⟩
              · refine ⟨_, _, .refl, ?_, rfl, rfl⟩
                rw [bad (by rw [c1]; rfl)]
            · have hje : t.ns[i].kids.drop j = [] := List.drop_eq_nil_of_le (by simp at h; omega)
              refine ArithOb.mk _ (next_wr (i := i) (by omega)) ?_
              refine ⟨i + 1, ⟨⟨by omega, ?_⟩, by omega⟩, .refl, .cons .refl (.cons .refl (.cons .refl (.cons .refl .nil))), .cons rfl .nil⟩
              rw [hstep, hjn, hje]
              rfl
      · have hge : t.n ≤ i := by simpa using h
        have hdn : t.ns.drop i = [] := List.drop_eq_nil_of_le (by omega)
        refine ⟨_, _, .refl, ?_, rfl, rfl⟩
        rw [hin, hdn]
        rfl

/-! ### gram.Nodes, large -/
def sizeT (t : Tr) : Nat := bif right t then t.n else 0
def nodesG (g : Gr) : Nat := (g.ds.map fun d => sizeT d.t).sum
theorem sum_take_le {α : Type} (f : α → Nat) (m : Nat) : ∀ (l : List α), (∀ x ∈ l, f x ≤ m) → (l.map f).sum ≤ m * l.length
  | [], _ => by simp
  | x :: l, h => by
    have h1 := h x (by simp)
    have h2 := sum_take_le f m l fun y hy => h y (by simp [hy])
    simp only [List.map_cons, List.sum_cons, List.length_cons, Nat.mul_add]
    omega
theorem GNodes_spec {I : GH} (hc : HasCounts I) {g : Gr} (hg : g.ok I) (hn : g.n ≤ 64) (ht : ∀ d ∈ g.ds, d.t.n ≤ 1024) : Spec Tryd.prog 59 [g.val] I [] (fun v I' M' => v = .int .i64 (nodesG g : Nat) ∧ I' = I ∧ M' = []) := by
  refine spec_of_V [] TrydEOK Tryd.func59 rfl rfl rfl ?_
  intro B h0
  have hgn := hg.n
  refine LoopOb.inv (ι := Nat) (fun i => { fl := [(3, .val (.int .i64 (((g.ds.take i).map fun d => sizeT d.t).sum : Nat))), (7, .val (.slice g.a g.n g.c)), (8, .val (.int .i64 g.n)), (9, .val (.int .i64 i))], gi := I })
    (fun i => i ≤ g.n) (fun i => g.n - i) ?_ ?_
  · exact ⟨0, by simp, .refl, .cons .refl (.cons .refl (.cons .refl (.cons .refl .nil))), .nil⟩
  · intro i hi
    refine CondOb.mk (fun h => ?_) (fun h => ?_)
    · have hlt : i < g.n := by simpa using h
      have hlt' : i < g.ds.length := by omega
      obtain ⟨ad, had, hrd⟩ := hg.rs.row Df.cells_len hlt hlt'
      have hdm : g.ds[i] ∈ g.ds := List.getElem_mem hlt'
      have hs : ((g.ds.take i).map fun d => sizeT d.t).sum ≤ 1024 * (g.ds.take i).length := sum_take_le _ 1024 _ fun d hd => by
        have := ht d (List.mem_of_mem_take hd)
        unfold sizeT
        cases right d.t <;> simp
        omega
      have hl := List.length_take_le i g.ds
      have hs1 : sizeT g.ds[i].t ≤ 1024 := by
        have := ht _ hdm
        unfold sizeT
        cases right g.ds[i].t <;> simp
        omega
      refine IdxOb.mk ad i had rfl hlt ?_
      refine LoadOb.mk _ (hrd _) ?_
      refine CallOb.mk [] [] _ (.refl _) (Size_spec hc (hg.ds _ hdm).t) ?_
      rintro v I' M' - ⟨rfl, rfl, rfl⟩
      have e1 : (bif right g.ds[i].t then (g.ds[i].t.n : Int) else 0) = (sizeT g.ds[i].t : Nat) := by
        unfold sizeT
        cases right g.ds[i].t <;> rfl
      rw [e1]
      refine ArithOb.mk ((((g.ds.take (i + 1)).map fun d => sizeT d.t).sum : Nat) : Int) ?_ ?_
      · rw [wrap_i64 ⟨by omega, by omega⟩, List.take_succ_eq_append_getElem hlt', List.map_append, List.sum_append]
        simp
      refine ArithOb.mk _ (next_wr (i := i) (by omega)) ?_
      exact ⟨i + 1, ⟨by omega, by omega⟩, .refl, .cons .refl (.cons .refl (.cons .refl (.cons .refl .nil))), .nil⟩
    · have hge : g.n ≤ i := by simpa using h
      refine ⟨_, _, .refl, ?_, rfl, rfl⟩
      rw [List.take_of_length_le (by omega)]
      rfl

def largeG (deb : List Int) (g : Gr) : Bool :=
  decide (64 < g.n) || ((!g.ds.all fun d => mayTree d.t) || (decide (1024 < nodesG g) || decide (8192 < (gramB deb g.ds []).length)))
theorem large_spec {I : GH} {deb : List Int} (hT : Tabs I deb) {g : Gr} (hg : g.ok I) : Spec Tryd.prog 45 [g.val] I [] (fun v I' M' => v = .bool (largeG deb g) ∧ (∀ b o, I b = some o → I' b = some o) ∧ M' = []) := by
  refine spec_of_V [] TrydEOK Tryd.func45 rfl rfl rfl ?_
  intro B h0
  have hgn := hg.n
  refine CondOb.mk (fun h1 => ?_) (fun h1 => ?_)
  · refine ⟨_, _, .refl, ?_, fun _ _ h => h, rfl⟩
    have : 64 < g.n := by simp at h1; omega
    simp [largeG, this]
  · have hn : g.n ≤ 64 := by simp at h1; omega
    have e0 : largeG deb g = ((!g.ds.all fun d => mayTree d.t) || (decide (1024 < nodesG g) || decide (8192 < (gramB deb g.ds []).length))) := by
      have : ¬ 64 < g.n := by omega
      simp [largeG, this]
    rw [e0]
    refine LoopOb.inv (ι := Nat) (fun i => { fl := [(1, .ref 1 0), (10, .val (.slice g.a g.n g.c)), (11, .val (.int .i64 g.n)), (12, .val (.int .i64 i))], cl := [(1, [.slice g.a g.n g.c])], gi := I })
      (fun i => i ≤ g.n ∧ (g.ds.take i).all (fun d => mayTree d.t) = true) (fun i => g.n - i) ?_ ?_
    · exact ⟨0, ⟨by simp, rfl⟩, .refl, .cons .refl (.cons .refl (.cons .refl (.cons .refl .nil))), .cons rfl .nil⟩
    · rintro i ⟨hi, hall⟩
      refine CondOb.mk (fun h => ?_) (fun h => ?_)
      · have hlt : i < g.n := by simpa using h
        have hlt' : i < g.ds.length := by omega
        obtain ⟨ad, had, hrd⟩ := hg.rs.row Df.cells_len hlt hlt'
        have hdm : g.ds[i] ∈ g.ds := List.getElem_mem hlt'
        refine IdxOb.mk ad i had rfl hlt ?_
        refine LoadOb.mk _ (hrd _) ?_
        refine CallOb.mk [] [] _ (.refl _) (TMay_spec hT.c (hg.ds _ hdm).t) ?_
        rintro v I' M' - ⟨rfl, rfl, rfl⟩
        refine CondOb.mk (fun h2 => ?_) (fun h2 => ?_)
        · refine ⟨_, _, .refl, ?_, fun _ _ h => h, rfl⟩
          have hf : mayTree g.ds[i].t = false := by simpa using h2
          have : (g.ds.all fun d => mayTree d.t) = false := by
            rw [List.all_eq_false]
            exact ⟨_, hdm, by simp [hf]⟩
          rw [this]
          rfl
        · have hf : mayTree g.ds[i].t = true := by simpa using h2
          refine ArithOb.mk _ (next_wr (i := i) (by omega)) ?_
          refine ⟨i + 1, ⟨⟨by omega, ?_⟩, by omega⟩, .refl, .cons .refl (.cons .refl (.cons .refl (.cons .refl .nil))), .cons rfl .nil⟩
          rw [List.take_succ_eq_append_getElem hlt', List.all_append, hall]
          simp [hf]
      · have hge : g.n ≤ i := by simpa using h
        rw [List.take_of_length_le (by omega)] at hall
        rw [hall]
        have hnt : ∀ d ∈ g.ds, d.t.n ≤ 1024 := fun d hd => by
          have := List.all_eq_true.1 hall d hd
          unfold mayTree at this
          simp only [Bool.and_eq_true, decide_eq_true_eq] at this
          exact this.1
        refine CallOb.mk [] [] _ (.refl _) (GNodes_spec hT.c hg hn hnt) ?_
        rintro v I' M' - ⟨rfl, rfl, rfl⟩
        refine GuardOb.mk (fun h2 => ?_) (fun h2 => ?_)
        · refine CallOb.mk [] [] _ (.refl _) (PSize_spec hT hg hn hnt) ?_
          rintro v I2 M' - ⟨rfl, hI2, rfl⟩
          refine ⟨_, _, .refl, ?_, hI2, rfl⟩
          have h2' : ¬ 1024 < nodesG g := by simp at h2; omega
          simp [h2']
          omega
        · refine ⟨_, _, .refl, ?_, fun _ _ h => h, rfl⟩
          have h2' : 1024 < nodesG g := by simp at h2; omega
          simp [h2']

/-! ### Find -/
def findAt (name : ByteArray) : List Df → Nat → Int
  | [], _ => -1
  | d :: ds, i => bif decide (d.name = name) then (i : Int) else findAt name ds (i + 1)
theorem Find_spec {I : GH} {g : Gr} (hg : g.ok I) (name : ByteArray) : Spec Tryd.prog 55 [g.val, .string name] I [] (fun v I' M' => v = .int .i64 (findAt name g.ds 0) ∧ I' = I ∧ M' = []) := by
  refine spec_of_V [] TrydEOK Tryd.func55 rfl rfl rfl ?_
  intro B h0
  have hgn := hg.n
  have hcap := hg.rs.cap
  refine LoopOb.inv (ι := Nat) (fun i => { fl := [(1, .val (.string name)), (8, .val (.slice g.a g.n g.c)), (9, .val (.int .i64 g.n)), (10, .val (.int .i64 i))], gi := I })
    (fun i => i ≤ g.n ∧ findAt name g.ds 0 = findAt name (g.ds.drop i) i) (fun i => g.n - i) ?_ ?_
  · exact ⟨0, ⟨by simp, rfl⟩, .refl, .cons .refl (.cons .refl (.cons .refl (.cons .refl .nil))), .nil⟩
  · rintro i ⟨hi, hf⟩
    refine CondOb.mk (fun h => ?_) (fun h => ?_)
    · have hlt : i < g.n := by simpa using h
      have hlt' : i < g.ds.length := by omega
      obtain ⟨ad, had, hrd⟩ := hg.rs.row Df.cells_len hlt hlt'
      have hdrop : g.ds.drop i = g.ds[i] :: g.ds.drop (i + 1) := List.drop_eq_getElem_cons hlt'
      refine IdxOb.mk ad i had rfl hlt ?_
      refine LoadOb.mk _ (hrd _) ?_
      refine CondOb.mk (fun h2 => ?_) (fun h2 => ?_)
      · refine ⟨_, _, .refl, ?_, rfl, rfl⟩
        rw [hf, hdrop, findAt, h2]
        rfl
      · refine ArithOb.mk _ (next_wr (i := i) (by omega)) ?_
        refine ⟨i + 1, ⟨⟨by omega, ?_⟩, by omega⟩, .refl, .cons .refl (.cons .refl (.cons .refl (.cons .refl .nil))), .nil⟩
        rw [hf, hdrop, findAt, h2]
        rfl
    · have hge : g.n ≤ i := by simpa using h
      refine ⟨_, _, .refl, ?_, rfl, rfl⟩
      rw [hf, List.drop_eq_nil_of_le (by omega)]
      rfl
end Go.V
