/- End; reads, wrong; the chapter's examples. -/
import Derived.Test.YtecjjadgdlbmiaaMkQ
import Derived.Lib.BytesEntry
import Derived.Lib.SlBytesConst
namespace Go.Proofs.Ytecjjadgdlbmiaa
open Go.RowKit
open Go.Tin
set_option linter.unusedVariables false
set_option linter.unusedSimpArgs false


theorem lexO_ind (l : List Int) (P : Nat → List Sg → Prop) (step : ∀ a acc m d s a', P a acc → a + 2 ≤ l.length → lexM l a = .ok m → lexS l (a + 2) m = .ok d s a' → P a' (acc ++ [⟨m, d, s⟩])) :
    ∀ f a acc L e, a ≤ l.length → P a acc → lexO l f a acc = .ok L e → P e L ∧ e ≤ l.length
  | 0, a, acc, L, e, ha, hP, h => by simp [lexO] at h
  | f + 1, a, acc, L, e, ha, hP, h => by
    unfold lexO at h
    cases hm : lexM l a with
    | err p q => rw [hm] at h; cases h
    | ok m =>
      rw [hm] at h
      have h2 := (lexM_ok hm).1
      cases hs : lexS l (a + 2) m with
      | err p q => simp only [hs] at h; cases h
      | ok d s a' =>
        simp only [hs] at h
        have h3 := lexS_le h2 hs
        have hP' := step a acc m d s a' hP h2 hm hs
        split at h
        · injection h with h4 h5
          subst h4; subst h5
          exact ⟨hP', h3.2⟩
        · exact lexO_ind l P step f a' _ L e h3.2 hP' h
theorem lexM_err {l : List Int} {a : Nat} {p q : Int} (ha : a ≤ l.length) (h : lexM l a = .err p q) : 0 ≤ p ∧ p ≤ l.length ∧ (q = 2 ∨ q = 3 ∧ p = l.length) := by
  unfold lexM at h
  split at h
  · injection h with h1 h2; omega
  · split at h
    · injection h with h1 h2; omega
    · split at h
      · injection h with h1 h2; omega
      · split at h
        · injection h with h1 h2; omega
        · cases h
theorem lexS_err {l : List Int} {a : Nat} {m p q : Int} (ha : a ≤ l.length) (h : lexS l a m = .err p q) : 0 ≤ p ∧ p ≤ l.length ∧ (q = 2 ∨ q = 3 ∧ p = l.length) := by
  unfold lexS at h
  split at h
  · cases h
  · split at h
    · injection h with h1 h2; omega
    · split at h
      · injection h with h1 h2; omega
      · split at h
        · injection h with h1 h2; omega
        · split at h
          · cases h
          · cases h
theorem lexO_err {l : List Int} : ∀ {f a : Nat} {acc : List Sg} {p q : Int}, l.length < f + a → a ≤ l.length → lexO l f a acc = .err p q → 0 ≤ p ∧ p ≤ l.length ∧ (q = 2 ∨ q = 3 ∧ p = l.length)
  | 0, a, acc, p, q, hf, ha, h => by omega
  | f + 1, a, acc, p, q, hf, ha, h => by
    unfold lexO at h
    cases hm : lexM l a with
    | err p q =>
      rw [hm] at h
      injection h with h1 h2
      subst h1; subst h2
      exact lexM_err ha hm
    | ok m =>
      rw [hm] at h
      have h2 := (lexM_ok hm).1
      cases hs : lexS l (a + 2) m with
      | err p q =>
        simp only [hs] at h
        injection h with h1 h2'
        subst h1; subst h2'
        exact lexS_err h2 hs
      | ok d s a' =>
        simp only [hs] at h
        have h3 := lexS_le h2 hs
        split at h
        · cases h
        · exact lexO_err (by omega) h3.2 h
theorem ofR_err {l : List Int} {p q : Int} (h : ofR l = .err p q) : 0 ≤ p ∧ p ≤ l.length ∧ (q = 2 ∨ q = 3 ∧ p = l.length) := lexO_err (by omega) (Nat.zero_le _) h
theorem lexS_by {l : List Int} (hb : Byts l) (hl : l.length ≤ 1000000) {a : Nat} {m : Int} {d s : List Int} {a' : Nat} (h : lexS l a m = .ok d s a') : Byts d ∧ Byts s ∧ d.length ≤ 1000000 ∧ s.length ≤ 1000000 := by
  have e0 : Byts [] := fun x hx => by cases hx
  have hln : ∀ (i j : Nat), ((l.drop i).take j).length ≤ 1000000 := fun i j => by rw [List.length_take, List.length_drop]; omega
  unfold lexS at h
  split at h
  · injection h with h1 h2 h3
    subst h1; subst h2
    exact ⟨e0, e0, by simp, by simp⟩
  · split at h
    · cases h
    · split at h
      · cases h
      · split at h
        · cases h
        · split at h
          · injection h with h1 h2 h3
            subst h1; subst h2
            exact ⟨(hb.drop _).take _, (hb.drop _).take _, hln _ _, hln _ _⟩
          · injection h with h1 h2 h3
            subst h1; subst h2
            exact ⟨(hb.drop _).take _, e0, hln _ _, by simp⟩
theorem BySg.snoc {L : List Sg} {x : Sg} (h : BySg L) (hx : Byts x.d ∧ Byts x.s ∧ x.d.length ≤ 1000000 ∧ x.s.length ≤ 1000000) : BySg (L ++ [x]) := fun s hs => by
  rcases List.mem_append.1 hs with h1 | h1
  · exact h s h1
  · rw [List.mem_singleton.1 h1]; exact hx
theorem ofR_by {l : List Int} (hb : Byts l) (hl : l.length ≤ 1000000) {L : List Sg} {a : Nat} (h : ofR l = .ok L a) : BySg L ∧ L.length ≤ l.length ∧ a ≤ l.length := by
  have := lexO_ind l (fun a L => BySg L ∧ L.length ≤ a) (fun a acc m d s a' hP h2 _ hs => ⟨hP.1.snoc (lexS_by hb hl hs), by have := lexS_le h2 hs; rw [List.length_append]; have := hP.2; simp; omega⟩) (l.length + 1) 0 [] L a (Nat.zero_le _) ⟨fun s hs => (by cases hs), Nat.le_refl _⟩ h
  exact ⟨this.1.1, Nat.le_trans this.1.2 this.2, this.2⟩
def endN (l : List Int) (at_ : Int) : Int := if 0 ≤ at_ ∧ at_ ≤ l.length then (match ofR (l.drop at_.toNat) with | .ok _ a => at_ + a | .err _ _ => 0) else 0
def endB (l : List Int) (at_ : Int) : Bool := if 0 ≤ at_ ∧ at_ ≤ l.length then (match ofR (l.drop at_.toNat) with | .ok _ _ => true | .err _ _ => false) else false
theorem end_any (A : Option Addr) (l : List Int) (cap : Nat) (at_ : Int) (w : World) (hs : Sl .u8 w A l) (hcap : l.length ≤ cap) (hl : l.length ≤ 1000000) (hby : Byts l) (hat : (Lit.int .i64 at_).wf = true) :
    Calls Try.prog 10 #[.slice A l.length cap, .int .i64 at_] w fun e w' => e = .returned (.tuple #[.int .i64 (endN l at_), .bool (endB l at_)]) ∧ Below w.heap.size w w' := by
  have HBY := Lib.hid hby
  have HS := Lib.hid hs
  clear hby hs
  by_cases h1 : 0 ≤ at_
  case neg =>
    have HE := Lib.hid (show endN l at_ = 0 ∧ endB l at_ = false by unfold endN endB; rw [if_neg (by omega), if_neg (by omega)]; exact ⟨rfl, rfl⟩)
    have i1 : at_ < 0 := by omega
    clear h1
    go_enter Try.func10, Try.ntmps10
    go_wp2_with fail
    go_ret2
    exact ⟨by rw [HE.out.1, HE.out.2]; rfl, Below.refl _ _⟩
  by_cases h2 : at_ ≤ l.length
  case neg =>
    have HE := Lib.hid (show endN l at_ = 0 ∧ endB l at_ = false by unfold endN endB; rw [if_neg (by omega), if_neg (by omega)]; exact ⟨rfl, rfl⟩)
    have i2 : (l.length : Int) < at_ := by omega
    clear h2
    go_enter Try.func10, Try.ntmps10
    go_wp2_with fail
    go_ret2
    exact ⟨by rw [HE.out.1, HE.out.2]; rfl, Below.refl _ _⟩
  obtain ⟨k, rfl⟩ := Int.eq_ofNat_of_zero_le h1
  have hk : k ≤ l.length := by omega
  have HE := Lib.hid (show endN l (k : Int) = (match ofR (l.drop k) with | .ok _ a => (k : Int) + a | .err _ _ => 0) ∧ endB l (k : Int) = (match ofR (l.drop k) with | .ok _ _ => true | .err _ _ => false) by unfold endN endB; rw [if_pos ⟨h1, h2⟩, if_pos ⟨h1, h2⟩, Int.toNat_natCast]; exact ⟨rfl, rfl⟩)
  clear h1 hat
  obtain ⟨E, hE⟩ : ∃ E, l.drop k = E := ⟨_, rfl⟩
  have HEL := Lib.hid (show l.length - k = E.length by rw [← hE, List.length_drop])
  have hel : E.length ≤ 1000000 := by rw [← HEL.out]; omega
  have HSE := Lib.hid (show Sl .u8 w (cutA A cap k 1) E by rw [← hE]; exact HS.out.cutA hcap)
  have HEB := Lib.hid (show Byts E by rw [← hE]; exact HBY.out.drop k)
  rw [hE] at HE
  clear hE
  have hce : E.length ≤ cap - k := by rw [← HEL.out]; omega
  go_enter Try.func10, Try.ntmps10
  go_wp2_with ((with_reducible refine Tin.wpl_cutn (P := Try.prog) (e := 5) (s := 1) Try.underlying22 sz8 ?_ (.tmp 19) (.tmp 20) ?_ A l.length cap k (k : Int) ?_ ?_ ?_ ?_ ?_); rfl; rfl; rfl; rfl; rfl; exact hk; simp only [Act.put, List.setIfInBounds_toArray, List.set_cons_succ, List.set_cons_zero])
  rw [HEL.out]
  refine (of_any (cutA A cap k 1) E (cap - k) w HSE.out hce hel HEB.out).mono ?_
  intro e w2 hp
  obtain ⟨r, hr⟩ : ∃ r, ofR E = r := ⟨_, rfl⟩
  have HR := Lib.hid hr
  rw [hr] at hp HE
  cases r with
  | err p q =>
    obtain ⟨rfl, hb⟩ := hp
    have hq := ofR_err hr
    have nq : (q != 0) = true := by rw [bne_iff_ne]; omega
    clear hr hq
    go_wp2_with fail
    go_ret2
    exact ⟨by rw [HE.out.1, HE.out.2]; rfl, hb⟩
  | ok L a =>
    obtain ⟨A2, c2, xs, rfl, _, _, hb⟩ := hp
    have ha := (ofR_by HEB.out hel hr).2.2
    clear hr
    go_wp2_with fail
    go_ret2
    exact ⟨by rw [HE.out.1, HE.out.2]; rfl, hb⟩
theorem byts_S (S : ByteArray) : Byts (bytesL S) := fun x hx => by
  obtain ⟨b, _, rfl⟩ := List.mem_map.1 hx
  have h := b.toNat_lt
  exact ⟨Int.natCast_nonneg _, by show (b.toNat : Int) < 256; omega⟩
theorem sl_S (w : World) (S : ByteArray) : Sl .u8 (Lib.bytesWorld w 5 S) (some ⟨w.heap.size, 0, none⟩) (bytesL S) := by
  rcases Nat.eq_zero_or_pos (bytesL S).length with h | h
  · exact .inl (List.eq_nil_of_length_eq_zero h)
  · refine .inr ⟨w.heap.size, 0, rfl, ?_, fun i hi => ?_⟩
    · have h0 := bw_cell w 5 S 0 (.int .u8 (bytesL S)[0]) (by rw [List.getElem?_map, List.getElem?_eq_getElem h]; rfl)
      rw [add_none] at h0
      by_cases hlt : w.heap.size < (Lib.bytesWorld w 5 S).heap.size
      · exact hlt
      · exfalso
        unfold World.cell? at h0
        rw [Array.getElem?_eq_none (show (Lib.bytesWorld w 5 S).heap.size ≤ w.heap.size by omega)] at h0
        cases h0
    · have h0 := bw_cell w 5 S i (.int .u8 ((bytesL S).getD i 0)) (by rw [List.getElem?_map, List.getElem?_eq_getElem hi]; simp [List.getD_eq_getElem?_getD, hi])
      rw [add_none] at h0
      exact h0
theorem wrong_yes (S : ByteArray) (l : List Int) (p q : Int) (hS : bytesL S = l) (hl : l.length ≤ 1000000) (hr : ofR l = .err p q) (w : World) :
    Calls Try.prog 21 #[.string S, .int .i64 p, .int .i64 q] w fun e w' => e = .returned (.bool true) ∧ Below w.heap.size w w' := by
  subst hS
  have hsz : S.size = (bytesL S).length := (bytesL_len S).symm
  have HSZ := Lib.hid hsz
  have HSL := Lib.hid (sl_S w S)
  have HB := Lib.hid (bw_below w 5 S)
  have HR := Lib.hid hr
  have HGE := Lib.hid (grownCap_ge w S.size 0 5)
  clear hsz hr
  go_enter Try.func21, Try.ntmps21
  go_wp2_with (refine wpl_convb Try.underlying9 Try.underlying22 Try.underlying5 _ rfl (.tmp 12) rfl S rfl ?_)
  generalize grownCap w S.size 0 5 = cap at *
  rw [HSZ.out] at HGE ⊢
  refine (of_any _ (bytesL S) cap _ HSL.out HGE.out hl (byts_S S)).mono ?_
  intro e w2 hp
  rw [HR.out] at hp
  obtain ⟨rfl, hb⟩ := hp
  go_wp2_with fail
  go_ret
  exact ⟨rfl, HB.out.trans (hb.mono HB.out.size)⟩
theorem reads_yes (S : ByteArray) (l : List Int) (a : Nat) (M : List Sg) (A : Option Addr) (c : Nat) (hS : bytesL S = l) (hl : l.length ≤ 1000000) (hr : ofR l = .ok M a) (w : World) (hm : SegS w A M) :
    Calls Try.prog 20 #[.string S, .int .i64 (a : Int), .slice A M.length c] w fun e w' => e = .returned (.bool true) ∧ Below w.heap.size w w' := by
  subst hS
  have hsz : S.size = (bytesL S).length := (bytesL_len S).symm
  have HSZ := Lib.hid hsz
  have HSL := Lib.hid (sl_S w S)
  have HB := Lib.hid (bw_below w 5 S)
  have HR := Lib.hid hr
  have HBY := Lib.hid (ofR_by (byts_S S) hl hr)
  have HM := Lib.hid (hm.keep HB.out)
  have HGE := Lib.hid (grownCap_ge w S.size 0 5)
  clear hsz hr hm
  go_enter Try.func20, Try.ntmps20
  go_wp2_with (refine wpl_convb Try.underlying9 Try.underlying22 Try.underlying5 _ rfl (.tmp 12) rfl S rfl ?_)
  generalize grownCap w S.size 0 5 = cap at *
  rw [HSZ.out] at HGE ⊢
  refine (of_any _ (bytesL S) cap _ HSL.out HGE.out hl (byts_S S)).mono ?_
  intro e w2 hp
  rw [HR.out] at hp
  obtain ⟨A2, c2, xs, rfl, ho, hsv, hb⟩ := hp
  have HS2 := Lib.hid (SegS.own ho hsv HBY.out.1)
  have HM2 := Lib.hid (HM.out.keep hb)
  have HB2 := Lib.hid (HB.out.trans (hb.mono HB.out.size))
  have hml : M.length ≤ 1000000 := Nat.le_trans HBY.out.2.1 hl
  clear ho hsv hb
  go_wp2_with fail
  refine (same_any A2 A c2 c M M w2 HS2.out HM2.out hml hml).mono ?_
  rintro e w3 ⟨rfl, hb3⟩
  rw [eqG_refl]
  go_wp2_with fail
  go_ret
  exact ⟨rfl, HB2.out.trans (hb3.mono HB2.out.size)⟩
theorem PtS.nil_ (w : World) : PtS w (.slice none 0 0) [] := ⟨none, 0, rfl, .inl rfl, Nat.le_refl _, (fun x hx => by cases hx), by simp⟩
theorem cell_newm (w : World) (cs : Array Value) (t : TypeId) (z : Nat × Nat) (i : Nat) : (w.alloc (.cells cs t z)).cell? ⟨w.heap.size, i, none⟩ = cs[i]? := by
  have h : (w.alloc (.cells cs t z)).heap[w.heap.size]? = some (.cells cs t z) := heap_alloc_new w _
  unfold World.cell?
  rw [h]
  cases hc : cs[i]? with
  | none => simp [hc]
  | some v => simp [hc]
theorem PtS.new_ (w : World) (cs : Array Value) (d : List Int) (n : Nat) (z : Nat × Nat) (h : cs.toList = d.map (Value.int .u8)) (hn : n = d.length) (hb : Byts d) (hl : d.length ≤ 1000000) : PtS (w.alloc (.cells cs 5 z)) (.slice (some ⟨w.heap.size, 0, none⟩) n n) d := by
  subst hn
  refine ⟨_, _, rfl, .inr ⟨w.heap.size, 0, rfl, by simp, fun i hi => ?_⟩, Nat.le_refl _, hb, hl⟩
  rw [cell_newm, ← Array.getElem?_toList, h]
  simp [List.getD_eq_getElem?_getD, hi]
theorem segs_row (w : World) (cs : Array Value) (L : List Sg) (h : SgV (PtS w) cs.toList L) : SegS (w.alloc (.cells cs 32)) (some ⟨w.heap.size, 0, none⟩) L :=
  ⟨cs.toList, SlV.new_ w _ cs, SgV.mono (fun _ _ h => h.keep (ba (brefl w) _)) h⟩
set_option maxRecDepth 100000 in
set_option maxHeartbeats 4000000 in
theorem awake_any (w : World) : Calls Try.prog 7 #[] w fun e w' => e = .returned (.bool true) ∧ Below w.heap.size w w' := by
  obtain ⟨h0, h1, hb, hz⟩ := alloc2 w (.cells (srow 216 none 0 0 none 0 0) 32) (.cells (srow 217 none 0 0 none 0 0) 32)
  have R1 := Lib.hid h0
  have R2 := Lib.hid h1
  have HB := Lib.hid hb
  have hsg := segs_row ((w.alloc (.cells (srow 216 none 0 0 none 0 0) 32)).alloc (.cells (srow 217 none 0 0 none 0 0) 32)) #[.int .i64 216, .slice none 0 0, .slice none 0 0, .int .i64 217, .slice none 0 0, .slice none 0 0] [⟨216, [], []⟩, ⟨217, [], []⟩] (.cons (PtS.nil_ _) (PtS.nil_ _) (.cons (PtS.nil_ _) (PtS.nil_ _) .nil))
  have hbs := ba (brefl ((w.alloc (.cells (srow 216 none 0 0 none 0 0) 32)).alloc (.cells (srow 217 none 0 0 none 0 0) 32))) (.cells #[.int .i64 216, .slice none 0 0, .slice none 0 0, .int .i64 217, .slice none 0 0, .slice none 0 0] 32)
  rw [hz] at hsg
  have HSG := Lib.hid hsg
  have R1' := Lib.hid ((hbs.block _ (row_lt R1.out)).trans R1.out)
  have R2' := Lib.hid ((hbs.block _ (row_lt R2.out)).trans R2.out)
  have HB' := Lib.hid (HB.out.trans (hbs.mono HB.out.size))
  clear h0 h1 hb hz hsg hbs
  have kc := fun (w : World) (C : Array Value) (n c : Nat) => Lib.run_convert_bytes_const (P := Try.prog) w 22 5 C n c Try.underlying22 Try.underlying5
  go_enter Try.func7, Try.ntmps7
  go_wp2_with (first | ((with_reducible refine wpl_load_row rtS ?_ (.tmp 1) ?_ (w.heap.size) ?_ 32 (srow 216 none 0 0 none 0 0) ?_ R1.out ?_); rfl; rfl; rfl; rfl; simp only [Act.put, List.setIfInBounds_toArray, List.set_cons_succ, List.set_cons_zero]) | ((with_reducible refine wpl_load_row rtS ?_ (.tmp 2) ?_ (w.heap.size + 1) ?_ 32 (srow 217 none 0 0 none 0 0) ?_ R2.out ?_); rfl; rfl; rfl; rfl; simp only [Act.put, List.setIfInBounds_toArray, List.set_cons_succ, List.set_cons_zero]))
  refine (reads_yes ({ data := #[255, 216, 255, 217, 0] } : ByteArray) [255, 216, 255, 217, 0] 4 [⟨216, [], []⟩, ⟨217, [], []⟩] _ 2 rfl (by decide) (by kernel_rfl) _ HSG.out).mono ?_
  rintro e v1 ⟨rfl, hb⟩
  replace R1 := Lib.hid ((hb.block _ (row_lt R1'.out)).trans R1'.out)
  replace R2 := Lib.hid ((hb.block _ (row_lt R2'.out)).trans R2'.out)
  replace HB := Lib.hid (HB'.out.trans (hb.mono HB'.out.size))
  clear hb R1' R2' HB' HSG
  have hba := ba (brefl v1) (.cells #[.int .u8 65] 5 (1, 2))
  have hza : (v1.alloc (.cells #[.int .u8 65] 5 (1, 2))).heap.size = v1.heap.size + 1 := by simp
  have R2' := Lib.hid ((hba.block _ (row_lt R2.out)).trans R2.out)
  have hsg := segs_row (v1.alloc (.cells #[.int .u8 65] 5 (1, 2))) #[.int .i64 216, .slice none 0 0, .slice none 0 0, .int .i64 254, .slice (some ⟨v1.heap.size, 0, none⟩) 1 1, .slice none 0 0, .int .i64 217, .slice none 0 0, .slice none 0 0] [⟨216, [], []⟩, ⟨254, [65], []⟩, ⟨217, [], []⟩] (.cons (PtS.nil_ _) (PtS.nil_ _) (.cons (PtS.new_ v1 #[.int .u8 65] [65] 1 (1, 2) rfl rfl (by unfold Byts; decide) (by decide)) (PtS.nil_ _) (.cons (PtS.nil_ _) (PtS.nil_ _) .nil)))
  have hbs := hba.trans ((ba (brefl (v1.alloc (.cells #[.int .u8 65] 5 (1, 2)))) (.cells #[.int .i64 216, .slice none 0 0, .slice none 0 0, .int .i64 254, .slice (some ⟨v1.heap.size, 0, none⟩) 1 1, .slice none 0 0, .int .i64 217, .slice none 0 0, .slice none 0 0] 32)).mono hba.size)
  rw [hza] at hsg
  have HSG := Lib.hid hsg
  have HBS := Lib.hid hbs
  clear hsg hbs hba hza
  go_wp2_with (first | ((with_reducible refine wpl_load_row rtS ?_ (.tmp 1) ?_ (w.heap.size) ?_ 32 (srow 216 none 0 0 none 0 0) ?_ R1.out ?_); rfl; rfl; rfl; rfl; simp only [Act.put, List.setIfInBounds_toArray, List.set_cons_succ, List.set_cons_zero]) | ((with_reducible refine wpl_load_row rtS ?_ (.tmp 2) ?_ (w.heap.size + 1) ?_ 32 (srow 217 none 0 0 none 0 0) ?_ R2'.out ?_); rfl; rfl; rfl; rfl; simp only [Act.put, List.setIfInBounds_toArray, List.set_cons_succ, List.set_cons_zero]))
  refine (reads_yes ({ data := #[255, 216, 255, 254, 0, 3, 65, 255, 217] } : ByteArray) [255, 216, 255, 254, 0, 3, 65, 255, 217] 9 [⟨216, [], []⟩, ⟨254, [65], []⟩, ⟨217, [], []⟩] _ 3 rfl (by decide) (by kernel_rfl) _ HSG.out).mono ?_
  rintro e v2 ⟨rfl, hb⟩
  have hb2 := HBS.out.trans (hb.mono HBS.out.size)
  replace R1 := Lib.hid ((hb2.block _ (row_lt R1.out)).trans R1.out)
  replace R2 := Lib.hid ((hb2.block _ (row_lt R2.out)).trans R2.out)
  replace HB := Lib.hid (HB.out.trans (hb2.mono HB.out.size))
  clear hb hb2 R2' HSG HBS
  have hba := ba (brefl v2) (.cells #[.int .u8 1, .int .u8 255, .int .u8 0, .int .u8 255, .int .u8 211, .int .u8 2] 5 (6, 7))
  have hza : (v2.alloc (.cells #[.int .u8 1, .int .u8 255, .int .u8 0, .int .u8 255, .int .u8 211, .int .u8 2] 5 (6, 7))).heap.size = v2.heap.size + 1 := by simp
  have R2' := Lib.hid ((hba.block _ (row_lt R2.out)).trans R2.out)
  have hsg := segs_row (v2.alloc (.cells #[.int .u8 1, .int .u8 255, .int .u8 0, .int .u8 255, .int .u8 211, .int .u8 2] 5 (6, 7))) #[.int .i64 216, .slice none 0 0, .slice none 0 0, .int .i64 218, .slice none 0 0, .slice (some ⟨v2.heap.size, 0, none⟩) 6 6, .int .i64 217, .slice none 0 0, .slice none 0 0] [⟨216, [], []⟩, ⟨218, [], [1, 255, 0, 255, 211, 2]⟩, ⟨217, [], []⟩] (.cons (PtS.nil_ _) (PtS.nil_ _) (.cons (PtS.nil_ _) (PtS.new_ v2 #[.int .u8 1, .int .u8 255, .int .u8 0, .int .u8 255, .int .u8 211, .int .u8 2] [1, 255, 0, 255, 211, 2] 6 (6, 7) rfl rfl (by unfold Byts; decide) (by decide)) (.cons (PtS.nil_ _) (PtS.nil_ _) .nil)))
  have hbs := hba.trans ((ba (brefl (v2.alloc (.cells #[.int .u8 1, .int .u8 255, .int .u8 0, .int .u8 255, .int .u8 211, .int .u8 2] 5 (6, 7)))) (.cells #[.int .i64 216, .slice none 0 0, .slice none 0 0, .int .i64 218, .slice none 0 0, .slice (some ⟨v2.heap.size, 0, none⟩) 6 6, .int .i64 217, .slice none 0 0, .slice none 0 0] 32)).mono hba.size)
  rw [hza] at hsg
  have HSG := Lib.hid hsg
  have HBS := Lib.hid hbs
  clear hsg hbs hba hza
  go_wp2_with (first | ((with_reducible refine wpl_load_row rtS ?_ (.tmp 1) ?_ (w.heap.size) ?_ 32 (srow 216 none 0 0 none 0 0) ?_ R1.out ?_); rfl; rfl; rfl; rfl; simp only [Act.put, List.setIfInBounds_toArray, List.set_cons_succ, List.set_cons_zero]) | ((with_reducible refine wpl_load_row rtS ?_ (.tmp 2) ?_ (w.heap.size + 1) ?_ 32 (srow 217 none 0 0 none 0 0) ?_ R2'.out ?_); rfl; rfl; rfl; rfl; simp only [Act.put, List.setIfInBounds_toArray, List.set_cons_succ, List.set_cons_zero]))
  refine (reads_yes ({ data := #[255, 216, 255, 218, 0, 2, 1, 255, 0, 255, 211, 2, 255, 217] } : ByteArray) [255, 216, 255, 218, 0, 2, 1, 255, 0, 255, 211, 2, 255, 217] 14 [⟨216, [], []⟩, ⟨218, [], [1, 255, 0, 255, 211, 2]⟩, ⟨217, [], []⟩] _ 3 rfl (by decide) (by kernel_rfl) _ HSG.out).mono ?_
  rintro e v3 ⟨rfl, hb⟩
  have hb2 := HBS.out.trans (hb.mono HBS.out.size)
  replace R1 := Lib.hid ((hb2.block _ (row_lt R1.out)).trans R1.out)
  replace R2 := Lib.hid ((hb2.block _ (row_lt R2.out)).trans R2.out)
  replace HB := Lib.hid (HB.out.trans (hb2.mono HB.out.size))
  clear hb hb2 R2' HSG HBS
  go_wp2_with fail
  refine (wrong_yes ({ data := #[255, 216, 255, 216] } : ByteArray) [255, 216, 255, 216] 2 2 rfl (by decide) (by kernel_rfl) _).mono ?_
  rintro e v4 ⟨rfl, hb⟩
  replace HB := Lib.hid (HB.out.trans (hb.mono HB.out.size))
  clear hb
  go_wp2_with fail
  refine (wrong_yes ({ data := #[255, 216, 255, 224, 0, 1] } : ByteArray) [255, 216, 255, 224, 0, 1] 4 2 rfl (by decide) (by kernel_rfl) _).mono ?_
  rintro e v5 ⟨rfl, hb⟩
  replace HB := Lib.hid (HB.out.trans (hb.mono HB.out.size))
  clear hb
  go_wp2_with fail
  refine (wrong_yes ({ data := #[255, 216, 255] } : ByteArray) [255, 216, 255] 3 3 rfl (by decide) (by kernel_rfl) _).mono ?_
  rintro e v6 ⟨rfl, hb⟩
  replace HB := Lib.hid (HB.out.trans (hb.mono HB.out.size))
  clear hb
  go_wp2_with fail
  go_ret
  exact ⟨rfl, HB.out⟩
end Go.Proofs.Ytecjjadgdlbmiaa
