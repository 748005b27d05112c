/- The contract of gather.Put, whatever is held. -/
import Derived.Test.YtolhlgalhhdkmabPutInv
namespace Go.Proofs.Ytolhlgalhhdkmab
open Go.ChangeShapes Go.WideShapes Go.ChangeAt Go.RowKit
set_option linter.unusedVariables false

def DataOk (w : World) (l : List PD) : Prop := ∀ x ∈ l, (RdB w x.D x.data ∧ x.data.length ≤ x.c ∧ x.c ≤ 9223372036854775807) ∧ 0 ≤ x.off ∧ x.off ≤ 4611686018427387903 ∧ 0 < x.data.length ∧ x.data.length ≤ 10000
theorem DataOk.snoc {w : World} {l : List PD} {x : PD} (h : DataOk w l) (hx : (RdB w x.D x.data ∧ x.data.length ≤ x.c ∧ x.c ≤ 9223372036854775807) ∧ 0 ≤ x.off ∧ x.off ≤ 4611686018427387903 ∧ 0 < x.data.length ∧ x.data.length ≤ 10000) : DataOk w (l ++ [x]) := fun y hy => by
  rcases List.mem_append.1 hy with hy | hy
  · exact h y hy
  · obtain rfl := List.mem_singleton.1 hy; exact hx
theorem DataOk.psz {w : World} {l : List PD} (h : DataOk w l) : psz (l.map PD.pl) ≤ 10000 * l.length := by
  induction l with
  | nil => simp [Go.Proofs.Ytolhlgalhhdkmab.psz]
  | cons x l ih =>
    have h1 := ih fun y hy => h y (List.mem_cons_of_mem _ hy)
    have h2 := (h x (List.mem_cons_self)).2.2.2.2
    have e : Go.Proofs.Ytolhlgalhhdkmab.psz ((x :: l).map PD.pl) = x.data.length + Go.Proofs.Ytolhlgalhhdkmab.psz (l.map PD.pl) := by simp [Go.Proofs.Ytolhlgalhhdkmab.psz, PD.pl]
    rw [e, List.length_cons]; omega
theorem putStep_eq (data : List UInt8) (off last at_ po : Int) (pu : Bool) (pd : List UInt8) (pl : Nat) (l l2 : List (Int × List UInt8)) (hl : pd.length = pl) (h : l2 = if pu = false ∧ at_ ≤ po then l ++ pieceP data off at_ (if last < po then last else po) else l) (at' : Int) (ha : at' = if at_ < po + (pl : Int) then po + (pl : Int) else at_) :
    putStep data off last (pu, at_, l) (po, pd) = (pu || decide (last ≤ at'), at', l2 ++ [(po, pd)]) := by
  subst ha; subst h; subst hl; rfl
theorem PInv.start {w w2 : World} {G : Array Value} {off at_ : Int} {DV : Value} (hg : Blk w2 w.heap.size 47 G) (ho : Blk w2 (w.heap.size + 1) 3 #[.int .i64 off]) (hd : Blk w2 (w.heap.size + 1 + 1) 43 #[DV]) (hz : Blk w2 (w.heap.size + 1 + 1 + 1) 47 #[.int .i64 0, .slice none 0 0, .int .i64 0, .int .i64 0]) (hb : Below w.heap.size w w2) :
    PInv w G off DV w2.heap.size at_ none 0 [] ((w2.alloc (.cells #[.slice none 0 0] 45)).alloc (.cells #[.int .i64 at_] 3)) :=
  ⟨(hg.alloc _).alloc _, (ho.alloc _).alloc _, (hd.alloc _).alloc _, (hz.alloc _).alloc _, (Blk.new _ _ _).alloc _, Blk.new1 _ _ _ _, OwnX.nil _ _ _, by simp, hz.lt, (hb.alloc hb.size _).alloc (by have := hb.size; simp; omega) _⟩

/-- What a round of Put's loop leaves. -/
def PRel (w : World) (G : Array Value) (off last d : Int) (DV : Value) (data : List UInt8) (gL n : Nat) (qs : List (Int × List UInt8)) (s15 s80 : Value) (wr : World) : Prop :=
  ∃ (k : Nat) (A1 : Option Addr) (c1 : Nat) (l : List PD) (pu : Bool) (at_ : Int), k ≤ n ∧ s80 = .int .i64 k ∧ s15 = .bool pu ∧ PInv w G off DV gL at_ A1 c1 l wr ∧ DataOk w l ∧ l.length ≤ 2 * k ∧ off ≤ at_ ∧ 0 ≤ at_ ∧ at_ ≤ 4611686018427387903 ∧ putFold data off last d (qs.take k) = (pu, at_, l.map PD.pl)

/-- What Put answers. -/
def PutOut (d f win last : Int) (data : List UInt8) (off : Int) (fin : Bool) (qs : List (Int × List UInt8)) (w : World) (e : Ending) (w' : World) : Prop :=
  ((mergeP (putL data off d qs)).length ≤ 4 → ∃ (A' : Option Addr) (m c' : Nat) (o : List PD), e = .returned (.tuple #[.agg #[.int .i64 d, .slice A' m c', .int .i64 (if fin then last else f), .int .i64 win], .int .i64 0]) ∧ o.length = m ∧ m ≤ c' ∧ c' ≤ 9223372036854775807 ∧ OwnX pdc 2 w' w.heap.size 68 A' c' o ∧ PDs w' w.heap.size (A'.map (fun y : Addr => y.block)) o ∧ o.map PD.pl = mergeP (putL data off d qs)) ∧
  (4 < (mergeP (putL data off d qs)).length → e = .returned (.tuple #[.agg #[.int .i64 0, .slice none 0 0, .int .i64 0, .int .i64 0], .int .i64 8])) ∧ Below w.heap.size w w'

set_option maxRecDepth 100000 in
set_option maxHeartbeats 8000000 in
theorem gPut_any (d f win off : Int) (A : Option Addr) (n c : Nat) (ps : List PD) (D : Option Addr) (dn dc : Nat) (data : List UInt8) (fin : Bool) (hn : ps.length = n) (hnc : n ≤ c) (hcm : c ≤ 9223372036854775807) (hn4 : n ≤ 4) (h0 : 0 ≤ d) (h1 : -1 ≤ f) (h2 : d ≤ win) (h3 : win ≤ 4611686018427387903)
    (hh : GHeld d (ps.map PD.pl)) (he : endP d (ps.map PD.pl) n ≤ win) (hf : 0 ≤ f → endP d (ps.map PD.pl) n ≤ f) (w : World) (h : RdP w A ps)
    (hdn : data.length = dn) (hdc : dn ≤ dc) (hdm : dc ≤ 9223372036854775807) (hD : RdB w D data) (ho : 0 ≤ off) (last : Int) (hlast : off + (dn : Int) = last) (hlm : last ≤ 4611686018427387903) (hlw : last ≤ win)
    (hf1 : 0 ≤ f → last ≤ f) (hf2 : 0 ≤ f → fin = true → last = f) (hf3 : fin = true → endP d (ps.map PD.pl) n ≤ last) (hps : ∀ x ∈ ps, x.data.length ≤ 10000) (hdn4 : dn ≤ 10000) :
    Calls Try.prog 25 #[.agg #[.int .i64 d, .slice A n c, .int .i64 f, .int .i64 win], .int .i64 off, .slice D dn dc, .bool fin] w (PutOut d f win last data off fin (ps.map PD.pl) w) := by
  have HN := Lib.hid hn
  have HP := Lib.hid h
  have HH := Lib.hid hh
  have HE := Lib.hid he
  have HF := Lib.hid hf
  have HD := Lib.hid hD
  have HDN := Lib.hid hdn
  have HLA := Lib.hid hlast
  have HPS := Lib.hid hps
  clear hps
  have hls : IntKind.i64.wrap (off + (dn : Int)) = last := by rw [hlast, IntKind.wrap_i64]; omega
  clear hn h hh he hf hD hdn
  go_enter Try.func25, Try.ntmps25
  go_upto_region 1 with (fail)
  refine wp_world (fun w' => Blk w' w.heap.size 47 #[.int .i64 d, .slice A n c, .int .i64 f, .int .i64 win] ∧ Blk w' (w.heap.size + 1) 3 #[.int .i64 off] ∧ Blk w' (w.heap.size + 1 + 1) 43 #[.slice D dn dc] ∧ Blk w' (w.heap.size + 1 + 1 + 1) 47 #[.int .i64 0, .slice none 0 0, .int .i64 0, .int .i64 0] ∧ Below w.heap.size w w')
    ⟨(((Blk.new _ _ _).alloc _).alloc _).alloc _, ((Blk.new1 _ _ _ _).alloc _).alloc _, (Blk.new2 _ _ _ _ _).alloc _, Blk.new3 _ _ _ _ _ _, ((((Below.refl _ _).alloc (Nat.le_refl _) _).alloc (by simp) _).alloc (by simp; omega) _).alloc (by simp; omega) _⟩ ?_
  rintro w0 ⟨hG, hO, hDD, hZ, hb0⟩
  have FG := hG.facts4
  go_wp2_with fail
  refine (gCheck_any d f win A n c ps HN.out hnc hcm hn4 h0 h1 h2 h3 HH.out HE.out HF.out _ (HP.out.below hb0)).mono ?_
  rintro e w1 ⟨rfl, hb1⟩
  have hG := hG.carry hb1
  have hO := hO.carry hb1
  have hDD := hDD.carry hb1
  have hZ := hZ.carry hb1
  have hb := hb0.trans (hb1.mono hb0.size)
  clear FG hb1 hb0
  have FG := hG.facts4
  have FO := hO.facts1
  have FD := hDD.facts1
  have FZ := hZ.facts4
  have ho2 : off ≤ 4611686018427387903 - (dn : Int) := by omega
  have hfd : f < 0 ∨ (0 ≤ f ∧ last ≤ f) := by
    rcases Int.lt_or_le f 0 with h | h
    · exact .inl h
    · exact .inr ⟨h, hf1 h⟩
  have e1 := decide_eq_false (show ¬ off < 0 by omega)
  have e2 := decide_eq_false (show ¬ 4611686018427387903 - (dn : Int) < off by omega)
  have e4 := decide_eq_false (show ¬ win < last by omega)
  have HG := Lib.hid hG
  have HO := Lib.hid hO
  have HDD := Lib.hid hDD
  have HZ := Lib.hid hZ
  have HB := Lib.hid hb
  have hgl := hZ.lt
  clear hG hO hDD hZ hb
  go_upto_region 7 with (fail)
  go_cut [39] (fun s39 wx => s39 = .bool false ∧ Blk wx w.heap.size 47 #[.int .i64 d, .slice A n c, .int .i64 f, .int .i64 win] ∧ Blk wx (w.heap.size + 1) 3 #[.int .i64 off] ∧ Blk wx (w.heap.size + 1 + 1) 43 #[.slice D dn dc] ∧ Blk wx (w.heap.size + 1 + 1 + 1) 47 #[.int .i64 0, .slice none 0 0, .int .i64 0, .int .i64 0] ∧ Below w.heap.size w wx)
  case first =>
    cases fin
    · rcases hfd with hf0 | ⟨hf0, hfl⟩
      · go_wp2_with fail
        go_meet
        exact ⟨rfl, HG.out, HO.out, HDD.out, HZ.out, HB.out⟩
      · have e3 := decide_eq_false (show ¬ f < last by omega)
        go_wp2_with fail
        go_meet
        exact ⟨rfl, HG.out, HO.out, HDD.out, HZ.out, HB.out⟩
    · rcases hfd with hf0 | ⟨hf0, hfl⟩
      · go_wp2_with fail
        go_meet
        exact ⟨rfl, HG.out, HO.out, HDD.out, HZ.out, HB.out⟩
      · have e3 := decide_eq_false (show ¬ f < last by omega)
        obtain rfl : last = f := hf2 hf0 rfl
        have e6 : (last != last) = false := by simp
        go_wp2_with fail
        go_meet
        exact ⟨rfl, HG.out, HO.out, HDD.out, HZ.out, HB.out⟩
  case rest =>
   obtain ⟨rfl, hG, hO, hDD, hZ, hb⟩ := hcut
   clear HG HO HDD HZ HB FG FO FD FZ hgl
   have FG := hG.facts4
   have HG := Lib.hid hG
   have HO := Lib.hid hO
   have HDD := Lib.hid hDD
   have HZ := Lib.hid hZ
   have HB := Lib.hid hb
   clear hG hO hDD hZ hb
   refine (show ∀ (a : Act) (w : World), Code.wp _ _ _ a w → _ from by assumption) _ _ ?_
   go_cut [39] (fun s39 wx => s39 = .bool false ∧ Blk wx w.heap.size 47 #[.int .i64 d, .slice A n c, .int .i64 f, .int .i64 win] ∧ Blk wx (w.heap.size + 1) 3 #[.int .i64 off] ∧ Blk wx (w.heap.size + 1 + 1) 43 #[.slice D dn dc] ∧ Blk wx (w.heap.size + 1 + 1 + 1) 47 #[.int .i64 0, .slice none 0 0, .int .i64 0, .int .i64 0] ∧ Below w.heap.size w wx)
   case first =>
     cases fin
     · go_wp2_with fail
       go_meet
       exact ⟨rfl, HG.out, HO.out, HDD.out, HZ.out, HB.out⟩
     · have hEE := hf3 rfl
       have HEN := Lib.hid (gEnd_any d f win A n c ps HN.out hnc hcm h0 HH.out _ (HP.out.below HB.out))
       generalize endP d (ps.map PD.pl) n = en at *
       have e5 := decide_eq_false (show ¬ last < en by omega)
       go_wp2_with fail
       refine HEN.out.mono ?_
       rintro e w2 ⟨rfl, hb2⟩
       have FG2 := (HG.out.carry hb2).facts4
       go_wp2_with fail
       go_meet
       exact ⟨rfl, HG.out.carry hb2, HO.out.carry hb2, HDD.out.carry hb2, HZ.out.carry hb2, HB.out.trans (hb2.mono HB.out.size)⟩
   case rest =>
     obtain ⟨rfl, hG, hO, hDD, hZ, hb⟩ := hcut
     clear HG HO HDD HZ HB FG
     have FG := hG.facts4
     have FO := hO.facts1
     have FD := hDD.facts1
     have FZ := hZ.facts4
     obtain ⟨at0, hat0⟩ : ∃ at0, (if off < d then d else off) = at0 := ⟨_, rfl⟩
     have hat0' : (if d < off then off else d) = at0 := by rw [← hat0]; split <;> split <;> omega
     refine (show ∀ (a : Act) (w : World), Code.wp _ _ _ a w → _ from by assumption) _ _ ?_
     go_upto_region 16 with (fail)
     have hat1 : off ≤ at0 ∧ 0 ≤ at0 ∧ at0 ≤ 4611686018427387903 := by rw [← hat0]; split <;> omega
     have HAT := Lib.hid hat0
     refine wp_world (fun w' => PInv w #[.int .i64 d, .slice A n c, .int .i64 f, .int .i64 win] off (.slice D dn dc) wc.heap.size at0 none 0 [] w') (PInv.start hG hO hDD hZ hb) ?_
     clear FG FO FD FZ hG hO hDD hZ hb hat0 hat0' e1 e2 e4 hfd hls ho2
     generalize wc.heap.size = gL
     rintro w3 hI
     have FG := hI.g.facts4
     have HI := Lib.hid hI
     clear hI
     go_wp2_with fail
     clear FG
     go_loopw [15, 80] (fun s15 s80 wr => PRel w #[.int .i64 d, .slice A n c, .int .i64 f, .int .i64 win] off last d (.slice D dn dc) data gL n (ps.map PD.pl) s15 s80 wr) (fun _ i _ => n - (intOf i).toNat)
     case atStart => exact ⟨0, none, 0, [], false, at0, Nat.zero_le _, rfl, rfl, HI.out, fun x hx => absurd hx List.not_mem_nil, Nat.le_refl _, hat1.1, hat1.2.1, hat1.2.2, by show (false, (if off < d then d else off), []) = _; rw [HAT.out]; rfl⟩
     case round =>
       clear HI HAT hat1
       obtain ⟨k, A1, c1, l, pu, at_, hk, rfl, rfl, hI, hDO, hll, ha1, ha2, ha3, hpf⟩ := hrel
       have HI := Lib.hid hI
       have HDO := Lib.hid hDO
       have HPF := Lib.hid hpf
       clear hI hDO hpf
       by_cases hlt : k < n
       · obtain ⟨b, o_, hA, hcell⟩ := (HP.out.below HI.out.b).at_ (by rw [HN.out]; omega)
         subst hA
         obtain ⟨c0, c1'⟩ := hcell k (by rw [HN.out]; exact hlt)
         have hgk := HH.out k (by rw [List.length_map, HN.out]; exact hlt)
         have hge := HH.out.le k (by rw [List.length_map, HN.out]; exact hk)
         have hmem := getD_mem (l := ps) (k := k) (by rw [HN.out]; exact hlt)
         have HXR := Lib.hid (HP.out.2 _ hmem)
         have hx4 := HPS.out _ hmem
         have HSN := Lib.hid (take_snoc (l := ps) (k := k) (by rw [HN.out]; exact hlt))
         rw [pl_getD] at hgk
         clear hcell hmem
         generalize ps.getD k pdn = p at *
         obtain ⟨po, pD, pc, pd⟩ := p
         simp only [PD.pl] at c0 c1' hgk hx4
         obtain ⟨pl, hpl⟩ : ∃ pl, pd.length = pl := ⟨_, rfl⟩
         rw [hpl] at c1' hgk hx4
         have HPL := Lib.hid hpl
         obtain ⟨g1, g2, g3, g4⟩ := hgk
         have hpo : 0 ≤ po := by omega
         clear g2 g3 hge hpl
         have hk0 : (0 : Int) ≤ (k : Int) := by omega
         have hk1 : (k : Int) < (n : Int) := by omega
         have HROWR := Lib.hid HI.out.row
         go_upto_region 19 with (fail)
         refine wp_world (fun w' => PInv w _ off (.slice D dn dc) gL at_ A1 c1 l w' ∧ Blk w' wr.heap.size 68 #[.int .i64 po, .slice pD pl pc] ∧ wr.heap.size < w'.heap.size) ⟨HI.out.alloc _, Blk.new _ _ _, by simp⟩ ?_
         have hgr2 := HI.out.sz
         clear HI c0 c1'
         rintro w4 ⟨hI, hT, hw4⟩
         have FT := hT.two
         have FS := hI.s.facts1
         have FA := hI.t.facts1
         have HI := Lib.hid hI
         have HT := Lib.hid hT
         clear hI hT
         go_cut [91] (fun s91 wx => s91 = .bool (!pu && decide (at_ ≤ po)) ∧ PInv w #[.int .i64 d, .slice (some ⟨b, o_, none⟩) n c, .int .i64 f, .int .i64 win] off (.slice D dn dc) gL at_ A1 c1 l wx ∧ Blk wx wr.heap.size 68 #[.int .i64 po, .slice pD pl pc] ∧ wr.heap.size < wx.heap.size)
         case first =>
           cases pu
           · by_cases hap : at_ ≤ po
             · go_wp2_with fail
               go_meet
               exact ⟨by simp [hap], HI.out, HT.out, hw4⟩
             · go_wp2_with fail
               go_meet
               exact ⟨by simp [hap], HI.out, HT.out, hw4⟩
           · go_wp2_with fail
             go_meet
             exact ⟨by simp, HI.out, HT.out, hw4⟩
         case rest =>
           obtain ⟨rfl, hI, hT, hw5⟩ := hcut
           clear HI HT FT FS FA hw4
           have FT := hT.two
           have FA := hI.t.facts1
           have HI := Lib.hid hI
           have HT := Lib.hid hT
           have hrow := hI.row
           have HROW := Lib.hid hrow
           have hlo := hI.lo
           have hsz := hI.sz
           clear hI hT hrow
           refine (show ∀ (a : Act) (w : World), Code.wp _ _ _ a w → _ from by assumption) _ _ ?_
           go_cut [] (fun wx => ∃ (A2 : Option Addr) (c2 : Nat) (l2 : List PD), PInv w #[.int .i64 d, .slice (some ⟨b, o_, none⟩) n c, .int .i64 f, .int .i64 win] off (.slice D dn dc) gL at_ A2 c2 l2 wx ∧ Blk wx wr.heap.size 68 #[.int .i64 po, .slice pD pl pc] ∧ DataOk w l2 ∧ l2.length ≤ l.length + 1 ∧ l2.map PD.pl = (if pu = false ∧ at_ ≤ po then l.map PD.pl ++ pieceP data off at_ (if last < po then last else po) else l.map PD.pl))
           case first =>
             by_cases hc : pu = false ∧ at_ ≤ po
             · obtain ⟨rfl, hap⟩ := hc
               have hbb : (!false && decide (at_ ≤ po)) = true := by simp [hap]
               rw [hbb]
               obtain ⟨T0, hT0⟩ : ∃ T0, (if last < po then last else po) = T0 := ⟨_, rfl⟩
               have hT1 : T0 ≤ last := by rw [← hT0]; split <;> omega
               have HT0 := Lib.hid hT0
               go_wp2_with fail
               by_cases hat : at_ < T0
               · obtain ⟨i, hi⟩ : ∃ i : Nat, at_ - off = (i : Int) := ⟨(at_ - off).toNat, by omega⟩
                 obtain ⟨j, hj⟩ : ∃ j : Nat, T0 - off = (j : Int) := ⟨(T0 - off).toNat, by omega⟩
                 have hlast' := HLA.out
                 obtain ⟨bD, oD, hDe, _⟩ := HD.out.cell (by rw [HDN.out]; omega)
                 subst hDe
                 have hcutr : RdB w (some ⟨bD, oD + i, none⟩) ((data.drop i).take (j - i)) := by
                   have h1 := (HD.out.cut (k := i) (cap := dc) (by rw [HDN.out]; omega) (by rw [HDN.out]; exact hdc)).front (k := j - i) (by rw [List.length_drop, HDN.out]; omega)
                   rw [if_neg (by omega)] at h1
                   simpa [add_none] using h1
                 have HCR := Lib.hid hcutr
                 have hcl : ((data.drop i).take (j - i)).length = j - i := by rw [List.length_take, List.length_drop, HDN.out]; omega
                 refine (gPiece_any T0 at_ off (gL + 1) gL (w.heap.size + 1 + 1) (w.heap.size + 1) (gL + 2) A1 l.length c1 l bD oD dn dc data i j (l.length + 1) wc rfl (by omega) HDN.out hdc hdm hi hj (by omega) (by omega) rfl hat HI.out.t HI.out.s HI.out.d HI.out.o (by omega) (by omega) (by omega) (by omega) (by omega) (by omega) (by omega) hsz HI.out.own).mono ?_
                 rintro e w6 ⟨g6, c6, rfl, hB6, hO6, hat6, hsp6, hz6, hb6⟩
                 have hI6 := HI.out.more hsp6 hB6 (by rw [List.length_append]; rfl) hO6 hz6 hb6
                 have hT6 : Blk w6 wr.heap.size 68 #[.int .i64 po, .slice pD pl pc] := (hsp6 _ hw5 (by omega) (fun e => by have := (HROWR.out _ e.symm).2; omega)).trans HT.out
                 go_wp2_with fail
                 go_meet
                 refine ⟨_, _, _, hI6, hT6, ?_, by rw [List.length_append]; exact Nat.le_refl _, ?_⟩
                 · exact HDO.out.snoc ⟨⟨HCR.out, by simp only [hcl]; omega, by simp only; omega⟩, ha2, ha3, by simp only [hcl]; omega, by simp only [hcl]; omega⟩
                 · rw [if_pos ⟨trivial, hap⟩, HT0.out, List.map_append]
                   unfold pieceP
                   rw [if_pos hat, hi, show (T0 - at_).toNat = j - i from by omega]
                   rfl
               · refine (gPiece_none T0 at_ (gL + 1) _ _ _ wc FA.2.1 (by omega)).mono ?_
                 rintro e w6 ⟨rfl, rfl⟩
                 go_wp2_with fail
                 go_meet
                 refine ⟨A1, c1, l, HI.out, HT.out, HDO.out, by omega, ?_⟩
                 rw [if_pos ⟨trivial, hap⟩, HT0.out]
                 unfold pieceP
                 rw [if_neg (show ¬ at_ < T0 by omega), List.append_nil]
             · have hbb : (!pu && decide (at_ ≤ po)) = false := by
                 cases pu
                 · simp at hc ⊢; omega
                 · rfl
               rw [hbb]
               go_wp2_with fail
               go_meet
               exact ⟨A1, c1, l, HI.out, HT.out, HDO.out, by omega, by rw [if_neg hc]⟩
           case rest =>
             obtain ⟨A2, c2, l2, hI, hT, hDO2, hl2, hmap⟩ := hcut
             clear HI HT FT FA HROW
             have FT := hT.two
             have FA := hI.t.facts1
             have FS := hI.s.facts1
             have HI := Lib.hid hI
             have HMAP := Lib.hid hmap
             have HDO2 := Lib.hid hDO2
             have hsz2 := hI.sz
             have hl9 : l2.length ≤ 9 := by omega
             clear hI hT hmap hDO2
             refine (show ∀ (a : Act) (w : World), Code.wp _ _ _ a w → _ from by assumption) _ _ ?_
             go_upto_region 23 with (at_builtin; refine wpList_addP rfl (.tmp 104) (.tmp 106) rfl (gL + 2) A2 l2.length c2 l2 rfl rfl (HI.out.own.alloc _) ⟨po, pD, pc, pd⟩ _ _ rfl (rd_pdl _ ⟨po, pD, pc, pd⟩ pl HPL.out) (l2.length + 1) rfl (by omega) (by simp; omega) ?_; intro g6 c6 w6 hO6 hcap6 hcm6 hb6 hgr6 hat6; have hc6 := cell_under hb6; have hf6 := frozen_under hb6; have q1 := hc6 gL 0 (by omega); have q2 := hf6 gL 0 (by omega))
             refine wp_world (fun w' => PInv w #[.int .i64 d, .slice (some ⟨b, o_, none⟩) n c, .int .i64 f, .int .i64 win] off (.slice D dn dc) gL at_ (some ⟨g6, 0, none⟩) c6 (l2 ++ [⟨po, pD, pc, pd⟩]) w') (HI.out.append hO6 rfl hb6 hgr6) ?_
             clear HI FT FA FS hO6 hcap6 hcm6 hb6 hgr6 hat6 hc6 hf6 q1 q2
             rintro w7 hI
             have FA := hI.t.facts1
             have HI := Lib.hid hI
             clear hI
             have HDO3 := Lib.hid (HDO2.out.snoc (x := ⟨po, pD, pc, pd⟩) ⟨HXR.out, hpo, (show po ≤ 4611686018427387903 by omega), by simp only [HPL.out]; omega, by simp only [HPL.out]; omega⟩)
             have HSTEP := fun at' ha => putStep_eq data off last at_ po pu pd pl (l.map PD.pl) (l2.map PD.pl) HPL.out HMAP.out at' ha
             have HST := Lib.hid HSTEP
             clear HSTEP
             by_cases hst : at_ < po + (pl : Int)
             · have hat9 : po + (pl : Int) = (if at_ < po + (pl : Int) then po + (pl : Int) else at_) := by rw [if_pos hst]
               have HAT9 := Lib.hid hat9
               clear hat9
               cases pu
               all_goals
                 go_wp2_with fail
                 go_roundw
                 case rel => exact ⟨k + 1, some ⟨g6, 0, none⟩, c6, l2 ++ [⟨po, pD, pc, pd⟩], _, po + (pl : Int), by omega, by go_num, rfl, HI.out.setAt _, HDO3.out, by rw [List.length_append]; simp; omega, by omega, by omega, by omega, by rw [← List.map_take, HSN.out, putFold_snoc, List.map_take, HPF.out, List.map_append]; exact HST.out _ HAT9.out⟩
                 case measure => simp [intOf]; omega
             · have hat9 : at_ = (if at_ < po + (pl : Int) then po + (pl : Int) else at_) := by rw [if_neg hst]
               have HAT9 := Lib.hid hat9
               clear hat9
               cases pu
               all_goals
                 go_wp2_with fail
                 go_roundw
                 case rel => exact ⟨k + 1, some ⟨g6, 0, none⟩, c6, l2 ++ [⟨po, pD, pc, pd⟩], _, at_, by omega, by go_num, rfl, HI.out, HDO3.out, by rw [List.length_append]; simp; omega, by omega, by omega, by omega, by rw [← List.map_take, HSN.out, putFold_snoc, List.map_take, HPF.out, List.map_append]; exact HST.out _ HAT9.out⟩
                 case measure => simp [intOf]; omega
       · obtain rfl : k = n := by omega
         have hpn : putFold data off last d (ps.map PD.pl) = (pu, at_, l.map PD.pl) := by rw [← HPF.out, List.take_of_length_le (by rw [List.length_map, HN.out]; exact Nat.le_refl _)]
         have HPN := Lib.hid hpn
         clear hpn HPF
         have FA := HI.out.t.facts1
         have FG := HI.out.g.facts4
         have hlo := HI.out.lo
         have hsz := HI.out.sz
         go_upto_region 27 with (fail)
         go_cut [] (fun wx => ∃ (A2 : Option Addr) (c2 : Nat) (l2 : List PD), PInv w #[.int .i64 d, .slice A k c, .int .i64 f, .int .i64 win] off (.slice D dn dc) gL at_ A2 c2 l2 wx ∧ DataOk w l2 ∧ l2.length ≤ l.length + 1 ∧ l2.map PD.pl = l.map PD.pl ++ pieceP data off at_ last)
         case first =>
           go_wp2_with fail
           by_cases hat : at_ < last
           · obtain ⟨i, hi⟩ : ∃ i : Nat, at_ - off = (i : Int) := ⟨(at_ - off).toNat, by omega⟩
             obtain ⟨j, hj⟩ : ∃ j : Nat, last - off = (j : Int) := ⟨(last - off).toNat, by omega⟩
             have hlast' := HLA.out
             obtain ⟨bD, oD, hDe, _⟩ := HD.out.cell (by rw [HDN.out]; omega)
             subst hDe
             have hcutr : RdB w (some ⟨bD, oD + i, none⟩) ((data.drop i).take (j - i)) := by
               have h1 := (HD.out.cut (k := i) (cap := dc) (by rw [HDN.out]; omega) (by rw [HDN.out]; exact hdc)).front (k := j - i) (by rw [List.length_drop, HDN.out]; omega)
               rw [if_neg (by omega)] at h1
               simpa [add_none] using h1
             have HCR := Lib.hid hcutr
             have hcl : ((data.drop i).take (j - i)).length = j - i := by rw [List.length_take, List.length_drop, HDN.out]; omega
             refine (gPiece_any last at_ off (gL + 1) gL (w.heap.size + 1 + 1) (w.heap.size + 1) (gL + 2) A1 l.length c1 l bD oD dn dc data i j (l.length + 1) _ rfl (by omega) HDN.out hdc hdm hi hj (by omega) (by omega) rfl hat HI.out.t HI.out.s HI.out.d HI.out.o (by omega) (by omega) (by omega) (by omega) (by omega) (by omega) (by omega) hsz HI.out.own).mono ?_
             rintro e w6 ⟨g6, c6, rfl, hB6, hO6, hat6, hsp6, hz6, hb6⟩
             have hI6 := HI.out.more hsp6 hB6 (by rw [List.length_append]; rfl) hO6 hz6 hb6
             go_wp2_with fail
             go_meet
             refine ⟨_, _, _, hI6, ?_, by rw [List.length_append]; exact Nat.le_refl _, ?_⟩
             · exact HDO.out.snoc ⟨⟨HCR.out, by simp only [hcl]; omega, by simp only; omega⟩, ha2, ha3, by simp only [hcl]; omega, by simp only [hcl]; omega⟩
             · rw [List.map_append]
               unfold pieceP
               rw [if_pos hat, hi, show (last - at_).toNat = j - i from by omega]
               rfl
           · refine (gPiece_none last at_ (gL + 1) _ _ _ _ FA.2.1 (by omega)).mono ?_
             rintro e w6 ⟨rfl, rfl⟩
             go_wp2_with fail
             go_meet
             refine ⟨A1, c1, l, HI.out, HDO.out, by omega, ?_⟩
             unfold pieceP
             rw [if_neg (show ¬ at_ < last by omega), List.append_nil]
         case rest =>
           obtain ⟨A2, c2, l2, hI, hDO2, hl2, hmap⟩ := hcut
           clear FA FG HI
           have hpl2 : l2.map PD.pl = putL data off d (ps.map PD.pl) := by
             unfold putL
             rw [HDN.out, HLA.out, HPN.out]
             exact hmap
           have HPL2 := Lib.hid hpl2
           have FS := hI.s.facts1
           have FG := hI.g.facts4
           have HI := Lib.hid hI
           have HDO2 := Lib.hid hDO2
           have hl9 : l2.length ≤ 9 := by omega
           have hrp : RdP _ A2 l2 := ⟨hI.own.rd, fun x hx => ⟨(hDO2 x hx).1.1.below hI.b, (hDO2 x hx).1.2⟩⟩
           have HRP := Lib.hid hrp
           have hcap := hI.own.cap
           have hmg := fun W hW => gMerged_any A2 l2.length c2 l2 rfl hcap.1 hcap.2 (by omega) (fun x hx => ⟨(HDO2.out x hx).2.1, (HDO2.out x hx).2.2.1⟩) (by have := HDO2.out.psz; omega) (fun x hx => (HDO2.out x hx).2.2.2.1) W hW
           have HMG := Lib.hid hmg
           clear hI hmap hpl2 hDO2 hrp hmg hcap
           refine (show ∀ (a : Act) (w : World), Code.wp _ _ _ a w → _ from by assumption) _ _ ?_
           go_wp2_with fail
           refine (HMG.out _ HRP.out).mono ?_
           rintro e w8 ⟨A8, m8, c8, o8, rfl, ho8, hm8, hmc8, hcm8, hO8, hPD8, hmap8, hb8⟩
           have hI8 := HI.out.carry hb8
           have FG8 := hI8.g.facts4
           have hbase : w.heap.size < _ := Nat.lt_of_lt_of_le hI8.g.lt (Nat.le_refl _)
           have hbig : w.heap.size + 1 + 1 + 1 < gL := hlo
           have HI8 := Lib.hid hI8
           have HO8 := Lib.hid hO8
           have HPD8 := Lib.hid hPD8
           have hsz7 := HI.out.sz
           have hm10 : m8 ≤ 10 := by omega
           clear FS FG HMG HRP HI hI8 hO8 hPD8 hb8
           go_upto_region 29 with (fail)
           refine wp_world (fun w' => Blk w' w.heap.size 47 #[.int .i64 d, .slice A8 m8 c8, .int .i64 f, .int .i64 win] ∧ Blk w' (w.heap.size + 1 + 1 + 1) 47 #[.int .i64 0, .slice none 0 0, .int .i64 0, .int .i64 0] ∧ OwnX pdc 2 w' (gL + 2) 68 A8 c8 o8 ∧ PDs w' (gL + 2) (A8.map (fun y : Addr => y.block)) o8 ∧ Below w.heap.size w w')
             ⟨HI8.out.g.set_ 1 _, HI8.out.z.far (by simp; omega) _, (HO8.out.mono hsz7).set_below (by simp; omega) _, (HPD8.out.lower hsz7).setBelow (by simp; omega) _, HI8.out.b.setCell (by simp) _⟩ ?_
           clear FG8 HI8 HO8 HPD8
           rintro w9 ⟨hG, hZ, hO9, hPD9, hb9⟩
           have FG := hG.facts4
           have FZ := hZ.facts4
           have HG := Lib.hid hG
           have HZ := Lib.hid hZ
           have HO9 := Lib.hid hO9
           have HPD9 := Lib.hid hPD9
           have HB9 := Lib.hid hb9
           have hlen8 : (mergeP (putL data off d (ps.map PD.pl))).length = m8 := by rw [← HPL2.out, ← hmap8, List.length_map]; exact ho8
           have HLEN8 := Lib.hid hlen8
           have HMAP8 := Lib.hid hmap8
           clear hG hZ hO9 hPD9 hb9 hlen8 hmap8
           by_cases hm4 : 4 < m8
           · have em : (4 : Int) < (m8 : Int) := by omega
             go_wp2_with fail
             refine bodyPost_ret (v := .tuple #[.agg #[.int .i64 0, .slice none 0 0, .int .i64 0, .int .i64 0], .int .i64 8]) ?_ rfl ⟨fun h => by rw [HLEN8.out] at h; omega, fun _ => rfl, ?_⟩
             · simp [results, Try.results25, go_sem, FZ] <;> rfl
             · have hb := HB9.out
               (repeat (first | with_reducible exact hb | with_reducible refine Below.drew ?_ | (with_reducible refine Below.set4 ?_ ?side _ _ _ _; case side => (first | omega | (simp; omega) | (simp; done))) | (with_reducible refine Below.setCell ?_ ?side _; case side => (first | omega | (simp; omega) | (simp; done))) | (with_reducible refine Below.alloc ?_ ?side _; case side => (first | omega | (simp; omega) | (simp; done)))))
           · have em : (m8 : Int) ≤ 4 := by omega
             have fin1 : OwnX pdc 2 w9 (gL + 2) 68 A8 c8 o8 := HO9.out
             clear fin1
             cases fin
             · go_wp2_with fail
               refine bodyPost_ret (v := .tuple #[.agg #[.int .i64 d, .slice A8 m8 c8, .int .i64 f, .int .i64 win], .int .i64 0]) ?_ rfl ⟨fun _ => ⟨A8, m8, c8, o8, rfl, ho8, hmc8, hcm8, (OwnX.mono (?_ : OwnX pdc 2 _ (gL + 2) 68 A8 c8 o8) (by omega)), (PDs.lower (?_ : PDs _ (gL + 2) (A8.map (fun y : Addr => y.block)) o8) (by omega)), by rw [HMAP8.out, HPL2.out]⟩, fun h => by rw [HLEN8.out] at h; omega, ?_⟩
               · simp [results, Try.results25, go_sem, FZ] <;> rfl
               · have hO := HO9.out
                 (repeat (first | with_reducible exact hO | (with_reducible refine OwnX.set_below ?_ ?side _; case side => (simp; omega))))
               · have hP := HPD9.out
                 (repeat (first | with_reducible exact hP | (with_reducible refine PDs.setBelow ?_ ?side _; case side => (simp; omega))))
               · have hb := HB9.out
                 (repeat (first | with_reducible exact hb | with_reducible refine Below.drew ?_ | (with_reducible refine Below.set4 ?_ ?side _ _ _ _; case side => (first | omega | (simp; omega) | (simp; done))) | (with_reducible refine Below.setCell ?_ ?side _; case side => (first | omega | (simp; omega) | (simp; done))) | (with_reducible refine Below.alloc ?_ ?side _; case side => (first | omega | (simp; omega) | (simp; done)))))
             · go_upto_region 33 with (fail)
               refine wp_world (fun w' => Blk w' w.heap.size 47 #[.int .i64 d, .slice A8 m8 c8, .int .i64 last, .int .i64 win] ∧ Blk w' (w.heap.size + 1 + 1 + 1) 47 #[.int .i64 0, .slice none 0 0, .int .i64 0, .int .i64 0] ∧ OwnX pdc 2 w' (gL + 2) 68 A8 c8 o8 ∧ PDs w' (gL + 2) (A8.map (fun y : Addr => y.block)) o8 ∧ Below w.heap.size w w')
                 ⟨HG.out.set_ 2 _, HZ.out.far (by simp; omega) _, HO9.out.set_below (by simp; omega) _, HPD9.out.setBelow (by simp; omega) _, HB9.out.setCell (by simp) _⟩ ?_
               clear FG FZ HG HZ HO9 HPD9 HB9
               rintro wa ⟨hG, hZ, hO9, hPD9, hb9⟩
               have FG := hG.facts4
               have FZ := hZ.facts4
               have HO9 := Lib.hid hO9
               have HPD9 := Lib.hid hPD9
               clear hO9 hPD9
               go_wp2_with fail
               refine bodyPost_ret (v := .tuple #[.agg #[.int .i64 d, .slice A8 m8 c8, .int .i64 last, .int .i64 win], .int .i64 0]) ?_ rfl ⟨fun _ => ⟨A8, m8, c8, o8, rfl, ho8, hmc8, hcm8, (OwnX.mono (?_ : OwnX pdc 2 _ (gL + 2) 68 A8 c8 o8) (by omega)), (PDs.lower (?_ : PDs _ (gL + 2) (A8.map (fun y : Addr => y.block)) o8) (by omega)), by rw [HMAP8.out, HPL2.out]⟩, fun h => by rw [HLEN8.out] at h; omega, ?_⟩
               · simp [results, Try.results25, go_sem, FZ] <;> rfl
               · have hO := HO9.out
                 (repeat (first | with_reducible exact hO | (with_reducible refine OwnX.set_below ?_ ?side _; case side => (simp; omega))))
               · have hP := HPD9.out
                 (repeat (first | with_reducible exact hP | (with_reducible refine PDs.setBelow ?_ ?side _; case side => (simp; omega))))
               · (repeat (first | with_reducible exact hb9 | with_reducible refine Below.drew ?_ | (with_reducible refine Below.set4 ?_ ?side _ _ _ _; case side => (first | omega | (simp; omega) | (simp; done))) | (with_reducible refine Below.setCell ?_ ?side _; case side => (first | omega | (simp; omega) | (simp; done))) | (with_reducible refine Below.alloc ?_ ?side _; case side => (first | omega | (simp; omega) | (simp; done)))))
end Go.Proofs.Ytolhlgalhhdkmab
