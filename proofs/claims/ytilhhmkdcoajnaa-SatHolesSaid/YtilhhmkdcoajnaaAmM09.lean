/- The solver in plain Lean: what holds of its clauses and its trail, through propagate, back, guess; conditions: none. -/
import Derived.Test.YtilhhmkdcoajnaaAmM08
import Derived.Test.YtilhhmkdcoajnaaAmM05
import Derived.Test.YtilhhmkdcoajnaaAmM04
set_option linter.unusedVariables false
set_option linter.unusedSimpArgs false
set_option maxRecDepth 16000
namespace Go.Proofs.Ytilhhmkdcoajnaa.Am
open Go Go.Proofs
noncomputable section
def I7(tr:List Int)(t:Nat)(ls:List Int):Prop:=(∃y∈ls,y∈tr.take t)∨∃y∈ls,∃z∈ls,y≠z∧-y ∉ tr.take t∧-z ∉ tr.take t
theorem I7.perm{tr:List Int}{t:Nat}{ls ls':List Int}(h:I7 tr t ls)(hp:ls'.Perm ls):I7 tr t ls':=by
 rcases h with⟨y,h1,h2⟩ | ⟨y,h1,z,h2,h3⟩
 ·exact .inl ⟨y,hp.mem_iff.2 h1,h2⟩
 ·exact .inr ⟨y,hp.mem_iff.2 h1,z,hp.mem_iff.2 h2,h3⟩
theorem I7.take{tr tr':List Int}{t:Nat}{ls:List Int}(h:I7 tr t ls)(e:tr'.take t=tr.take t):I7 tr' t ls:=by
 unfold I7
 rw[e]
 exact h
def BQ(σ:Nat→Bool)(F:List (List Int)):Prop:=∀f∈F,∃y∈f,Ew σ y
structure CI(n:Nat)(F:List (List Int))(h:Nat)(v:Sv):Prop where
 ct:CT n v
 cw:CW v h []
 hb:h≤v.trail.length
 lh:∀x∈v.limits,x≤(h:Int)
 unit:∀c ls b,v.cl c=some (ls,b)→ls.length=1→ls.getD 0 0∈v.trail∧lv v (ls.getD 0 0)=0
 i7:∀ (j:Nat) (t:Int),v.limits[j]? = some t→∀c ls b,v.cl c=some (ls,b)→I7 v.trail t.toNat ls
 imp:∀σ,BQ σ F→Db v.cl σ
 cover:∀f∈F,(∃y∈f,-y∈f)∨∃c ls b,v.cl c=some (ls,b)∧∀y∈ls,y∈f
 phase:DG n v
theorem Db.same{a b:Nat→Option A5}(h:Bu a b){σ:Nat→Bool}(k:Db a σ):Db b σ:=fun c ls t hc=>by
 obtain⟨ls',h1,h2⟩:=h.back hc
 obtain⟨y,q1,q2⟩:=k c ls' t h1
 exact⟨y,h2.mem_iff.2 q1,q2⟩
theorem CI.of{n h:Nat}{F:List (List Int)}{v v':Sv}(k:CI n F h v)(hi:Aw n v')(h1:v'.trail=v.trail)(h2:v'.limits=v.limits)(h3:v'.level=v.level)(h4:v'.why=v.why)(h5:v'.cl=v.cl)(h6:v'.watches=v.watches)(h7:v'.phase=v.phase):CI n F h v':=by
 refine⟨k.ct.of hi h1 h2 h3 h4 h5,⟨?_,?_,?_,?_⟩,by rw[h1];exact k.hb,by rw[h2];exact k.lh,?_,?_,by rw[h5];exact k.imp,by rw[h5];exact k.cover,by unfold DG;rw[h7];exact k.phase⟩
 ·rw[h5,h6];exact k.cw.wat
 ·rw[h5,h6];exact k.cw.wcl
 ·rw[h6];exact k.cw.wnd
 ·unfold GT lv;rw[h1,h3,h5];exact k.cw.wok
 ·unfold lv;rw[h1,h3,h5];exact k.unit
 ·rw[h1,h2,h5];exact k.i7
theorem CI.prog{n h h':Nat}{F:List (List Int)}{v v':Sv}(k:CI n F h v)(p:Et v v')(hc:CT n v')(hw:CW v' h' [])(hb:h'≤v'.trail.length)(hl:∀x∈v.limits,x≤(h':Int)):CI n F h' v':=by
  obtain⟨T,eT⟩:=p.tr
  refine⟨hc,hw,hb,by rw[p.limits];exact hl,fun c ls b q hlen=>?_,fun j t ht c ls b q=>?_,fun σ hσ=>(k.imp σ hσ).same p.cl,fun f hf=>?_,by unfold DG;rw[p.phase];exact k.phase⟩
  · obtain⟨ls',q1,q2⟩:=p.cl.back q
    have hl':ls'.length=1:=by rw[← q2.length_eq];exact hlen
    have e:ls=ls':=by
      obtain⟨x,rfl⟩:=List.length_eq_one_iff.1 hl'
      obtain⟨y,rfl⟩:=List.length_eq_one_iff.1 hlen
      have:y∈[x]:=q2.mem_iff.1 (List.mem_singleton.2 rfl)
      rw[List.mem_singleton.1 this]
    subst e
    obtain⟨g1,g2⟩:=k.unit c ls b q1 hlen
    exact⟨p.mem g1,by rw[p.lev _ (.inl g1)];exact g2⟩
  · obtain⟨ls',q1,q2⟩:=p.cl.back q
    rw[p.limits]at ht
    have:=k.ct.below t (kq ht)
    refine((k.i7 j t ht c ls' b q1).perm q2).take ?_
    rw[eT,lV (by omega)]
  · rcases k.cover f hf with q | ⟨c, ls, b, q1, q2⟩
    · exact .inl q
    · obtain⟨ls',r1,r2⟩:=(p.cl c).2 ls b q1
      exact .inr ⟨c,ls',b,r1,fun y hy=>q2 y (r2.mem_iff.1 hy)⟩
theorem CI.back {n h : Nat} {F : List (List Int)} {v : Sv} (k : CI n F h v) {j : Nat} {t : Int} (ht : v.limits[j]? = some t) : CI n F t.toNat (AW    v j) ∧ (AW    v j).trail = v.trail.take t.toNat ∧ (AW    v j).limits = v.limits.take j ∧ (AW    v j).head = t := by
  obtain⟨b1,b2,b3,b4,b5⟩:=k.ct.back ht
  have htm:=kq ht
  have ht0:=k.ct.lim t htm
  have htl:=k.ct.below t htm
  have hth:=k.lh t htm
  have hlt:(v.trail.take t.toNat).length=t.toNat:=by rw[lI];omega
  obtain⟨ph,va,wh,tr,li,hd,e,_⟩:=Bm v j
  have ecl:(AW v j).cl=v.cl:=by rw[e]
  have ewa:(AW v j).watches=v.watches:=by rw[e]
  have elv:(AW v j).level=v.level:=by rw[e]
  have low:∀ {x:Int},x∈v.trail→lv v x≤(j:Int)→x∈v.trail.take t.toNat:=by
    intro x hx hl
    obtain⟨i,hi⟩:=DS.1 hx
    have hli:lv v x=(HY v.limits i:Int):=k.ct.lev i x hi
    refine B4.2 ⟨i,?_,hi⟩
    rcases ks i t.toNat with q | q
    · exact q
    · have:=Nb k.ct.sorted ht (i:=i) (by omega)
      omega
  have high:∀ {x:Int},x∈v.trail.take t.toNat→lv v x≤(j:Int):=by
    intro x hx
    obtain⟨i,hi,ei⟩:=B4.1 hx
    have hli:lv v x=(HY v.limits i:Int):=k.ct.lev i x ei
    have:=(LF k.ct.sorted ht (i:=i) (by omega)).2
    omega
  refine⟨⟨b1,⟨?_,?_,?_,?_⟩,?_,?_,?_,?_,?_,?_,b5 k.phase⟩,b2,b3,b4⟩
  · rw[ecl,ewa];exact k.cw.wat
  · rw[ecl,ewa];exact k.cw.wcl
  · rw[ewa];exact k.cw.wnd
  · intro c ls b hc h2
    rw[ecl]at hc
    have hok:GT v t.toNat ls:=((k.cw.wok c ls b hc h2).2 (by simp)).mono (by omega)
    have:GT (AW v j) t.toNat ls:=by
      unfold GT lv
      rw[b2,elv,mW,Nat.min_self]
      refine⟨fun q=>?_,fun q=>?_⟩
      · obtain⟨r1,r2⟩:=hok.1 q
        have:=high q
        rw[DR]at this
        exact⟨low r1 (by omega),r2⟩
      · obtain⟨r1,r2⟩:=hok.2 q
        have:=high q
        rw[DR]at this
        exact⟨low r1 (by omega),r2⟩
    exact⟨this.mono (by omega),fun _=>this⟩
  · rw[b2,hlt];exact kp _
  · rw[b3]
    intro x hx
    have:=(CR k.ct.sorted ht).1 x hx
    omega
  · intro c ls b hc hl
    rw[ecl]at hc
    obtain⟨g1,g2⟩:=k.unit c ls b hc hl
    unfold lv
    rw[b2,elv]
    exact⟨low g1 (by omega),g2⟩
  · intro i s hs c ls b hc
    rw[b3]at hs
    rw[ecl]at hc
    have hil:=Af hs
    have hij:i<j:=by rw[lI]at hil;omega
    have hs':v.limits[i]? = some s:=by rw[lk hij]at hs;exact hs
    have hst:=(CR k.ct.sorted ht).1 s (B4.2 ⟨i,hij,hs'⟩)
    have hs0:=k.ct.lim s (kq hs')
    refine(k.i7 i s hs' c ls b hc).take ?_
    rw[b2,mW,mT (by omega)]
  · rw[ecl];exact k.imp
  · rw[ecl];exact k.cover
theorem CW.assign{n h:Nat}{v:Sv}{X:List Nat}(hi:Aw n v)(k:CW v h X)(hh:h≤v.trail.length){x:Int}(ho:v.value.getD x.natAbs 0=0)(w:Option Nat):CW (BF v x w) h X:=by
 have habs:∀ {y:Int},(y∈v.trail∨-y∈v.trail)→y.natAbs≠x.natAbs:=by
  rintro y (hy | hy)
  ·exact hi.abs_ne ho hy
  ·have:=hi.abs_ne ho hy
   rw[lJ]at this
   exact this
 have hlev:∀ {y:Int},(y∈v.trail∨-y∈v.trail)→lv (BF v x w) y=lv v y:=fun hy=>by
  show(v.level.set _ _).getD _ 0=_
  rw[getD_set_ne (habs hy)]
 have htk:∀hh',hh'≤h→(v.trail++[x]).take hh'=v.trail.take hh':=fun hh' hhh=>lV (by omega)
 have hoth:∀ (ms:List Int) hh',hh'≤h→GT v hh' ms→GT (BF v x w) hh' ms:=by
  intro ms hh' hhh hok
  refine⟨fun q=>?_,fun q=>?_⟩
  ·have q:-(ms.getD 0 0)∈(v.trail++[x]).take hh':=q
   rw[htk hh' hhh]at q
   obtain⟨k1,k2⟩:=hok.1 q
   refine⟨lE _ k1,?_⟩
   rw[hlev (.inl k1),hlev (.inr (lS q))]
   exact k2
  ·have q:-(ms.getD 1 0)∈(v.trail++[x]).take hh':=q
   rw[htk hh' hhh]at q
   obtain⟨k1,k2⟩:=hok.2 q
   refine⟨lE _ k1,?_⟩
   rw[hlev (.inl k1),hlev (.inr (lS q))]
   exact k2
 exact⟨k.wat,k.wcl,k.wnd,fun c ls b hc h2=>⟨hoth ls _ (by omega) (k.wok c ls b hc h2).1,fun hx=>hoth ls _ (kp _) ((k.wok c ls b hc h2).2 hx)⟩⟩
theorem CI.guess {n : Nat} {F : List (List Int)} {v : Sv} (k : CI n F v.trail.length v) {b : Nat} (h1 : 1 ≤ b) (hb : b ≤ n) (ho : v.value.getD b 0 = 0) : CI n F v.trail.length (Cg     v b) ∧ (Cg     v b).trail.length = v.trail.length + 1 := by
  have hph:=k.phase b h1 hb
  have hV:VL n ((b:Int) * v.phase.getD b 0):=by rcases hph with e | e<;>rw[e]<;>constructor<;>omega
  have hab:((b:Int) * v.phase.getD b 0).natAbs=b:=by rcases hph with e | e<;>rw[e]<;>omega
  have ho':v.value.getD ((b:Int) * v.phase.getD b 0).natAbs 0=0:=by rw[hab];exact ho
  have hct:=k.ct.guess hV ho'
  have hi:=k.ct.inv
  have hgt:(Cg v b).trail.length=v.trail.length+1:=by
    show(v.trail++[_]).length=_
    rw[kr];rfl
  refine⟨⟨hct,?_,by rw[hgt];omega,?_,?_,?_,k.imp,k.cover,k.phase⟩,hgt⟩
  · have := k.cw.assign hi (kp          _) ho' none
    exact ⟨this.wat, this.wcl, this.wnd, fun c ls b' hc h2 => by
      obtain⟨r1,r2⟩:=this.wok c ls b' hc h2
      have conv:∀hh,hh≤v.trail.length→GT v hh ls→GT (Cg v b) hh ls:=by
        intro hh hhh hok
        have habs:∀ {y:Int},(y∈v.trail∨-y∈v.trail)→y.natAbs≠((b:Int) * v.phase.getD b 0).natAbs:=by
          rintro y (hy | hy)
          · exact hi.abs_ne ho' hy
          · have:=hi.abs_ne ho' hy
            rw[lJ]at this
            exact this
        have hlev:∀ {y:Int},(y∈v.trail∨-y∈v.trail)→lv (Cg v b) y=lv v y:=fun hy=>by
          show(v.level.set _ _).getD _ 0=_
          rw[getD_set_ne (habs hy)]
        have htk:(v.trail++[(b:Int) * v.phase.getD b 0]).take hh=v.trail.take hh:=lV hhh
        refine⟨fun q=>?_,fun q=>?_⟩
        · have q:-(ls.getD 0 0)∈(v.trail++[(b:Int) * v.phase.getD b 0]).take hh:=q
          rw[htk]at q
          obtain⟨k1,k2⟩:=hok.1 q
          refine⟨lE _ k1,?_⟩
          rw[hlev (.inl k1),hlev (.inr (lS q))]
          exact k2
        · have q:-(ls.getD 1 0)∈(v.trail++[(b:Int) * v.phase.getD b 0]).take hh:=q
          rw[htk]at q
          obtain⟨k1,k2⟩:=hok.2 q
          refine⟨lE _ k1,?_⟩
          rw[hlev (.inl k1),hlev (.inr (lS q))]
          exact k2
      obtain⟨q1,q2⟩:=k.cw.wok c ls b' hc h2
      exact⟨conv _ (by omega) q1,fun hx=>conv _ (kp _) (q2 hx)⟩⟩
  · intro x hx
    have hx:x∈v.limits++[(v.trail.length:Int)]:=hx
    rcases List.mem_append.1 hx with q | q
    · exact k.lh x q
    · rw[List.mem_singleton.1 q];omega
  · intro c ls b' hc hl
    obtain⟨g1,g2⟩:=k.unit c ls b' hc hl
    refine⟨lE _ g1,?_⟩
    show(v.level.set _ _).getD _ 0=0
    rw[getD_set_ne (hi.abs_ne ho' g1)]
    exact g2
  · intro j t ht c ls b' hc
    have ht:(v.limits++[(v.trail.length:Int)])[j]? = some t:=ht
    have htk:∀s,s≤v.trail.length→(Cg v b).trail.take s=v.trail.take s:=fun s hs=>lV hs
    rcases Gg ht with⟨q1,q2⟩ | ⟨q1,q2⟩
    · have:=k.ct.below t (kq q2)
      exact(k.i7 j t q2 c ls b' hc).take (htk _ (by omega))
    · subst q2
      have:I7 v.trail v.trail.length ls:=by
        unfold I7
        rw[lz]
        obtain⟨c1,c2,c3,c4⟩:=k.ct.cls c ls b' hc
        by_cases hl1:ls.length=1
        · obtain⟨g1,g2⟩:=k.unit c ls b' hc hl1
          exact .inl ⟨ls.getD 0 0,kq (AQ (by omega)),g1⟩
        · have h2:2≤ls.length:=by
            have:=List.length_pos_iff.2 c2
            omega
          have hok:=(k.cw.wok c ls b' hc h2).2 (by simp)
          unfold GT at hok
          rw[lz]at hok
          have m0:ls.getD 0 0∈ls:=kq (AQ (by omega))
          have m1:ls.getD 1 0∈ls:=kq (AQ (by omega))
          by_cases f0:-(ls.getD 0 0)∈v.trail
          · exact .inl ⟨_,m1,(hok.1 f0).1⟩
          · by_cases f1 : -(ls.getD 1 0) ∈ v.trail
            · exact .inl ⟨_,m0,(hok.2 f1).1⟩
            · refine .inr ⟨_,m0,_,m1,fun e=>?_,f0,f1⟩
              have:=DW c3 (i:=0) (j:=1) (by omega) (by omega) (by rw[e])
              cases this
      have e:((v.trail.length:Int)).toNat=v.trail.length:=by omega
      rw[e]
      exact this.take (htk _ (kp _))
def EW(W:List (List Nat))(c:Nat)(L:List Int):List (List Nat):=if 1<L.length then Ci (Ci W (place (L.getD 0 0)) c) (place (L.getD 1 0)) c else W
def withC(v:Sv)(c:Nat)(L:List Int)(b:Bool×Bool):Sv:={ v with cl:=AP v.cl c (L,b),watches:=EW v.watches c L }
theorem O5(W:List (List Nat))(c:Nat)(L:List Int):(EW W c L).length=W.length:=by
 unfold EW
 split
 ·rw[Cv,Cv]
 ·rfl
theorem Bi{cl:Nat→Option A5}{c d:Nat}{L ms:List Int}{b t:Bool×Bool}(h:AP cl c (L,b) d=some (ms,t)):(d=c∧ms=L∧t=b)∨(d≠c∧cl d=some (ms,t)):=by
 unfold AP at h
 by_cases e:d=c
 ·rw[if_pos e]at h
  injection h with h
  injection h with q1 q2
  exact .inl ⟨e,q1.symm,q2.symm⟩
 ·rw[if_neg e]at h
  exact .inr ⟨e,h⟩
theorem YP{W:List (List Nat)}{c:Nat}{L:List Int}(h2:1<L.length)(h0:place (L.getD 0 0)<W.length)(h1:place (L.getD 1 0)<W.length)(hne:place (L.getD 0 0)≠place (L.getD 1 0))(k:Nat):
  (EW W c L).getD k []=if k=place (L.getD 1 0)∨k=place (L.getD 0 0)then W.getD k []++[c]else W.getD k []:=by
 unfold EW
 rw[if_pos h2,H9 (by rw[Cv];exact h1)]
 by_cases e1:k=place (L.getD 1 0)
 ·rw[if_pos e1,if_pos (.inl e1),H9 h0,if_neg (fun q=>hne q.symm),e1]
 ·rw[if_neg e1,H9 h0]
  by_cases e0:k=place (L.getD 0 0)
  ·rw[if_pos e0,if_pos (.inr e0),e0]
  ·rw[if_neg e0,if_neg (by rintro(q | q);exact e1 q;exact e0 q)]
theorem Aw.watched{n:Nat}{v:Sv}(hi:Aw n v){k d:Nat}(h:d∈v.watches.getD k []):∃ls b,v.cl d=some (ls,b):=by
 rw[lK]at h
 cases hk:v.watches[k]? with
 | none=>rw[hk]at h;cases h
 | some M =>
  rw[hk]at h
  obtain⟨ls,b,q,_⟩:=hi.wc M (kq hk) d h
  exact⟨ls,b,q⟩
theorem CW.put {n h : Nat} {w : Sv} (k : CW w h []) (hwc : ∀ k d, d ∈ w.watches.getD k [] → w.cl d ≠ none) {c : Nat} (hc : w.cl c = none) {L : List Int} (hL : A1    n L) (hne : L ≠ []) (hnd : (L.map Int.natAbs).Nodup) (hwl : w.watches.length = 2 * n + 2) (b : Bool × Bool) (hok : 2 ≤ L.length → GT  w h L) : CW (withC w c L b) h [] := by
  have hcn:∀k,c ∉ w.watches.getD k []:=fun k q=>hwc k c q hc
  have hold:∀ {d:Nat} {ms:List Int} {t:Bool×Bool},w.cl d=some (ms,t)→d≠c:=fun hd e=>by rw[e,hc]at hd;cases hd
  by_cases h2:1<L.length
  · have v0 := hL.get (k := 0) (by omega)
    have v1:=hL.get (k:=1) h2
    have p0:place (L.getD 0 0)<w.watches.length:=by rw[hwl];exact VL.place v0
    have p1:place (L.getD 1 0)<w.watches.length:=by rw[hwl];exact VL.place v1
    have pne:place (L.getD 0 0)≠place (L.getD 1 0):=fun e=>by
      have:=D9 v0.1 v1.1 e
      have:=DW hnd (i:=0) (j:=1) (by omega) (by omega) (by rw[this])
      cases this
    have hg:=YP (c:=c) h2 p0 p1 pne
    refine⟨fun d ms t hd Lr=>?_,fun j d ms t hj hd=>?_,fun j=>?_,fun d ms t hd Lr=>?_⟩
    · show d∈(EW w.watches c L).getD _ []∧d∈(EW w.watches c L).getD _ []
      rcases Bi hd with⟨rfl,rfl,rfl⟩ | ⟨e,q⟩
      · rw[hg,hg,if_pos (.inr rfl),if_pos (.inl rfl)]
        exact⟨by simp,by simp⟩
      · have:=k.wat d ms t q Lr
        rw[hg,hg]
        constructor
        · split
          · exact lE _ this.1
          · exact this.1
        · split
          · exact lE _ this.2
          · exact this.2
    · have hj':d∈(EW w.watches c L).getD j []:=hj
      rw[hg]at hj'
      clear hj
      rcases Bi hd with⟨rfl,rfl,rfl⟩ | ⟨e,q⟩
      · split at hj'
        · rename_i z;exact z.symm
        · exact absurd hj' (hcn j)
      · refine k.wcl j d ms t ?_ q
        split at hj'
        · rcases List.mem_append.1 hj' with z | z
          · exact z
          · exact absurd (List.mem_singleton.1 z) e
        · exact hj'
    · show((EW w.watches c L).getD j []).Nodup
      rw[hg]
      split
      · rw[ly]
        exact⟨k.wnd j,by simp,fun a ha d hd e=>by rw[List.mem_singleton.1 hd]at e;exact hcn j (by rw[← e];exact ha)⟩
      · exact k.wnd j
    · rcases Bi        hd with ⟨rfl, rfl, rfl⟩ | ⟨e, q⟩
      · have:GT (withC w d ms t) h ms:=hok (by omega)
        exact⟨this.mono (by omega),fun _=>this⟩
      · exact k.wok d ms t q Lr
  · have e:EW w.watches c L=w.watches:=by unfold EW;rw[if_neg h2]
    refine⟨fun d ms t hd Lr=>?_,fun j d ms t hj hd=>?_,fun j=>?_,fun d ms t hd Lr=>?_⟩
    · show d∈(EW w.watches c L).getD _ []∧d∈(EW w.watches c L).getD _ []
      rw[e]
      rcases Bi hd with⟨rfl,rfl,rfl⟩ | ⟨e,q⟩
      · omega
      · exact k.wat d ms t q Lr
    · have hj':d∈(EW w.watches c L).getD j []:=hj
      rw[e]at hj'
      clear hj
      rcases Bi hd with⟨rfl,rfl,rfl⟩ | ⟨e,q⟩
      · exact absurd hj' (hcn j)
      · exact k.wcl j d ms t hj' q
    · show((EW w.watches c L).getD j []).Nodup
      rw[e];exact k.wnd j
    · rcases Bi        hd with ⟨rfl, rfl, rfl⟩ | ⟨e, q⟩
      · omega
      · exact k.wok d ms t q Lr
theorem Aw.withC{n:Nat}{v:Sv}(hi:Aw n v){c:Nat}(hc:v.cl c=none){L:List Int}(hL:A1 n L)(b:Bool×Bool):Aw n (withC v c L b)∧Aw n { v with cl:=AP v.cl c (L,b) }:=by
 have h1:Aw n { v with cl:=AP v.cl c (L,b) }:=by
  obtain⟨⟨hz,hv,hli,hlm⟩,g2,g3,g4,g5⟩:=hi
  refine⟨⟨⟨hz.small,hz.w,hz.value,hz.level,hz.why,hz.heat,hz.phase,hz.trail,hz.limits⟩,hv,hli,hlm⟩,g2,g3,g4,fun M hM d hd=>?_⟩
  obtain⟨ls,t,q1,q2⟩:=g5 M hM d hd
  refine⟨ls,t,?_,q2⟩
  show AP _ _ _ d=_
  unfold AP
  rw[if_neg (fun e=>by rw[e,hc]at q1;cases q1)]
  exact q1
 refine⟨?_,h1⟩
 unfold Go.Proofs.Ytilhhmkdcoajnaa.Am.withC EW
 split
 ·rename_i h2
  have:=(h1.put (Aj _ _ _) hL (by omega) (place (L.getD 0 0))).put (c:=c) (ls:=L) (b:=b) (Aj _ _ _) hL (by omega) (place (L.getD 1 0))
  exact this
 ·exact h1
structure Y7(F F':List (List Int))(L:List Int):Prop where
 sub:∀σ,BQ σ F'→BQ σ F
 cov:∀f∈F',f∈F∨(∃y∈f,-y∈f)∨∀y∈L,y∈f
theorem CI.follow {n h : Nat} {F F' : List (List Int)} {v : Sv} (k : CI n F h v) {c : Nat} (hc : v.cl c = none) {L : List Int} (hL : A1    n L) (hne : L ≠ []) (hnd : (L.map Int.natAbs).Nodup) {b : Bool × Bool} (hb : b.2 = false) (hF : Y7   F F' L)
    (ho:v.value.getD (L.getD 0 0).natAbs 0=0) (hr:∀y∈L,y≠L.getD 0 0→-y∈v.trail) (h1:2≤L.length→lv v (L.getD 1 0)=(v.limits.length:Int)) (hu:L.length=1→v.limits=[]) (hi7:∀ (j:Nat) (t:Int),v.limits[j]? = some t→I7 v.trail t.toNat L) (himp:∀σ,BQ σ F'→∃y∈L,Ew σ y):
    CI n F' h (BF (withC v c L b) (L.getD 0 0) (some c)):=by
  have hi:=k.ct.inv
  have hpos:0<L.length:=List.length_pos_iff.2 hne
  have hV0:=hL.get hpos
  obtain⟨hw1,hw2⟩:=hi.withC hc hL b
  have hct0:CT n { v with cl:=AP v.cl c (L,b) }:=k.ct.put hc hL hne hnd hb hw2
  have hct1:CT n (withC v c L b):=hct0.of hw1 rfl rfl rfl rfl rfl
  have hct:CT n (BF (withC v c L b) (L.getD 0 0) (some c)):=hct1.assign hV0 ho (Aj _ _ _) rfl hr
  have habs:∀ {y:Int},(y∈v.trail∨-y∈v.trail)→y.natAbs≠(L.getD 0 0).natAbs:=by
    rintro y (hy | hy)
    · exact hi.abs_ne ho hy
    · have:=hi.abs_ne ho hy
      rw[lJ]at this
      exact this
  have hlev:∀ {y:Int},(y∈v.trail∨-y∈v.trail)→lv (BF v (L.getD 0 0) (some c)) y=lv v y:=fun hy=>by
    show(v.level.set _ _).getD _ 0=_
    rw[getD_set_ne (habs hy)]
  have hl0:lv (BF v (L.getD 0 0) (some c)) (L.getD 0 0)=(v.limits.length:Int):=by
    show(v.level.set _ _).getD _ 0=_
    rw[Bn (by rw[hi.fit.siz.level];have:=hV0.2;omega)]
  have hcwA:=k.cw.assign hi k.hb ho (some c)
  have hcw:CW (withC (BF v (L.getD 0 0) (some c)) c L b) h []:=by
    refine hcwA.put (n:=n) (fun j d hd=>?_) hc hL hne hnd hi.fit.siz.w b (fun h2=>⟨fun q=>?_,fun q=>⟨lU _ (List.mem_singleton.2 rfl),?_⟩⟩)
    · obtain⟨ls,t,e⟩:=hi.watched (k:=j) hd
      intro q
      have q:v.cl d=none:=q
      rw[e]at q;cases q
    · exfalso
      have q:-(L.getD 0 0)∈(v.trail++[L.getD 0 0]).take h:=q
      rw[lV k.hb]at q
      have:=lS q
      exact habs (.inr this) rfl
    · have q:-(L.getD 1 0)∈(v.trail++[L.getD 0 0]).take h:=q
      rw[lV k.hb]at q
      rw[hl0,hlev (.inr (lS q)),h1 h2]
      exact mF _
  refine⟨hct,hcw,?_,k.lh,fun d ms t hd hl=>?_,fun j t ht d ms b' hd=>?_,fun σ hσ d ms t hd=>?_,fun f hf=>?_,k.phase⟩
  · show h≤(v.trail++[_]).length
    rw[kr]
    have:=k.hb
    omega
  · rcases Bi        hd with ⟨rfl, rfl, rfl⟩ | ⟨e, q⟩
    · refine⟨lU _ (List.mem_singleton.2 rfl),?_⟩
      show lv (BF v (ms.getD 0 0) (some d)) (ms.getD 0 0)=0
      rw[hl0,hu hl];rfl
    · obtain⟨g1,g2⟩:=k.unit d ms t q hl
      refine⟨lE _ g1,?_⟩
      show lv (BF v (L.getD 0 0) (some c)) (ms.getD 0 0)=0
      rw[hlev (.inl g1)];exact g2
  · have ht : v.limits[j]? = some t := ht
    have hb':=k.ct.below t (kq ht)
    have etk:(v.trail++[L.getD 0 0]).take t.toNat=v.trail.take t.toNat:=lV (by omega)
    rcases Bi hd with⟨rfl,rfl,rfl⟩ | ⟨e,q⟩
    · exact(hi7 j t ht).take etk
    · exact(k.i7 j t ht d ms b' q).take etk
  · rcases Bi        hd with ⟨rfl, rfl, rfl⟩ | ⟨e, q⟩
    · exact himp σ hσ
    · exact k.imp σ (hF.sub σ hσ) d ms t q
  · rcases hF.cov f hf with q | q | q
    · rcases k.cover f q with z | ⟨d, ms, t, z1, z2⟩
      · exact .inl z
      · refine .inr ⟨d,ms,t,?_,z2⟩
        show AP _ _ _ d=_
        unfold AP
        rw[if_neg (fun e=>by rw[e,hc]at z1;cases z1)]
        exact z1
    · exact .inl q
    · exact .inr ⟨c,L,b,Aj _ _ _,q⟩
theorem CI.new {n h : Nat} {F F' : List (List Int)} {v : Sv} (k : CI n F h v) {c : Nat} (hc : v.cl c = none) {L : List Int} (hL : A1    n L) (hne : L ≠ []) (hnd : (L.map Int.natAbs).Nodup) {b : Bool × Bool} (hb : b.2 = false) (hF : Y7   F F' L)
    (hok:2≤L.length→GT v h L) (hu:L.length=1→L.getD 0 0∈v.trail∧lv v (L.getD 0 0)=0) (hi7:∀ (j:Nat) (t:Int),v.limits[j]? = some t→I7 v.trail t.toNat L) (himp:∀σ,BQ σ F'→∃y∈L,Ew σ y):
    CI n F' h (withC v c L b):=by
  have hi:=k.ct.inv
  obtain⟨hw1,hw2⟩:=hi.withC hc hL b
  have hct0:CT n { v with cl:=AP v.cl c (L,b) }:=k.ct.put hc hL hne hnd hb hw2
  have hct1:CT n (withC v c L b):=hct0.of hw1 rfl rfl rfl rfl rfl
  have hcw:CW (withC v c L b) h []:=by
    refine k.cw.put (n:=n) (fun j d hd q=>?_) hc hL hne hnd hi.fit.siz.w b hok
    obtain⟨ls,t,e⟩:=hi.watched (k:=j) hd
    rw[e]at q;cases q
  refine⟨hct1,hcw,k.hb,k.lh,fun d ms t hd hl=>?_,fun j t ht d ms b' hd=>?_,fun σ hσ d ms t hd=>?_,fun f hf=>?_,k.phase⟩
  · rcases Bi        hd with ⟨rfl, rfl, rfl⟩ | ⟨e, q⟩
    · exact hu hl
    · exact k.unit d ms t q hl
  · rcases Bi        hd with ⟨rfl, rfl, rfl⟩ | ⟨e, q⟩
    · exact hi7 j t ht
    · exact k.i7 j t ht d ms b' q
  · rcases Bi        hd with ⟨rfl, rfl, rfl⟩ | ⟨e, q⟩
    · exact himp σ hσ
    · exact k.imp σ (hF.sub σ hσ) d ms t q
  · rcases hF.cov f hf with q | q | q
    · rcases k.cover f q with z | ⟨d, ms, t, z1, z2⟩
      · exact .inl z
      · refine .inr ⟨d,ms,t,?_,z2⟩
        show AP _ _ _ d=_
        unfold AP
        rw[if_neg (fun e=>by rw[e,hc]at z1;cases z1)]
        exact z1
    · exact .inl q
    · exact .inr ⟨c,L,b,Aj _ _ _,q⟩
def MA(ls:List Int)(k:Nat):Nat:=if (k:Int)∈ls then 1 else if -(k:Int)∈ls then 2 else 0
theorem RI(ls:List Int)(k:Nat):MA ls k≤2:=by
 unfold MA
 split
 ·omega
 ·split<;>omega
def code(ls:List Int):Nat→Nat
 | 0=>0
 | k+1=>code ls k+3 ^ k * MA ls (k+1)
theorem Hx(ls:List Int):∀k,code ls k<3 ^ k
 | 0=>by simp[code]
 | k+1=>by
  have h:=Hx ls k
  have e:3 ^ (k+1)=3 ^ k * 3:=Nat.pow_succ ..
  unfold code
  have hd:=RI ls (k+1)
  rw[e]
  generalize 3 ^ k=P at *
  have:MA ls (k+1)=0∨MA ls (k+1)=1∨MA ls (k+1)=2:=by omega
  rcases this with q | q | q<;>rw[q]<;>omega
theorem Kl{ls ls':List Int}:∀ {k:Nat},code ls k=code ls' k→∀j,1≤j→j≤k→MA ls j=MA ls' j
 | 0,_,j,h1,h2=>by omega
 | k+1,h,j,h1,h2=>by
  have a1:=Hx ls k
  have a2:=Hx ls' k
  have d1:=RI ls (k+1)
  have d2:=RI ls' (k+1)
  unfold code at h
  have key:code ls k=code ls' k∧MA ls (k+1)=MA ls' (k+1):=by
   generalize 3 ^ k=P at *
   have e1:MA ls (k+1)=0∨MA ls (k+1)=1∨MA ls (k+1)=2:=by omega
   have e2:MA ls' (k+1)=0∨MA ls' (k+1)=1∨MA ls' (k+1)=2:=by omega
   rcases e1 with q | q | q<;>rcases e2 with r | r | r<;>rw[q,r]at h<;>rw[q,r]<;>omega
  by_cases e:j=k+1
  ·rw[e];exact key.2
  ·exact Kl key.1 j h1 (by omega)
theorem YJ{ls:List Int}(hnd:(ls.map Int.natAbs).Nodup){y:Int}(hy0:y≠0)(h1:y∈ls)(h2:-y∈ls):False:=by
 obtain⟨i,hi,e1⟩:=mP h1
 obtain⟨j,hj,e2⟩:=mP h2
 have k1:ls.getD i 0=y:=by rw[lK,ky hi,e1];rfl
 have k2:ls.getD j 0=-y:=by rw[lK,ky hj,e2];rfl
 have:=DW hnd hi hj (by rw[k1,k2,lJ])
 subst this
 rw[k1]at k2
 omega
theorem XY{n:Nat}{ls ls':List Int}(h:code ls n=code ls' n)(hv:∀y∈ls,VL n y)(hnd:(ls.map Int.natAbs).Nodup){y:Int}(hy:y∈ls):y∈ls':=by
  obtain⟨h0,hn⟩:=hv y hy
  have hd:=Kl h y.natAbs (by omega) hn
  have neg:∀z,z∈ls→-z ∉ ls:=fun z hz q=>YJ hnd (hv z hz).1 hz q
  unfold MA at hd
  rcases Int.lt_or_gt_of_ne h0 with q | q
  · have e : -(y.natAbs : Int) = y := by omega
    have e':(y.natAbs:Int)=-y:=by omega
    rw[e,e']at hd
    rw[if_neg (neg y hy),if_pos hy]at hd
    split at hd
    · cases hd
    · split at hd
      · assumption
      · cases hd
  · have e:(y.natAbs:Int)=y:=by omega
    rw[e,if_pos hy]at hd
    split at hd
    · assumption
    · split at hd<;>cases hd
theorem OR       {n : Nat} {ls : List Int} {y : Int} (hy : y ∈ ls) (hv : VL n y) : 1 ≤ code ls n := by
  rcases mJ (code ls n)with h | h
  · have e:code ls n=code [] n:=by
      rw[h]
      have:∀k,code [] k=0:=fun k=>by
        induction k with
        | zero=>rfl
        | succ k ih=>unfold code MA;rw[ih];simp
      exact(this n).symm
    have hd:=Kl e y.natAbs (by have:=hv.1;omega) hv.2
    unfold MA at hd
    rw[if_neg (show ¬ ((y.natAbs:Int)∈([]:List Int)) by simp),if_neg (show ¬ (-(y.natAbs:Int)∈([]:List Int)) by simp)]at hd
    split at hd
    · cases hd
    · split at hd
      · cases hd
      · rename_i q1 q2
        rcases Int.lt_or_gt_of_ne hv.1 with z | z
        · exact absurd hy (by rw[show y=-(y.natAbs:Int) by omega];exact q2)
        · exact absurd hy (by rw[show y=(y.natAbs:Int) by omega];exact q1)
  · exact h
theorem Kk{ls ls':List Int}(h:∀x,x∈ls↔x∈ls'):∀k,code ls k=code ls' k
 | 0=>rfl
 | k+1=>by
  unfold code MA
  rw[Kk h k]
  simp only[h]
structure Pe(n A:Nat)(v:Sv)(C:List Nat):Prop where
 nd:C.Nodup
 mem:∀k∈C,1≤k∧k<3 ^ n∧∃c ls b,v.cl c=some (ls,b)∧code ls n=k
 many:v.many=(C.length:Int)
 lrn:v.learned.length≤C.length
 trc:v.trace.length≤C.length
 tot:CD v.watches≤2 * (A+C.length)
 room:v.room=2000
theorem Pe.len{n A:Nat}{v:Sv}{C:List Nat}(h:Pe n A v C):C.length≤3 ^ n - 1:=Cc h.nd fun k hk=>by
 obtain⟨h1,h2,_⟩:=h.mem k hk
 omega
theorem Oi(v:Sv)(r:EJ):(AU v r).Perm (r.hd::r.lits):=by
 unfold AU
 cases h:A9 (JS v r.lev) r.lits 0 with
 | none=>exact List.Perm.refl _
 | some i =>
  have:=(Ff h).2
  exact Hh (by simp;omega) (by simp;omega)
theorem X2(v:Sv)(r:EJ):(AU v r).getD 0 0=r.hd:=by
 unfold AU
 cases h:A9 (JS v r.lev) r.lits 0 with
 | none=>rfl
 | some i=>exact PV (by omega) (by omega)
theorem MJ{f:Int→Bool}:∀ {L:List Int}{k i:Nat},A9 f L k=some i→∃y,L[i - k]? = some y∧f y=true
 | [],k,i,h=>by cases h
 | x::L,k,i,h=>by
  unfold A9 at h
  split at h
  ·injection h with h
   subst h
   exact⟨x,by rw[mH];rfl,by assumption⟩
  ·obtain⟨y,h1,h2⟩:=MJ h
   have:=(Ff h).1
   exact⟨y,by rw[show i - k=(i - (k+1))+1 by omega];exact h1,h2⟩
theorem Oh       {v : Sv} {r : EJ}  (h : ∃ q ∈ r.lits, lv v q = r.lev) : lv v ((AU     v r).getD 1 0) = r.lev ∧ (AU     v r).getD 1 0 ∈ r.lits := by
  have hs:(A9 (JS v r.lev) r.lits 0).isSome=true:=by
    rw[Cp]
    obtain⟨q,h1,h2⟩:=h
    exact⟨q,h1,decide_eq_true h2⟩
  unfold AU
  cases hf:A9 (JS v r.lev) r.lits 0 with
  | none=>rw[hf]at hs;cases hs
  | some i =>
    obtain⟨y,h1,h2⟩:=MJ hf
    have hl:=(Ff hf).2
    have e:(Ah (r.hd::r.lits) 1 (i+1)).getD 1 0=y:=by
      by_cases hi:i=0
      · subst hi
        show(Ah (r.hd::r.lits) 1 1).getD 1 0=y
        rw[TG (by simp;omega)]
        exact FH (l:=r.hd::r.lits) (k:=1) h1
      · rw[Nq (by simp;omega) (by omega)]
        exact FH (l:=r.hd::r.lits) (k:=i+1) (by rw[List.getElem?_cons_succ];exact h1)
    dsimp only
    rw[e]
    exact⟨of_decide_eq_true h2,kq h1⟩
structure jd(n:Nat)(v:Sv)(L:List Int)(r:EJ):Prop where
 ok:A1 n L
 ne:L≠[]
 nd:(L.map Int.natAbs).Nodup
 hd:L.getD 0 0=r.hd
 mem:∀y,y∈L↔y=r.hd∨y∈r.lits
 len:L.length=r.lits.length+1
theorem ED.list{n:Nat}{v:Sv}(h:CT n v){r:EJ}(hL:ED v r):jd n v (AU v r) r:=by
 obtain⟨i,u,hu,hlu,hhd⟩:=hL.uip
 have hp:=Oi v r
 have hVu:=h.inv.fit.lits u (kq hu)
 have hV:∀y∈r.hd::r.lits,VL n y:=fun y hy=>by
  rcases lM.1 hy with e | e
  ·rw[e,hhd];exact⟨by have:=hVu.1;omega,by rw[lJ];exact hVu.2⟩
  ·have:=h.inv.fit.lits _ (hL.lits y e).1
   exact⟨by have:=this.1;omega,by have:=this.2;rw[lJ]at this;exact this⟩
 have hnd:((r.hd::r.lits).map Int.natAbs).Nodup:=by
  rw[mA,mV]
  refine⟨fun q=>?_,hL.nd⟩
  obtain⟨y,hy,e⟩:=List.mem_map.1 q
  obtain⟨g1,g2,g3⟩:=hL.lits y hy
  have:lv v y=lv v u:=by
   unfold lv
   rw[e,hhd,lJ]
  omega
 have hlen:(r.hd::r.lits).length≤n:=by
  have:=Cc hnd (n:=n) fun k hk=>by
   obtain⟨y,hy,rfl⟩:=List.mem_map.1 hk
   have:=hV y hy
   exact⟨by have:=this.1;omega,this.2⟩
  simpa using this
 have hsm:=h.inv.fit.siz.small
 have hle:=hp.length_eq
 refine⟨⟨fun y hy=>hV y (hp.mem_iff.1 hy),by omega⟩,fun e=>by rw[e]at hle;simp at hle,((hp.map _).nodup_iff).2 hnd,X2 v r,fun y=>by rw[hp.mem_iff,lM],by rw[hle];rfl⟩
theorem ED.fresh{n h:Nat}{F:List (List Int)}{v:Sv}(k:CI n F h v)(hlim:v.limits≠[]){r:EJ}(hL:ED v r){c:Nat}{ls:List Int}{b:Bool×Bool}(hc:v.cl c=some (ls,b)):code ls n≠code (AU v r) n:=by
  intro he
  have hl:=hL.list k.ct
  obtain⟨c1,c2,c3,c4⟩:=k.ct.cls c ls b hc
  have m1:∀y∈ls,y∈AU v r:=fun y hy=>XY he c1.1 c3 hy
  have hpos:0<v.limits.length:=List.length_pos_iff.2 hlim
  have ht:=AQ (d:=(0:Int)) (show v.limits.length - 1<v.limits.length by omega)
  generalize v.limits.getD (v.limits.length - 1) 0=t at ht
  have ht0:=k.ct.lim t (kq ht)
  obtain⟨i,u,hu,hlu,hhd⟩:=hL.uip
  have hneg:∀y∈AU v r,-y∈v.trail:=fun y hy=>by
    rcases(hl.mem y).1 hy with e | e
    · rw[e,hhd,lp];exact kq hu
    · exact(hL.lits y e).1
  have hlow:∀y∈r.lits,-y∈v.trail.take t.toNat:=fun y hy=>by
    obtain⟨g1,g2,g3⟩:=hL.lits y hy
    obtain⟨j,hj⟩:=DS.1 g1
    obtain⟨q1,q2,q3⟩:=k.ct.last ht hj
    rw[DR]at q1
    refine B4.2 ⟨j,?_,hj⟩
    rcases ks j t.toNat with z | z
    · exact z
    · have:=q1.2 z;omega
  rcases k.i7 _ t ht c ls b hc with⟨y,hy,hm⟩ | ⟨y,hy,z,hz,hne,h1,h2⟩
  · exact k.ct.inv.two (lS hm) (hneg y (m1 y hy))
  · have e1 : y = r.hd := ((hl.mem y).1 (m1 y hy)).resolve_right fun q => h1 (hlow y q)
    have e2:z=r.hd:=((hl.mem z).1 (m1 z hz)).resolve_right fun q=>h2 (hlow z q)
    exact hne (e1.trans e2.symm)
theorem S1      {n h : Nat} {F : List (List Int)} {w : Sv} (k : CI n F h w) (hlim : w.limits ≠ []) {r : EJ}  (hL : ED      w r) {c : Nat} (hc : w.cl c = none) :
    CI n F (Ax (AW w r.lev.toNat) c (AU w r)).head.toNat (Ax (AW w r.lev.toNat) c (AU w r))∧0≤(Ax (AW w r.lev.toNat) c (AU w r)).head∧(Ax (AW w r.lev.toNat) c (AU w r)).head≤((Ax (AW w r.lev.toNat) c (AU w r)).trail.length:Int) ∧
      0≤r.lev∧r.lev<(w.limits.length:Int):=by
  have hl:=hL.list k.ct
  obtain⟨i,u,hu,hlu,hhd⟩:=hL.uip
  have hlev:0≤r.lev∧r.lev<(w.limits.length:Int):=by
    have hpos:0<w.limits.length:=List.length_pos_iff.2 hlim
    rcases hL.lev.2 with⟨_,e⟩ | ⟨q,hq,e⟩
    · omega
    · have:=hL.lits q hq;omega
  have ht:=AQ (d:=(0:Int)) (show r.lev.toNat<w.limits.length by omega)
  generalize w.limits.getD r.lev.toNat 0=t at ht
  obtain⟨kb,b2,b3,b4⟩:=k.back ht
  obtain⟨ph,va,wh,tr,li,hd,e,_⟩:=Bm w r.lev.toNat
  have ecl:(AW w r.lev.toNat).cl=w.cl:=by rw[e]
  have elv:(AW w r.lev.toNat).level=w.level:=by rw[e]
  have ht0:=k.ct.lim t (kq ht)
  have htl:=k.ct.below t (kq ht)
  have hlt:(w.trail.take t.toNat).length=t.toNat:=by rw[lI];omega
  have low:∀ {x:Int},x∈w.trail→lv w x≤r.lev→x∈w.trail.take t.toNat:=by
    intro x hx hx2
    obtain⟨j,hj⟩:=DS.1 hx
    have hlj:lv w x=(HY w.limits j:Int):=k.ct.lev j x hj
    refine B4.2 ⟨j,?_,hj⟩
    rcases ks j t.toNat with q | q
    · exact q
    · have:=Nb k.ct.sorted ht (i:=j) (by omega)
      omega
  have hui:t.toNat≤i:=by
    rcases ks i t.toNat with q | q
    · have := (LF     k.ct.sorted ht (i := i) (by omega)).2
      have hli:lv w u=(HY w.limits i:Int):=k.ct.lev i u hu
      omega
    · exact q
  have hunot:u ∉ w.trail.take t.toNat:=fun q=>by
    obtain⟨j,hj,ej⟩:=B4.1 q
    have:=k.ct.inv.one ej hu rfl
    omega
  have hunot':-u ∉ w.trail.take t.toNat:=fun q=>k.ct.inv.two (kq hu) (lS q)
  have hVu:=k.ct.inv.fit.lits u (kq hu)
  have hopen:(AW w r.lev.toNat).value.getD ((AU w r).getD 0 0).natAbs 0=0:=by
    rw[hl.hd,hhd]
    refine kb.ct.inv.zero (by have:=hVu.1;omega) ?_ ?_
    · rw[b2];exact hunot'
    · rw[b2,lp];exact hunot
  have hfol:=kb.follow (F':=F) (c:=c) (by rw[ecl];exact hc) hl.ok hl.ne hl.nd (b:=(true,false)) rfl ⟨fun σ hσ=>hσ,fun f hf=>.inl hf⟩ hopen (fun y hy hne=>by
      rw[b2]
      rcases(hl.mem y).1 hy with q | q
      · rw[hl.hd]at hne;exact absurd q hne
      · refine low (hL.lits y q).1 ?_
        rw[DR]
        exact hL.lev.1 y q) (fun h2=>by
      have hne:r.lits≠[]:=fun q=>by have:=hl.len;rw[q]at this;simp at this;omega
      have hex:∃q∈r.lits,lv w q=r.lev:=hL.lev.2.resolve_left fun q=>hne q.1
      have:=(Oh hex).1
      show(AW w r.lev.toNat).level.getD _ 0=_
      rw[elv,b3,lI]
      have e:w.level.getD ((AU w r).getD 1 0).natAbs 0=r.lev:=this
      rw[e]
      omega) (fun h1=>by
      have hnil:r.lits=[]:=by
        have:=hl.len
        exact List.length_eq_zero_iff.1 (by omega)
      have hz:r.lev=0:=by
        rcases hL.lev.2 with⟨_,q⟩ | ⟨q,hq,_⟩
        · exact q
        · rw[hnil]at hq;cases hq
      rw[b3,hz];rfl) (fun j s hs=>by
      rw[b3]at hs
      have hil:=Af hs
      have hj:j<r.lev.toNat:=by rw[lI]at hil;omega
      have hs':w.limits[j]? = some s:=by rw[lk hj]at hs;exact hs
      have hst:=(CR k.ct.sorted ht).1 s (B4.2 ⟨j,hj,hs'⟩)
      have hs0:=k.ct.lim s (kq hs')
      have hne:r.lits≠[]:=fun q=>by
        rcases hL.lev.2 with⟨_,z⟩ | ⟨y,hy,_⟩
        · omega
        · rw[q]at hy;cases hy
      have hex:∃q∈r.lits,lv w q=r.lev:=hL.lev.2.resolve_left fun q=>hne q.1
      obtain⟨q1,q2⟩:=Oh hex
      obtain⟨g1,g2,g3⟩:=hL.lits _ q2
      refine .inr ⟨r.hd,(hl.mem _).2 (.inl rfl),(AU w r).getD 1 0,(hl.mem _).2 (.inr q2),fun z=>?_,?_,?_⟩
      · rw[← z,hhd,DR]at g3;omega
      · rw[b2,mW,mT (by omega),hhd,lp]
        exact fun q=>hunot (FP (by omega) q)
      · rw[b2,mW,mT (by omega)]
        intro q
        obtain⟨p,hp,ep⟩:=B4.1 q
        have hlp:lv w (-((AU w r).getD 1 0))=(HY w.limits p:Int):=k.ct.lev p _ ep
        rw[DR,q1]at hlp
        have:=(LF k.ct.sorted hs' (i:=p) (by omega)).2
        omega) (fun σ hσ=>by
      rcases hL.imp σ (k.imp σ hσ)with q | ⟨y,hy,hs⟩
      · exact⟨r.hd,(hl.mem _).2 (.inl rfl),q⟩
      · exact⟨y,(hl.mem y).2 (.inr hy),hs⟩)
  have hhead:(Ax (AW w r.lev.toNat) c (AU w r)).head=t:=by
    unfold Ax
    split<;>exact b4
  have htrail:(Ax (AW w r.lev.toNat) c (AU w r)).trail=w.trail.take t.toNat++[(AU w r).getD 0 0]:=by
    rw[← b2]
    unfold Ax
    split<;>rfl
  rw[hhead]
  refine⟨?_,ht0,by rw[htrail,kr,hlt];omega,hlev.1,hlev.2⟩
  have hw:(Ax (AW w r.lev.toNat) c (AU w r)).watches=EW (AW w r.lev.toNat).watches c (AU w r):=by
    unfold Ax EW
    split<;>rfl
  have hcl':(Ax (AW w r.lev.toNat) c (AU w r)).cl=AP (AW w r.lev.toNat).cl c (AU w r,(true,false)):=by
    unfold Ax
    split<;>rfl
  have same:∀ {v' v:Sv},Aw n v→v'.trail=v.trail→v'.limits=v.limits→v'.value=v.value→v'.level=v.level→v'.why=v.why→v'.heat.length=v.heat.length→v'.phase=v.phase→v'.watches=v.watches→v'.cl=v.cl→Aw n v':=by
    intro v' v hi e1 e2 e3 e4 e5 e6 e7 e8 e9
    obtain⟨⟨hz,hv,hli,hlm⟩,g2,g3,g4,g5⟩:=hi
    exact⟨⟨⟨hz.small,by rw[e8];exact hz.w,by rw[e3];exact hz.value,by rw[e4];exact hz.level,by rw[e5];exact hz.why,e6.trans hz.heat,by rw[e7];exact hz.phase,by rw[e1];exact hz.trail,by rw[e2];exact hz.limits⟩,by rw[e3];exact hv,by rw[e1];exact hli,by rw[e1,e2];exact hlm⟩,by rw[e1];exact g2,by rw[e1,e3];exact g3,by rw[e1,e3];exact g4,by rw[e8,e9];exact g5⟩
  refine hfol.of (same hfol.ct.inv ?_ ?_ ?_ ?_ ?_ ?_ ?_ hw hcl') ?_ ?_ ?_ ?_ hcl' hw ?_
  all_goals (unfold Ax;split<;>rfl)
theorem Km(c:Int→Int→Int)(x:Int):∀q,(CF c x q).Perm (x::q)
 | []=>List.Perm.refl _
 | y::q=>by
  unfold CF
  split
  ·exact((Km c x q).cons y).trans (List.Perm.swap x y q)
  ·exact List.Perm.refl _
theorem Ky(c:Int→Int→Int):∀ (R q:List Int),(R.foldl (fun q x=>CF c x q) q).Perm (q++R)
 | [],q=>by simp
 | y::R,q=>by
  rw[ll]
  refine(Ky c R (CF c y q)).trans ?_
  refine((Km c y q).append_right R).trans ?_
  rw[mN]
  exact(List.perm_middle (a:=y) (l₁:=q) (l₂:=R)).symm
theorem LW(c:Int→Int→Int)(L:List Int):(Fp c L).Perm L:=by
 unfold Fp
 refine(List.reverse_perm _).trans ?_
 have:=Ky c L []
 rwa[lZ]at this
theorem MB(g:Int→Int)(x:Int):∀ {q:List Int},q.Pairwise (fun a b=>g a≤g b)→(CF (fun a b=>g b - g a) x q).Pairwise fun a b=>g a≤g b
  | [],_=>by simp[CF]
  | y::q,h=>by
    rw[ml]at h
    unfold CF
    split
    · rename_i hlt
      rw[ml]
      refine⟨fun z hz=>?_,MB g x h.2⟩
      rcases(G7 _ x z q).1 hz with e | e
      · rw[e];omega
      · exact h.1 z e
    · rename_i hge
      rw[ml,ml]
      refine⟨fun z hz=>?_,h⟩
      rcases lM.1 hz with e | e
      · rw[e];omega
      · have:=h.1 z e;omega
theorem MK(g:Int→Int):∀ (R:List Int){q:List Int},q.Pairwise (fun a b=>g a≤g b)→(R.foldl (fun q x=>CF (fun a b=>g b - g a) x q) q).Pairwise fun a b=>g a≤g b
 | [],_,h=>h
 | y::R,q,h=>by rw[ll];exact MK g R (MB g y h)
theorem SH(g:Int→Int)(L:List Int):(Fp (fun a b=>g b - g a) L).Pairwise fun a b=>g b≤g a:=by
 unfold Fp
 rw[List.pairwise_reverse]
 exact MK g L List.Pairwise.nil
theorem MX(L:List Int):(Ej L).Nodup∧∀z,z∈Ej L↔z∈L:=by
 unfold Ej
 have hs:(GK L).Pairwise (·≤·):=by
  unfold GK
  rw[List.pairwise_reverse]
  have:=(Kz L (q:=[]) List.Pairwise.nil).1
  exact this.imp fun h=>h
 cases h:GK L with
 | nil =>
  have hn:L=[]:=by
   cases L with
   | nil=>rfl
   | cons x L=>have:=(JL (x::L) x).2 (kx ..);rw[h]at this;cases this
  rw[hn]
  exact⟨List.Pairwise.nil,fun z=>Iff.rfl⟩
 | cons p l =>
  rw[h]at hs
  obtain⟨r1,r2⟩:=NH l p hs
  refine⟨?_,fun z=>?_⟩
  ·show(p::dd p l).Nodup
   exact List.Pairwise.imp (fun h=>by omega) r1
  ·show z∈p::dd p l↔z∈L
   rw[r2 z,← h,JL]
theorem Ma(v:Sv)(c:Nat)(O:List Int):F9 v c O=withC v c O (false,false):=by
 unfold F9 withC EW
 split<;>rfl
theorem IR(W:List (List Nat))(c:Nat)(L:List Int):CD (EW W c L)≤CD W+2:=by
  unfold EW
  split
  · have h1 := CD.put  W (place (L.getD 0 0)) c
    have h2:=CD.put (Ci W (place (L.getD 0 0)) c) (place (L.getD 1 0)) c
    omega
  · omega
theorem Fe{v:Sv}(h:v.broken=false):DV v={ v with broken:=true,trace:=v.trace++[(false,[])] }:=by
 unfold DV
 rw[if_neg (by rw[h];decide)]
structure UY(v v':Sv):Prop where
 limits:v'.limits=v.limits
 head:v'.head=v.head
 many:v'.many=v.many
 learned:v'.learned=v.learned
 room:v'.room=v.room
 tot:CD v'.watches≤CD v.watches+2
 cl:∀c l,v.cl c=some l→v'.cl c=some l
theorem Tz(F:List (List Int))(f L:List Int)(h:(∃y∈f,-y∈f)∨∀y∈L,y∈f):Y7 F (F++[f]) L:=
 ⟨fun σ hσ g hg=>hσ g (lE _ hg),fun g hg=>by
  rcases List.mem_append.1 hg with q | q
  ·exact .inl q
  ·rw[List.mem_singleton.1 q];exact .inr h⟩
theorem Uj     {n h : Nat} {F : List (List Int)} {v : Sv} (k : CI n F h v) (hlim : v.limits = []) (hbr : v.broken = false) {f : List Int} (hf : ∀ q ∈ f, VL n q) (hlen : f.length ≤ 12) {v' : Sv} (hr : KF   v f v') :
    (v'.broken=false∧CI n (F++[f]) h v'∧UY v v'∧v'.trace=v.trace∧v.trail.length≤v'.trail.length) ∨
    (v'.broken=true∧Aw n v'∧UY v v'∧v'.trace.length=v.trace.length+1∧v'.trail=v.trail∧∀σ,¬ BQ σ (F++[f])):=by
  have hi:=k.ct.inv
  obtain⟨ho1,ho2⟩:=MX f
  have hl0:∀ {x:Int},x∈v.trail→lv v x=0:=fun {x} hx=>by
    obtain⟨i,e⟩:=DS.1 hx
    have:=k.ct.lev i x e
    unfold lv
    rw[this,hlim];rfl
  have same:∀ {w:Sv},Aw n w→Aw n { w with broken:=true,trace:=w.trace++[(false,[])] }:=by
    intro w hw
    obtain⟨⟨hz,hv,hli,hlm⟩,g2,g3,g4,g5⟩:=hw
    exact⟨⟨⟨hz.small,hz.w,hz.value,hz.level,hz.why,hz.heat,hz.phase,hz.trail,hz.limits⟩,hv,hli,hlm⟩,g2,g3,g4,g5⟩
  have refl:UY v v:=⟨rfl,rfl,rfl,rfl,rfl,by omega,fun _ _ q=>q⟩
  cases hr with
  | none ht =>
    rcases ht with ht | ht
    · refine .inl ⟨hbr,?_,refl,rfl,kp _⟩
      obtain⟨y,h1,h2⟩:=JO.1 ht
      refine { ct:=k.ct,cw:=k.cw,hb:=k.hb,lh:=k.lh,unit:=k.unit,i7:=k.i7,imp:=fun σ hσ=>k.imp σ fun g hg=>hσ g (lE _ hg),cover:=fun g hg=>?_,phase:=k.phase }
      rcases List.mem_append.1 hg with q | q
      · exact k.cover g q
      · rw[List.mem_singleton.1 q]
        exact .inl ⟨y,(ho2 y).1 h1,(ho2 _).1 h2⟩
    · rw[hbr]at ht;cases ht
  | nil ht hb he =>
    right
    rw[Fe hbr]
    refine⟨rfl,same hi,⟨rfl,rfl,rfl,rfl,rfl,by show CD v.watches≤_;omega,fun _ _ q=>q⟩,by show(v.trace++[_]).length=_;rw[kr];rfl,rfl,fun σ hσ=>?_⟩
    obtain⟨y,h1,_⟩:=hσ f (lU _ (List.mem_singleton.2 rfl))
    have:=(ho2 y).2 h1
    rw[he]at this
    cases this
  | @put c ht hb he hc =>
    have hp:(By v f).Perm (Ej f):=LW _ _
    have hm:∀z,z∈By v f↔z∈f:=fun z=>by rw[hp.mem_iff];exact ho2 z
    have hdesc:(By v f).Pairwise fun a b=>isV v.value b≤isV v.value a:=SH (isV v.value) (Ej f)
    have hOne:By v f≠[]:=fun e=>he (by have:=hp.length_eq;rw[e]at this;exact List.length_eq_zero_iff.1 this.symm)
    have hOl:(By v f).length≤12:=by rw[hp.length_eq];have:=IP f;omega
    have hOk:A1 n (By v f):=⟨fun q hq=>hf q ((hm q).1 hq),by omega⟩
    have hOnd:((By v f).map Int.natAbs).Nodup:=by
      have hnd:(By v f).Nodup:=(hp.nodup_iff).2 ho1
      rw[List.Nodup,List.pairwise_map]
      refine List.Pairwise.imp_of_mem ?_ hnd
      intro a b ha hb' hab e
      rcases S6 e with q | q
      · exact hab q
      · have:Jk (Ej f)=true:=JO.2 ⟨b,hp.mem_iff.1 hb',by rw[← q];exact hp.mem_iff.1 ha⟩
        rw[ht]at this;cases this
    generalize hO:By v f=O at *
    have hpos:0<O.length:=List.length_pos_iff.2 hOne
    have hV0:=hOk.get hpos
    have m0:O.getD 0 0∈O:=kq (AQ hpos)
    have hfirst:∀y∈O,isV v.value y≤isV v.value (O.getD 0 0):=fun y hy=>by
      cases hOc:O with
      | nil=>exact absurd hOc hOne
      | cons x l =>
        rw[hOc]at hdesc hy
        rcases lM.1 hy with e | e
        · rw[e];exact mF _
        · exact(ml.1 hdesc).1 y e
    have hsecond:∀y∈O,y≠O.getD 0 0→2≤O.length∧isV v.value y≤isV v.value (O.getD 1 0):=fun y hy hne=>by
      cases hOc:O with
      | nil=>exact absurd hOc hOne
      | cons x l =>
        rw[hOc]at hdesc hy hne
        have hy':y∈l:=(lM.1 hy).resolve_left hne
        cases hl:l with
        | nil=>rw[hl]at hy';cases hy'
        | cons z l' =>
          rw[hl]at hy' hdesc
          refine⟨by simp,?_⟩
          have h2:=(ml.1 (ml.1 hdesc).2).1
          rcases lM.1 hy' with e | e
          · rw[e];exact mF _
          · exact h2 y e
    have himp:∀σ,BQ σ (F++[f])→∃y∈O,Ew σ y:=fun σ hσ=>by
      obtain⟨y,h1,h2⟩:=hσ f (lU _ (List.mem_singleton.2 rfl))
      exact⟨y,(hm y).2 h1,h2⟩
    have hmore:Y7 F (F++[f]) O:=Tz F f O (.inr fun y hy=>(hm y).1 hy)
    have hi7:∀ (j:Nat) (t:Int),v.limits[j]? = some t→I7 v.trail t.toNat O:=fun j t hj=>by rw[hlim]at hj;simp at hj
    have hfr:∀d l,v.cl d=some l→(withC v c O (false,false)).cl d=some l:=fun d l hd=>by
      show AP _ _ _ d=_
      unfold AP
      rw[if_neg fun e=>by rw[e,hc]at hd;cases hd]
      exact hd
    have htot:CD (withC v c O (false,false)).watches≤CD v.watches+2:=IR _ _ _
    unfold Jq
    rw[Ma]
    by_cases hneg:isV v.value (O.getD 0 0)<0
    · rw [if_pos hneg]
      right
      have hbw:(withC v c O (false,false)).broken=false:=hbr
      rw[Fe hbw]
      refine⟨rfl,same (hi.withC hc hOk (false,false)).1,⟨rfl,rfl,rfl,rfl,rfl,htot,hfr⟩,by show(v.trace++[_]).length=_;rw[kr];rfl,rfl,fun σ hσ=>?_⟩
      obtain⟨y,hy,hs⟩:=himp σ hσ
      have hy0:=(hOk.1 y hy).1
      have hny:-y∈v.trail:=(hi.neg hy0).1 (by have:=hfirst y hy;omega)
      obtain⟨i,e⟩:=DS.1 hny
      exact hs.neg (k.ct.zero (k.imp σ (hmore.sub σ hσ)) i (-y) e (hl0 hny))
    · rw[if_neg hneg]
      left
      by_cases hcond:isV v.value (O.getD 0 0)=0∧(O.length=1∨isV v.value (O.getD 1 0)<0)
      · rw[if_pos hcond]
        have hothers:∀y∈O,y≠O.getD 0 0→-y∈v.trail:=fun y hy hne=>by
          obtain⟨g1,g2⟩:=hsecond y hy hne
          have h1n:isV v.value (O.getD 1 0)<0:=by
            rcases hcond.2 with q | q
            · omega
            · exact q
          exact(hi.neg (hOk.1 y hy).1).1 (by omega)
        have hfol:=k.follow (F':=F++[f]) hc hOk hOne hOnd (b:=(false,false)) rfl hmore (IG hcond.1) hothers (fun h2=>by
          have m1:O.getD 1 0∈O:=kq (AQ (by omega))
          have hne:O.getD 1 0≠O.getD 0 0:=fun e=>by
            have:=DW hOnd (i:=1) (j:=0) (by omega) (by omega) (by rw[e])
            cases this
          have:=hl0 (hothers _ m1 hne)
          rw[DR]at this
          rw[this,hlim];rfl) (fun _=>hlim) hi7 himp
        exact⟨hbr,hfol,⟨rfl,rfl,rfl,rfl,rfl,htot,hfr⟩,rfl,by show _≤(v.trail++[_]).length;rw[kr];omega⟩
      · rw[if_neg hcond]
        have hnew:=k.new (F':=F++[f]) hc hOk hOne hOnd (b:=(false,false)) rfl hmore (fun h2=>by
          have m1:O.getD 1 0∈O:=kq (AQ (by omega))
          have hV1:=hOk.1 _ m1
          by_cases hp0:0<isV v.value (O.getD 0 0)
          · have hin:=(hi.pos hV0.1).1 hp0
            refine⟨fun q=>(hi.two hin (lS q)).elim,fun q=>⟨hin,?_⟩⟩
            have:=hl0 (lS q)
            rw[DR]at this
            rw[hl0 hin,this]
            exact mF _
          · have hz : isV v.value (O.getD 0 0) = 0 := by omega
            have hn1:¬ isV v.value (O.getD 1 0)<0:=fun q=>hcond ⟨hz,.inr q⟩
            refine⟨fun q=>?_,fun q=>?_⟩
            · have:=(hi.neg hV0.1).2 (lS q);omega
            · exact absurd ((hi.neg hV1.1).2 (lS q)) hn1) (fun h1=>by
          have hp0:0<isV v.value (O.getD 0 0):=by
            have:isV v.value (O.getD 0 0)≠0:=fun q=>hcond ⟨q,.inl h1⟩
            omega
          have hin:=(hi.pos hV0.1).1 hp0
          exact⟨hin,hl0 hin⟩) hi7 himp
        exact⟨hbr,hnew,⟨rfl,rfl,rfl,rfl,rfl,htot,hfr⟩,rfl,kp _⟩
section
variable{E:BJ}{K:List AV→AG→Prop}{ow:Ow}{s:AG}{p:Nat}{x:Sf}{v:Sv}
theorem ar(hE:Good E)(h:Ac ow s p x v){n:Nat}(hz:au n v){b:Nat}(h1:1≤b)(hb:b≤n)(hp:v.phase.getD b 0=1∨v.phase.getD b 0=-1){x1 x2 x3 x4 x5 x7 x8 x9 x10 x11 x12 x13:AV}(hK:∀s' ow' x',Ac ow' s' p x' (BF v ((b:Int) * v.phase.getD b 0) none)→AH (BN p) ow s ow' s'→K [AV.ptr (some (p,0)),x1,x2,x3,x4,x5,iv (b:Int),x7,x8,x9,x10,x11,x12,x13] s'):
  Qb E QK K [] [AV.ptr (some (p,0)),x1,x2,x3,x4,x5,iv (b:Int),x7,x8,x9,x10,x11,x12,x13] s:=by
 have hsm:=hz.small
 have hph:=hz.phase
 have hg:=AQ (d:=(0:Int)) (show b<v.phase.length by omega)
 have i1:=h.phase.addr Try.underlying23 Be (k:=b) (by rw[kn];omega)
 have i2:=h.phase.get (t:=3) Df (k:=b) (Av hg)
 have e1:=Jy Try.prog 3 (b:Int) (v.phase.getD b 0) (by rcases hp with e | e<;>rw[e]<;>constructor<;>omega)
 have hV:VL n ((b:Int) * v.phase.getD b 0):=by rcases hp with e | e<;>rw[e]<;>constructor<;>omega
 have hasg:=FZ hE h hz hV none
 have hwn:G4 none=.ptr none:=rfl
 rw[hwn]at hasg
 simp only[QK,AF,RK,h.ld_ph,i1,i2,e1,Qa,Qb,Qc,Qd,Qe,Qf,Qg,Qh,Qi,Qj,Qk,Ql,Qm,Qn,true_and,and_true,Qo,Qp,Qq,Qr,Qs,Qt,Qu,Qv,Qw,Qx,Qy,Qz,Ra,Rb,Rc,Rd,Re,Rf,Rg,Rh,Ri,Rj,Rk,Rl,Rm,Ya,Yb,Yc,Rn,Ro,Rp,Yd,Ye,Rq,Rs,Rt,Ru,Rv,Rw,Rx]
 refine hasg.mono ?_
 rintro _ s1 ⟨ow1,x1,g1,g2,_⟩
 simp only[Qa,Qb,Qc,Qd,Qe,Qf,Qg,Qh,Qi,Qj,Qk,Ql,Qm,Qn,true_and,and_true,Qo,Qp,Qq,Qr,Qs,Qt,Qu,Qv,Qw,Qx,Qy,Qz,Ra,Rb,Rc,Rd,Re,Rf,Rg,Rh,Ri,Rj,Rk,Rl,Rm,Ya,Yb,Yc,Rn,Ro,Rp,Yd,Ye,Rq,Rs,Rt,Ru,Rv,Rw,Rx]
 exact hK s1 ow1 x1 g1 g2.b
end
theorem Ia{E:BJ}(hE:Good E){ow:Ow}{s:AG}{p:Nat}{x:Sf}{v:Sv}(h:Ac ow s p x v)(hb:v.broken=true){Q:Ar→Prop}{x1 x2 x3 x4 x5 x6 x7 x8 x9 x10 x11 x12 x13:AV}
  (hq:∀y8,Q ⟨.exit 0,[AV.ptr (some (p,0)),x1,x2,x3,x4,x5,x6,x7,y8,x9,x10,x11,x12,x13],[],s⟩):
  WC E none (.loop C9) Q [AV.ptr (some (p,0)),x1,x2,x3,x4,x5,x6,x7,x8,x9,x10,x11,x12,x13] [] s:=by
 have ld:=h.ld_broken
 rw[hb]at ld
 refine WC.loop' ?_
 generalize hW:WC E none (Aa.loop C9) Q=W
 simp only[C9,Sb,AF,F4,ld,Qa,Qb,Qc,Qd,Qe,Qf,Qg,Qh,Qi,Qj,Qk,Ql,Qm,Qn,true_and,and_true,Qo,Qp,Qq,Qr,Qs,Qt,Qu,Qv,Qw,Qx,Qy,Qz,Ra,Rb,Rc,Rd,Re,Rf,Rg,Rh,Ri,Rj,Rk,Rl,Rm,Ya,Yb,Yc,Rn,Ro,Rp,Yd,Ye,Rq,Rs,Rt,Ru,Rv,Rw,Rx]
 exact hq _
theorem SF         {E : BJ}  (hE : Good E) {n most : Nat} {I : Nat → Sv → Prop} {R : Int → Sv → Prop} (hl : Hq       n most I R) (hn : n ≤ 500000) (hmost : most ≤ 1000000) {p k u : Nat} (hu : u ≤ 100000000) {ow0 : Ow} {s0 : AG}  {ow : Ow} {s : AG}  {x : Sf} {v : Sv} (h : Ac  ow s p x v) (hI : I k v) (hst : AH   (BN   p) ow0 s0 ow s) {Q : Ar   → Prop} {x5 x6 x7 x8 x9 x10 x11 x12 x13 : AV}
    (hend:∀s' ow' x' v' y5 y6 y7 y8 y9 y10 y11 y12 y13 k' u',R 0 v'→Ac ow' s' p x' v'→AH (BN p) ow0 s0 ow' s'→Q ⟨.exit 0,[AV.ptr (some (p,0)),iv (most:Int),iv 0,u',k',y5,y6,y7,y8,y9,y10,y11,y12,y13],[],s'⟩)
    (hret:∀s' ow' x' v' r y3 y4 y5 y6 y7 y8 y9 y10 y11 y12 y13,R r v'→Ac ow' s' p x' v'→AH (BN p) ow0 s0 ow' s'→Q ⟨.ret,[AV.ptr (some (p,0)),iv (most:Int),iv r,y3,y4,y5,y6,y7,y8,y9,y10,y11,y12,y13],[],s'⟩)
    (hnext:∀s' ow' x' v' k' u' y5 y6 y8 y9 y10 y11 y12 y13,I k' v'→(k<k'∧u'=u∨k'=k∧u≤k∧u'=u+32∨k'=k∧u'=u∧v.trail.length<v'.trail.length)→Ac ow' s' p x' v'→AH (BN p) ow0 s0 ow' s'→WC E none (.loop C9) Q [AV.ptr (some (p,0)),iv (most:Int),iv 0,iv (u':Int),iv (k':Int),y5,y6,x7,y8,y9,y10,y11,y12,y13] [] s'):
    WC E none (.loop C9) Q [AV.ptr (some (p,0)),iv (most:Int),iv 0,iv (u:Int),iv (k:Int),x5,x6,x7,x8,x9,x10,x11,x12,x13] [] s:=by
  have hbr:∀ {ow:Ow} {s:AG} {x:Sf} {v:Sv} {y5 y6 y8 y9 y10 y11 y12 y13:AV},Ac ow s p x v→v.broken=true→R 0 v→AH (BN p) ow0 s0 ow s→WC E none (.loop C9) Q [AV.ptr (some (p,0)),iv (most:Int),iv 0,iv (u:Int),iv (k:Int),y5,y6,x7,y8,y9,y10,y11,y12,y13] [] s:=
    fun h hb hR hst=>Ia hE h hb fun y8=>hend _ _ _ _ _ _ _ _ _ _ _ _ _ _ _ hR h hst
  cases hb:v.broken with
  | true=>exact hbr h hb (hl.brk hI hb) hst
  | false =>
    have ld:=h.ld_broken
    rw[hb]at ld
    obtain⟨hk,hi2⟩:=hl.ok hI
    refine WC.loop' ?_
    generalize hW:WC E none (Aa.loop C9) Q=W at hnext hbr
    simp only[C9,Sb,AF,F4,ld,V7,Qa,Qb,Qc,Qd,Qe,Qf,Qg,Qh,Qi,Qj,Qk,Ql,Qm,Qn,true_and,and_true,Qo,Qp,Qq,Qr,Qs,Qt,Qu,Qv,Qw,Qx,Qy,Qz,Ra,Rb,Rc,Rd,Re,Rf,Rg,Rh,Ri,Rj,Rk,Rl,Rm,Ya,Yb,Yc,Rn,Ro,Rp,Yd,Ye,Rq,Rs,Rt,Ru,Rv,Rw,Rx]
    refine(IQ hE h (B:=50000000) (kp _) hi2).mono ?_
    rintro _ s1 ⟨c,v1,ow1,x1,hp,rfl,h1,st1⟩
    obtain⟨m1,m2,m3,m4,m5⟩:=hl.mid hI hb hp
    obtain⟨hi1,hlim⟩:=hp.keep hi2
    have hf1:=hi1.inv.fit
    have hz1:=hf1.siz
    have htr:=hp.trail
    have stA:=hst.trans st1
    have hlimB:∀s,A6 Try.prog s 23 x1.lim=some (iv (v1.limits.length:Int)):=fun s=>by
      have:=h1.limits.len Try.underlying23 s
      rw[kn]at this
      exact this
    cases c with
    | some c =>
      simp only[N5,Is,Option.isSome,V8,AF,Ge,h1.ld_lim,hlimB,Qa,Qb,Qc,Qd,Qe,Qf,Qg,Qh,Qi,Qj,Qk,Ql,Qm,Qn,true_and,and_true,Qo,Qp,Qq,Qr,Qs,Qt,Qu,Qv,Qw,Qx,Qy,Qz,Ra,Rb,Rc,Rd,Re,Rf,Rg,Rh,Ri,Rj,Rk,Rl,Rm,Ya,Yb,Yc,Rn,Ro,Rp,Yd,Ye,Rq,Rs,Rt,Ru,Rv,Rw,Rx]
      by_cases hl0:v1.limits=[]
      · have d0:decide ((v1.limits.length:Int)=0)=true:=decide_eq_true (by rw[hl0];rfl)
        simp only[d0,P4,Qa,Qb,Qc,Qd,Qe,Qf,Qg,Qh,Qi,Qj,Qk,Ql,Qm,Qn,true_and,and_true,Qo,Qp,Qq,Qr,Qs,Qt,Qu,Qv,Qw,Qx,Qy,Qz,Ra,Rb,Rc,Rd,Re,Rf,Rg,Rh,Ri,Rj,Rk,Rl,Rm,Ya,Yb,Yc,Rn,Ro,Rp,Yd,Ye,Rq,Rs,Rt,Ru,Rv,Rw,Rx]
        refine(J2 hE h1 m1).mono ?_
        rintro _ s2 ⟨ow2,x2,g1,g2,_⟩
        simp only[if_true,show(1:Nat)≠2 by decide,if_false,Qa,Qb,Qc,Qd,Qe,Qf,Qg,Qh,Qi,Qj,Qk,Ql,Qm,Qn,true_and,and_true,Qo,Qp,Qq,Qr,Qs,Qt,Qu,Qv,Qw,Qx,Qy,Qz,Ra,Rb,Rc,Rd,Re,Rf,Rg,Rh,Ri,Rj,Rk,Rl,Rm,Ya,Yb,Yc,Rn,Ro,Rp,Yd,Ye,Rq,Rs,Rt,Ru,Rv,Rw,Rx]
        have hfb:(DV v1).broken=true:=by
          unfold DV
          split
          · assumption
          · rfl
        exact hbr g1 hfb (hl.fail hI hb hp hl0) (stA.trans g2.b)
      · have d0:decide ((v1.limits.length:Int)=0)=false:=decide_eq_false fun q=>hl0 (List.length_eq_zero_iff.1 (by omega))
        by_cases hmk:most≤k
        · have d1 : decide ((most : Int) ≤ (k : Int)) = true := decide_eq_true (by omega)
          have hback:WF E 63 [.ptr (some (p,0)),.int .i64 0] (fun _ s'=>∃x',Ac ow1 s' p x' (AW v1 0)∧AH (BI p) ow1 s1 ow1 s'∧x'.w=x1.w) s1:=DC hE h1 hf1 (level:=0) (by decide)
          simp only[d0,KU,d1,P5,Qa,Qb,Qc,Qd,Qe,Qf,Qg,Qh,Qi,Qj,Qk,Ql,Qm,Qn,true_and,and_true,Qo,Qp,Qq,Qr,Qs,Qt,Qu,Qv,Qw,Qx,Qy,Qz,Ra,Rb,Rc,Rd,Re,Rf,Rg,Rh,Ri,Rj,Rk,Rl,Rm,Ya,Yb,Yc,Rn,Ro,Rp,Yd,Ye,Rq,Rs,Rt,Ru,Rv,Rw,Rx]
          refine hback.mono ?_
          rintro _ s2 ⟨x2,g1,g2,_⟩
          simp only[P6,Qa,Qb,Qc,Qd,Qe,Qf,Qg,Qh,Qi,Qj,Qk,Ql,Qm,Qn,true_and,and_true,Qo,Qp,Qq,Qr,Qs,Qt,Qu,Qv,Qw,Qx,Qy,Qz,Ra,Rb,Rc,Rd,Re,Rf,Rg,Rh,Ri,Rj,Rk,Rl,Rm,Ya,Yb,Yc,Rn,Ro,Rp,Yd,Ye,Rq,Rs,Rt,Ru,Rv,Rw,Rx]
          exact hret s2 ow1 x2 _ 2 _ _ _ _ _ _ _ _ _ _ _ (hl.unk hI hb hp hl0 hmk) g1 (stA.trans g2.b)
        · have d1 : decide ((most : Int) ≤ (k : Int)) = false := decide_eq_false (by omega)
          have e1:=Ao Try.prog 3 (k:Int) 1 ⟨by omega,by omega⟩
          have e1':((k:Int)+1)=((k+1:Nat):Int):=by omega
          obtain⟨r,r1,r2,r3,r4,r5⟩:=hl.lrn hI hb hp hl0 (by omega)
          simp only[d0,KU,d1,P7,e1,e1',G4,AJ,Qa,Qb,Qc,Qd,Qe,Qf,Qg,Qh,Qi,Qj,Qk,Ql,Qm,Qn,true_and,and_true,Qo,Qp,Qq,Qr,Qs,Qt,Qu,Qv,Qw,Qx,Qy,Qz,Ra,Rb,Rc,Rd,Re,Rf,Rg,Rh,Ri,Rj,Rk,Rl,Rm,Ya,Yb,Yc,Rn,Ro,Rp,Yd,Ye,Rq,Rs,Rt,Ru,Rv,Rw,Rx]
          refine an h1 ?_
          intro s2 h2 st2
          try simp only[Qa,Qb,Qc,Qd,Qe,Qf,Qg,Qh,Qi,Qj,Qk,Ql,Qm,Qn,true_and,and_true,Qo,Qp,Qq,Qr,Qs,Qt,Qu,Qv,Qw,Qx,Qy,Qz,Ra,Rb,Rc,Rd,Re,Rf,Rg,Rh,Ri,Rj,Rk,Rl,Rm,Ya,Yb,Yc,Rn,Ro,Rp,Yd,Ye,Rq,Rs,Rt,Ru,Rv,Rw,Rx]
          refine ao hE h2 hn hf1 m4 r1 r2 r3 r4 m1 (by have:=hi1.tot;omega) m2 ?_
          intro s3 ow3 x3 h' cn f1 f2 f3 f4
          simp only[if_true,show(1:Nat)≠2 by decide,if_false,Qa,Qb,Qc,Qd,Qe,Qf,Qg,Qh,Qi,Qj,Qk,Ql,Qm,Qn,true_and,and_true,Qo,Qp,Qq,Qr,Qs,Qt,Qu,Qv,Qw,Qx,Qy,Qz,Ra,Rb,Rc,Rd,Re,Rf,Rg,Rh,Ri,Rj,Rk,Rl,Rm,Ya,Yb,Yc,Rn,Ro,Rp,Yd,Ye,Rq,Rs,Rt,Ru,Rv,Rw,Rx]
          exact hnext s3 ow3 x3 _ (k+1) u _ _ _ _ _ _ _ _ (r5 h' cn f1 f2) (.inl ⟨by omega,rfl⟩) f3 ((stA.trans st2.b).trans f4)
    | none =>
      simp only[N5,Is,Option.isSome,QA,Qa,Qb,Qc,Qd,Qe,Qf,Qg,Qh,Qi,Qj,Qk,Ql,Qm,Qn,true_and,and_true,Qo,Qp,Qq,Qr,Qs,Qt,Qu,Qv,Qw,Qx,Qy,Qz,Ra,Rb,Rc,Rd,Re,Rf,Rg,Rh,Ri,Rj,Rk,Rl,Rm,Ya,Yb,Yc,Rn,Ro,Rp,Yd,Ye,Rq,Rs,Rt,Ru,Rv,Rw,Rx]
      by_cases huk:u≤k
      · have d1 : decide ((u : Int) ≤ (k : Int)) = true := decide_eq_true (by omega)
        have e1:=Ao Try.prog 3 (u:Int) 32 ⟨by omega,by omega⟩
        have e1':((u:Int)+32)=((u+32:Nat):Int):=by omega
        simp only[d1,QB,e1,e1',QC,Qa,Qb,Qc,Qd,Qe,Qf,Qg,Qh,Qi,Qj,Qk,Ql,Qm,Qn,true_and,and_true,Qo,Qp,Qq,Qr,Qs,Qt,Qu,Qv,Qw,Qx,Qy,Qz,Ra,Rb,Rc,Rd,Re,Rf,Rg,Rh,Ri,Rj,Rk,Rl,Rm,Ya,Yb,Yc,Rn,Ro,Rp,Yd,Ye,Rq,Rs,Rt,Ru,Rv,Rw,Rx]
        refine(Sr hE h1 (by have:=hz1.heat;have:=hz1.small;omega)).mono ?_
        rintro _ s2 ⟨h',h2,hl2,st2⟩
        have hf2:Lm n (At v1 h'):=⟨⟨hz1.small,hz1.w,hz1.value,hz1.level,hz1.why,hl2.trans hz1.heat,hz1.phase,hz1.trail,hz1.limits⟩,hf1.val,hf1.lits,hf1.lims⟩
        have hback:WF E 63 [.ptr (some (p,0)),.int .i64 0] (fun _ s'=>∃x',Ac ow1 s' p x' (AW (At v1 h') 0)∧AH (BI p) ow1 s2 ow1 s'∧x'.w=x1.w) s2:=DC hE h2 hf2 (level:=0) (by decide)
        simp only[QD,Qa,Qb,Qc,Qd,Qe,Qf,Qg,Qh,Qi,Qj,Qk,Ql,Qm,Qn,true_and,and_true,Qo,Qp,Qq,Qr,Qs,Qt,Qu,Qv,Qw,Qx,Qy,Qz,Ra,Rb,Rc,Rd,Re,Rf,Rg,Rh,Ri,Rj,Rk,Rl,Rm,Ya,Yb,Yc,Rn,Ro,Rp,Yd,Ye,Rq,Rs,Rt,Ru,Rv,Rw,Rx]
        refine hback.mono ?_
        rintro _ s3 ⟨x3,h3,st3,_⟩
        obtain⟨q1,q2⟩:=hl.cool hI hb hp h' hl2
        have hroom:(AW (At v1 h') 0).room=v1.room:=by
          obtain⟨ph,va,wh,tr,li,hd,e,_⟩:=Bm (At v1 h') 0
          rw[e]
          rfl
        simp only[QE,Qa,Qb,Qc,Qd,Qe,Qf,Qg,Qh,Qi,Qj,Qk,Ql,Qm,Qn,true_and,and_true,Qo,Qp,Qq,Qr,Qs,Qt,Qu,Qv,Qw,Qx,Qy,Qz,Ra,Rb,Rc,Rd,Re,Rf,Rg,Rh,Ri,Rj,Rk,Rl,Rm,Ya,Yb,Yc,Rn,Ro,Rp,Yd,Ye,Rq,Rs,Rt,Ru,Rv,Rw,Rx]
        refine(MF hE h3 (by rw[q2,hroom];exact m3)).mono ?_
        rintro _ s4 ⟨ow4,h4,st4⟩
        simp only[if_true,Qa,Qb,Qc,Qd,Qe,Qf,Qg,Qh,Qi,Qj,Qk,Ql,Qm,Qn,true_and,and_true,Qo,Qp,Qq,Qr,Qs,Qt,Qu,Qv,Qw,Qx,Qy,Qz,Ra,Rb,Rc,Rd,Re,Rf,Rg,Rh,Ri,Rj,Rk,Rl,Rm,Ya,Yb,Yc,Rn,Ro,Rp,Yd,Ye,Rq,Rs,Rt,Ru,Rv,Rw,Rx]
        exact hnext s4 ow4 x3 _ k (u+32) _ _ _ _ _ _ _ _ q1 (.inr (.inl ⟨rfl,huk,rfl⟩)) h4 (((stA.trans st2.b).trans st3.b).trans st4.b)
      · have d1:decide ((u:Int)≤(k:Int))=false:=decide_eq_false (by omega)
        simp only[d1,QF,Qa,Qb,Qc,Qd,Qe,Qf,Qg,Qh,Qi,Qj,Qk,Ql,Qm,Qn,true_and,and_true,Qo,Qp,Qq,Qr,Qs,Qt,Qu,Qv,Qw,Qx,Qy,Qz,Ra,Rb,Rc,Rd,Re,Rf,Rg,Rh,Ri,Rj,Rk,Rl,Rm,Ya,Yb,Yc,Rn,Ro,Rp,Yd,Ye,Rq,Rs,Rt,Ru,Rv,Rw,Rx]
        refine(S7 hE h1 hz1.small hz1.value hz1.heat).mono ?_
        rintro _ s2 ⟨b,ow2,rfl,hnx,h2,st2⟩
        have stB:=stA.trans st2.b
        rcases hnx with⟨hb0,hall⟩ | ⟨hb1,hb2,hb3⟩
        · have d2:decide ((b:Int)=0)=true:=decide_eq_true (by omega)
          simp only[KV,d2,Qa,Qb,Qc,Qd,Qe,Qf,Qg,Qh,Qi,Qj,Qk,Ql,Qm,Qn,true_and,and_true,Qo,Qp,Qq,Qr,Qs,Qt,Qu,Qv,Qw,Qx,Qy,Qz,Ra,Rb,Rc,Rd,Re,Rf,Rg,Rh,Ri,Rj,Rk,Rl,Rm,Ya,Yb,Yc,Rn,Ro,Rp,Yd,Ye,Rq,Rs,Rt,Ru,Rv,Rw,Rx]
          refine ap hE h2 hn hz1.value ?_
          intro s3 ow3 x3 h3 st3
          have hf3:Lm n { v1 with model:=v1.value }:=⟨⟨hz1.small,hz1.w,hz1.value,hz1.level,hz1.why,hz1.heat,hz1.phase,hz1.trail,hz1.limits⟩,hf1.val,hf1.lits,hf1.lims⟩
          have hback:WF E 63 [.ptr (some (p,0)),.int .i64 0] (fun _ s'=>∃x',Ac ow3 s' p x' (F6 v1)∧AH (BI p) ow3 s3 ow3 s'∧x'.w=x3.w) s3:=DC hE h3 hf3 (level:=0) (by decide)
          simp only[QH,Qa,Qb,Qc,Qd,Qe,Qf,Qg,Qh,Qi,Qj,Qk,Ql,Qm,Qn,true_and,and_true,Qo,Qp,Qq,Qr,Qs,Qt,Qu,Qv,Qw,Qx,Qy,Qz,Ra,Rb,Rc,Rd,Re,Rf,Rg,Rh,Ri,Rj,Rk,Rl,Rm,Ya,Yb,Yc,Rn,Ro,Rp,Yd,Ye,Rq,Rs,Rt,Ru,Rv,Rw,Rx]
          refine hback.mono ?_
          rintro _ s4 ⟨x4,h4,st4,_⟩
          simp only[QI,Qa,Qb,Qc,Qd,Qe,Qf,Qg,Qh,Qi,Qj,Qk,Ql,Qm,Qn,true_and,and_true,Qo,Qp,Qq,Qr,Qs,Qt,Qu,Qv,Qw,Qx,Qy,Qz,Ra,Rb,Rc,Rd,Re,Rf,Rg,Rh,Ri,Rj,Rk,Rl,Rm,Ya,Yb,Yc,Rn,Ro,Rp,Yd,Ye,Rq,Rs,Rt,Ru,Rv,Rw,Rx]
          exact hret s4 ow3 x4 _ 1 _ _ _ _ _ _ _ _ _ _ _ (hl.maybe hI hb hp hall) h4 ((stB.trans st3).trans st4.b)
        · have d2 : decide ((b : Int) = 0) = false := decide_eq_false (by omega)
          have hvl:=hz1.value
          have hIn:=hl.dec hI hb hp hb1 (by omega) hb3
          have hlt:v1.trail.length<(Cg v1 b).trail.length:=by
            show _<(v1.trail++[_]).length
            rw[kr];simp
          have hll:v1.limits.length+1≤n:=by
            have:=(hl.ok hIn).2.inv.fit.siz.limits
            have e:(Cg v1 b).limits.length=v1.limits.length+1:=by
              show(v1.limits++[_]).length=_
              rw[kr];rfl
            omega
          simp only[KV,d2,Qa,Qb,Qc,Qd,Qe,Qf,Qg,Qh,Qi,Qj,Qk,Ql,Qm,Qn,true_and,and_true,Qo,Qp,Qq,Qr,Qs,Qt,Qu,Qv,Qw,Qx,Qy,Qz,Ra,Rb,Rc,Rd,Re,Rf,Rg,Rh,Ri,Rj,Rk,Rl,Rm,Ya,Yb,Yc,Rn,Ro,Rp,Yd,Ye,Rq,Rs,Rt,Ru,Rv,Rw,Rx]
          refine aq h2 (by omega) ?_
          intro s3 ow3 x3 h3 st3
          try simp only[Qa,Qb,Qc,Qd,Qe,Qf,Qg,Qh,Qi,Qj,Qk,Ql,Qm,Qn,true_and,and_true,Qo,Qp,Qq,Qr,Qs,Qt,Qu,Qv,Qw,Qx,Qy,Qz,Ra,Rb,Rc,Rd,Re,Rf,Rg,Rh,Ri,Rj,Rk,Rl,Rm,Ya,Yb,Yc,Rn,Ro,Rp,Yd,Ye,Rq,Rs,Rt,Ru,Rv,Rw,Rx]
          refine ar hE h3 (n:=n) ⟨hz1.small,hz1.w,hz1.value,hz1.level,hz1.why,hz1.heat,hz1.phase,hz1.trail,by show(v1.limits++[_]).length≤n;rw[kr];exact hll⟩ hb1 (by omega) (m5 b hb1 (by omega)) ?_
          intro s4 ow4 x4 h4 st4
          try simp only[Qa,Qb,Qc,Qd,Qe,Qf,Qg,Qh,Qi,Qj,Qk,Ql,Qm,Qn,true_and,and_true,Qo,Qp,Qq,Qr,Qs,Qt,Qu,Qv,Qw,Qx,Qy,Qz,Ra,Rb,Rc,Rd,Re,Rf,Rg,Rh,Ri,Rj,Rk,Rl,Rm,Ya,Yb,Yc,Rn,Ro,Rp,Yd,Ye,Rq,Rs,Rt,Ru,Rv,Rw,Rx]
          exact hnext s4 ow4 x4 _ k u _ _ _ _ _ _ _ _ hIn (.inr (.inr ⟨rfl,rfl,by omega⟩)) h4 ((stB.trans st3).trans st4)
theorem SE{E:BJ}(hE:Good E){n most:Nat}{I:Nat→Sv→Prop}{R:Int→Sv→Prop}(hl:Hq n most I R)(hn:n≤500000)(hmost:most≤1000000){p:Nat}{ow0:Ow}{s0:AG}{Q:Ar→Prop}{x7:AV}
  (hend:∀s' ow' x' v' y5 y6 y7 y8 y9 y10 y11 y12 y13 k' u',R 0 v'→Ac ow' s' p x' v'→AH (BN p) ow0 s0 ow' s'→Q ⟨.exit 0,[AV.ptr (some (p,0)),iv (most:Int),iv 0,u',k',y5,y6,y7,y8,y9,y10,y11,y12,y13],[],s'⟩)
  (hret:∀s' ow' x' v' r y3 y4 y5 y6 y7 y8 y9 y10 y11 y12 y13,R r v'→Ac ow' s' p x' v'→AH (BN p) ow0 s0 ow' s'→Q ⟨.ret,[AV.ptr (some (p,0)),iv (most:Int),iv r,y3,y4,y5,y6,y7,y8,y9,y10,y11,y12,y13],[],s'⟩):
  ∀ (m1 m2 m3:Nat) (k u:Nat) (s:AG) (ow:Ow) (x:Sf) (v:Sv) (x5 x6 x8 x9 x10 x11 x12 x13:AV),most - k=m1→k+1 - u=m2→n - v.trail.length=m3→u≤50+k+32→I k v→Ac ow s p x v→AH (BN p) ow0 s0 ow s →
   WC E none (.loop C9) Q [AV.ptr (some (p,0)),iv (most:Int),iv 0,iv (u:Int),iv (k:Int),x5,x6,x7,x8,x9,x10,x11,x12,x13] [] s:=by
 intro m1
 induction m1 using Nat.strongRecOn with
 | _ m1 ih1 =>
 intro m2
 induction m2 using Nat.strongRecOn with
 | _ m2 ih2 =>
 intro m3
 induction m3 using Nat.strongRecOn with
 | _ m3 ih3 =>
 intro k u s ow x v x5 x6 x8 x9 x10 x11 x12 x13 e1 e2 e3 hu hI h hst
 have hk:=(hl.ok hI).1
 refine SF hE hl hn hmost (u:=u) (by omega) h hI hst hend hret ?_
 intro s' ow' x' v' k' u' y5 y6 y8 y9 y10 y11 y12 y13 hI' hc h' st'
 have hk':=(hl.ok hI').1
 have ht':=(hl.ok hI').2.inv.fit.siz.trail
 rcases hc with⟨c1,c2⟩ | ⟨c1,c2,c3⟩ | ⟨c1,c2,c3⟩
 ·exact ih1 (most - k') (by omega) (k'+1 - u') (n - v'.trail.length) k' u' s' ow' x' v' _ _ _ _ _ _ _ _ rfl rfl rfl (by omega) hI' h' st'
 ·exact ih2 (k'+1 - u') (by omega) (n - v'.trail.length) k' u' s' ow' x' v' _ _ _ _ _ _ _ _ (by omega) rfl rfl (by omega) hI' h' st'
 ·exact ih3 (n - v'.trail.length) (by omega) k' u' s' ow' x' v' _ _ _ _ _ _ _ _ (by omega) (by omega) rfl (by omega) hI' h' st'
theorem Yk{E:BJ}(hE:Good E){n most:Nat}{I:Nat→Sv→Prop}{R:Int→Sv→Prop}(hl:Hq n most I R)(hn:n≤500000)(hmost:most≤1000000){ow:Ow}{s:AG}{p:Nat}{x:Sf}{v:Sv}(h:Ac ow s p x v)(hf:Lm n v)(hI:I 0 (AW v 0)):
  WF E 34 [AJ p,iv (most:Int)] (fun r s'=>∃c v' ow' x',r=iv c∧R c v'∧Ac ow' s' p x' v'∧AH (BN p) ow s ow' s') s:=by
 have he:=Gb p
 simp only[AJ]at he
 have hback:WF E 63 [.ptr (some (p,0)),.int .i64 0] (fun _ s'=>∃x',Ac ow s' p x' (AW v 0)∧AH (BI p) ow s ow s'∧x'.w=x.w) s:=DC hE h hf (level:=0) (by decide)
 refine hE.go XZ (by decide) rfl ?_
 simp only[jn,V2,V3,AJ,he,V4,Qa,Qb,Qc,Qd,Qe,Qf,Qg,Qh,Qi,Qj,Qk,Ql,Qm,Qn,true_and,and_true,Qo,Qp,Qq,Qr,Qs,Qt,Qu,Qv,Qw,Qx,Qy,Qz,Ra,Rb,Rc,Rd,Re,Rf,Rg,Rh,Ri,Rj,Rk,Rl,Rm,Ya,Yb,Yc,Rn,Ro,Rp,Yd,Ye,Rq,Rs,Rt,Ru,Rv,Rw,Rx]
 refine hback.mono ?_
 rintro _ s1 ⟨x1,h1,st1,_⟩
 simp only[V5,V6,Qa,Qb,Qc,Qd,Qe,Qf,Qg,Qh,Qi,Qj,Qk,Ql,Qm,Qn,true_and,and_true,Qo,Qp,Qq,Qr,Qs,Qt,Qu,Qv,Qw,Qx,Qy,Qz,Ra,Rb,Rc,Rd,Re,Rf,Rg,Rh,Ri,Rj,Rk,Rl,Rm,Ya,Yb,Yc,Rn,Ro,Rp,Yd,Ye,Rq,Rs,Rt,Ru,Rv,Rw,Rx]
 refine SE hE hl hn hmost (ow0:=ow) (s0:=s) ?_ ?_ _ _ _ 0 32 s1 ow x1 (AW v 0) _ _ _ _ _ _ _ _ rfl rfl rfl (by omega) hI h1 st1.b
 ·intro s' ow' x' v' y5 y6 y7 y8 y9 y10 y11 y12 y13 k' u' hR hS hst
  simp only[if_true,QL,Qa,Qb,Qc,Qd,Qe,Qf,Qg,Qh,Qi,Qj,Qk,Ql,Qm,Qn,true_and,and_true,Qo,Qp,Qq,Qr,Qs,Qt,Qu,Qv,Qw,Qx,Qy,Qz,Ra,Rb,Rc,Rd,Re,Rf,Rg,Rh,Ri,Rj,Rk,Rl,Rm,Ya,Yb,Yc,Rn,Ro,Rp,Yd,Ye,Rq,Rs,Rt,Ru,Rv,Rw,Rx]
  exact⟨0,v',ow',x',rfl,hR,hS,hst⟩
 ·intro s' ow' x' v' r y3 y4 y5 y6 y7 y8 y9 y10 y11 y12 y13 hR hS hst
  simp only[Qa,Qb,Qc,Qd,Qe,Qf,Qg,Qh,Qi,Qj,Qk,Ql,Qm,Qn,true_and,and_true,Qo,Qp,Qq,Qr,Qs,Qt,Qu,Qv,Qw,Qx,Qy,Qz,Ra,Rb,Rc,Rd,Re,Rf,Rg,Rh,Ri,Rj,Rk,Rl,Rm,Ya,Yb,Yc,Rn,Ro,Rp,Yd,Ye,Rq,Rs,Rt,Ru,Rv,Rw,Rx]
  exact⟨r,v',ow',x',rfl,hR,hS,hst⟩
structure Live(n A:Nat)(F:List (List Int))(C:List Nat)(v:Sv):Prop where
 brk:v.broken=false
 ci:CI n F v.head.toNat v
 h0:0≤v.head
 h1:v.head≤(v.trail.length:Int)
 cod:Pe n A v C
structure TI(n:Nat)(F:List (List Int))(M:Nat)(v:Sv):Prop where
 brk:v.broken=true
 inv:FW n 50000000 v
 lim:v.limits=[]
 trc:v.trace.length≤1000000
 few:v.trace.length≤M+1
 many:v.many≤(M:Int)
 no:∀σ,¬ BQ σ F
def FD(m:List Int)(k:Nat):Bool:=decide (0<m.getD k 0)
theorem Pe.of{n A:Nat}{v v':Sv}{C:List Nat}(h:Pe n A v C)(h1:v'.cl=v.cl)(h2:v'.many=v.many)(h3:v'.learned=v.learned)(h4:v'.trace=v.trace)(h5:v'.watches=v.watches)(h6:v'.room=v.room):Pe n A v' C:=
 ⟨h.nd,by rw[h1];exact h.mem,by rw[h2];exact h.many,by rw[h3];exact h.lrn,by rw[h4];exact h.trc,by rw[h5];exact h.tot,by rw[h6];exact h.room⟩
theorem Pe.prog{n A:Nat}{v v':Sv}{C:List Nat}(h:Pe n A v C)(p:Et v v')(ht:CD v'.watches≤2 * (A+C.length)):Pe n A v' C:=
 ⟨h.nd,fun k hk=>by
  obtain⟨h1,h2,c,ls,b,h3,h4⟩:=h.mem k hk
  obtain⟨ls',q1,q2⟩:=(p.cl c).2 ls b h3
  exact⟨h1,h2,c,ls',b,q1,by rw[← h4];exact Kk (fun x=>q2.mem_iff) n⟩,by rw[p.many];exact h.many,by rw[p.learned];exact h.lrn,by rw[p.trace];exact h.trc,ht,by rw[p.room];exact h.room⟩
theorem Pe.back{n A:Nat}{v:Sv}{C:List Nat}(h:Pe n A v C)(j:Nat):Pe n A (AW v j) C:=by
 obtain⟨ph,va,wh,tr,li,hd,e,_⟩:=Bm v j
 rw[e]
 exact h.of rfl rfl rfl rfl rfl rfl
theorem CI.zero{n h:Nat}{F:List (List Int)}{w:Sv}(k:CI n F h w)(hz:w.limits=[]→h=w.head.toNat∧0≤w.head∧w.head≤(w.trail.length:Int)):CI n F (AW w 0).head.toNat (AW w 0)∧(AW w 0).limits=[]∧0≤(AW w 0).head∧(AW w 0).head≤((AW w 0).trail.length:Int):=by
  by_cases hl:w.limits=[]
  · obtain⟨g1,g2,g3⟩:=hz hl
    rw[L4 (by rw[hl];exact kp _)]
    exact⟨by rw[← g1];exact k,hl,g2,g3⟩
  · have hpos : 0 < w.limits.length := List.length_pos_iff.2 hl
    have ht:=AQ (d:=(0:Int)) hpos
    generalize w.limits.getD 0 0=t at ht
    obtain⟨b1,b2,b3,b4⟩:=k.back ht
    have ht0:=k.ct.lim t (kq ht)
    have htl:=k.ct.below t (kq ht)
    refine⟨by rw[b4];exact b1,by rw[b3];rfl,by rw[b4];exact ht0,?_⟩
    rw[b4,b2,lI]
    omega
theorem Aw.heat{n:Nat}{v:Sv}(hi:Aw n v){h:List Int}(hl:h.length=v.heat.length):Aw n (At v h):=by
 obtain⟨⟨hz,hv,hli,hlm⟩,g2,g3,g4,g5⟩:=hi
 exact⟨⟨⟨hz.small,hz.w,hz.value,hz.level,hz.why,hl.trans hz.heat,hz.phase,hz.trail,hz.limits⟩,hv,hli,hlm⟩,g2,g3,g4,g5⟩
theorem Aw.many{n:Nat}{v:Sv}(hi:Aw n v):Aw n (Bh v):=by
 obtain⟨⟨hz,hv,hli,hlm⟩,g2,g3,g4,g5⟩:=hi
 exact⟨⟨⟨hz.small,hz.w,hz.value,hz.level,hz.why,hz.heat,hz.phase,hz.trail,hz.limits⟩,hv,hli,hlm⟩,g2,g3,g4,g5⟩
theorem Aw.model{n:Nat}{v:Sv}(hi:Aw n v)(m:List Int):Aw n { v with model:=m }:=by
 obtain⟨⟨hz,hv,hli,hlm⟩,g2,g3,g4,g5⟩:=hi
 exact⟨⟨⟨hz.small,hz.w,hz.value,hz.level,hz.why,hz.heat,hz.phase,hz.trail,hz.limits⟩,hv,hli,hlm⟩,g2,g3,g4,g5⟩
theorem CI.models {n : Nat} {F : List (List Int)} {v : Sv} (k : CI n F v.trail.length v) (hF : ∀ f ∈ F, ∀ y ∈ f, VL n y) (hall : ∀ j, 1 ≤ j → j < n + 1 → v.value.getD j 0 ≠ 0) : BQ     (FD    v.value) F := by
  have hi:=k.ct.inv
  have hsat:∀ {y:Int},y∈v.trail→Ew (FD v.value) y:=fun {y} hy=>by
    have h1:=hi.holds y hy
    have h0:=(hi.fit.lits y hy).1
    unfold Ew FD
    rw[h1]
    unfold Pc
    rcases Int.lt_or_gt_of_ne h0 with q | q
    · right;exact⟨q,by rw[if_pos q];rfl⟩
    · left;exact⟨q,by rw[if_neg (by omega)];rfl⟩
  have hval:∀ {y:Int},VL n y→y∈v.trail∨-y∈v.trail:=fun {y} hy=>by
    by_cases h1:y∈v.trail
    · exact .inl h1
    · by_cases h2 : -y ∈ v.trail
      · exact .inr h2
      · have:=hi.zero hy.1 h1 h2
        exact absurd this (hall _ (by have:=hy.1;omega) (by have:=hy.2;omega))
  intro f hf
  rcases k.cover f hf with⟨y,h1,h2⟩ | ⟨c,ls,b,h1,h2⟩
  · rcases Ew.or  (σ := FD    v.value) (hF f hf y h1).1 with q | q
    · exact⟨y,h1,q⟩
    · exact⟨-y,h2,q⟩
  · obtain⟨c1,c2,c3,c4⟩:=k.ct.cls c ls b h1
    have m0:ls.getD 0 0∈ls:=kq (AQ (List.length_pos_iff.2 c2))
    by_cases hl1:ls.length=1
    · exact⟨_,h2 _ m0,hsat (k.unit c ls b h1 hl1).1⟩
    · have h2l:2≤ls.length:=by
        have:=List.length_pos_iff.2 c2
        omega
      have m1:ls.getD 1 0∈ls:=kq (AQ (by omega))
      rcases hval (c1.1 _ m0)with q | q
      · exact⟨_,h2 _ m0,hsat q⟩
      · have hok:=(k.cw.wok c ls b h1 h2l).2 (by simp)
        unfold GT at hok
        rw[lz]at hok
        exact⟨_,h2 _ m1,hsat (hok.1 q).1⟩
def Ue(n A:Nat)(F:List (List Int))(c0 most k:Nat)(v:Sv):Prop:=k≤most∧((∃C,Live n A F C v∧C.length=c0+k)∨TI n F (c0+most) v)
def iM(n A:Nat)(F:List (List Int))(c0 most:Nat)(r:Int)(v:Sv):Prop:=
 (r=0∧TI n F (c0+most) v)∨(r=1∧∃C,Live n A F C v∧v.limits=[]∧C.length≤c0+most∧v.model.length=n+1∧BQ (FD v.model) F) ∨
 (r=2∧∃C,Live n A F C v∧v.limits=[]∧C.length≤c0+most∧c0+most+1≤3 ^ n - 1)
theorem D5{n A:Nat}{F:List (List Int)}{C:List Nat}{v v1:Sv}{c:Option Nat}(hL:Live n A F C v)(hA:2 * (A+C.length)≤50000000)(hp:Bl v c v1):
  Et v v1∧CT n v1∧FW n 50000000 v1∧Pe n A v1 C∧(c=none→CI n F v1.trail.length v1∧v1.head=(v1.trail.length:Int))∧∀d,c=some d→∃h,CI n F h v1∧(v1.limits=[]→True)∧∃l,GG v1 d l∧lv v1 l=(v1.limits.length:Int):=by
 have hI2:FW n (2 * (A+C.length)) v:=⟨hL.ci.ct.inv,hL.cod.tot,hL.h0,hL.h1⟩
 have hlh:∀x∈v.limits,x≤v.head:=fun x hx=>by have:=hL.ci.lh x hx;have:=hL.h0;omega
 obtain⟨p1,p2,p3,p4,p5⟩:=hp.cw hL.ci.ct hL.ci.cw hI2 hlh
 refine⟨p1,p2,⟨p3.inv,by have:=p3.tot;omega,p3.h0,p3.h1⟩,hL.cod.prog p1 p3.tot,fun hc=>?_,fun d hd=>?_⟩
 ·obtain⟨q1,q2⟩:=p4 hc
  have e:v1.head.toNat=v1.trail.length:=by omega
  rw[e]at q1
  refine⟨hL.ci.prog p1 p2 q1 (kp _) fun x hx=>?_,q2⟩
  have:=hL.ci.ct.below x hx
  obtain⟨T,eT⟩:=p1.tr
  rw[eT,kr]
  omega
 ·obtain⟨h,q1,q2,l,q3,q4⟩:=p5 d hd
  have hlen:v.trail.length≤v1.trail.length:=by
   obtain⟨T,eT⟩:=p1.tr
   rw[eT,kr];omega
  have hcw:CW v1 (min h v1.trail.length) []:=q1.less (Nat.min_le_left _ _)
  refine⟨min h v1.trail.length,hL.ci.prog p1 p2 hcw (Nat.min_le_right _ _) fun x hx=>?_,fun _=>trivial,l,q3,by rw[p1.limits];exact q4⟩
  have:=q2 x hx
  have:=hL.ci.ct.below x hx
  omega
theorem UK        {n A : Nat} {F : List (List Int)} {c0 most : Nat} (hF : ∀ f ∈ F, ∀ y ∈ f, VL n y) (hA : A ≤ 1000000) (hb : 3 ^ n ≤ 1900 ∨ c0 + most ≤ 1900) : Hq       n most (Ue    n A F c0 most) (iM    n A F c0 most) := by
  have small:∀ {C:List Nat} {v:Sv} {k:Nat},Live n A F C v→C.length=c0+k→k≤most→C.length≤1900:=fun hL he hk=>by
    rcases hb with q | q
    · have:=hL.cod.len;omega
    · omega
  have live:∀ {k v},Ue n A F c0 most k v→v.broken=false→k≤most∧∃C,Live n A F C v∧C.length=c0+k∧C.length≤1900:=fun hI hbr=>by
    obtain⟨hk,⟨C,hL,he⟩ | hD⟩:=hI
    · exact⟨hk,C,hL,he,small hL he hk⟩
    · rw[hD.brk]at hbr;cases hbr
  refine⟨fun hI=>?_,fun hI hbr=>?_,fun hI hbr hp=>?_,fun hI hbr hp hl=>?_,fun hI hbr hp hl hk=>?_,fun hI hbr hp hl hk=>?_,fun hI hbr hp h hh=>?_,fun hI hbr hp hall=>?_,fun hI hbr hp h1 h2 h3=>?_⟩
  · obtain ⟨hk, ⟨C, hL, he⟩ | hD⟩ := hI
    · have:=small hL he hk
      exact⟨hk,hL.ci.ct.inv,by have:=hL.cod.tot;omega,hL.h0,hL.h1⟩
    · exact⟨hk,hD.inv⟩
  · obtain ⟨hk, ⟨C, hL, he⟩ | hD⟩ := hI
    · rw[hL.brk]at hbr;cases hbr
    · exact .inl ⟨rfl,hD⟩
  · obtain ⟨hk, C, hL, he, hs⟩ := live hI hbr
    obtain⟨p1,p2,p3,p4,p5,p6⟩:=D5 hL (by omega) hp
    refine⟨by have:=p4.trc;omega,by have:=p4.lrn;omega,by rw[p4.room];have:=p4.lrn;omega,fun c ls b hc=>(p2.cls c ls b hc).1,?_⟩
    have:=hL.ci.phase
    unfold DG at this
    rw[p1.phase]
    exact this
  · obtain ⟨hk, C, hL, he, hs⟩ := live hI hbr
    obtain⟨p1,p2,p3,p4,p5,p6⟩:=D5 hL (by omega) hp
    obtain⟨h,k1,_,l,k2,k3⟩:=p6 _ rfl
    have hbr1:=p1.broken.trans hbr
    refine .inl ⟨rfl,?_⟩
    rw[Fe hbr1]
    obtain⟨⟨⟨hz,hv,hli,hlm⟩,g2,g3,g4,g5⟩,t1,t2,t3⟩:=p3
    refine⟨rfl,⟨⟨⟨⟨hz.small,hz.w,hz.value,hz.level,hz.why,hz.heat,hz.phase,hz.trail,hz.limits⟩,hv,hli,hlm⟩,g2,g3,g4,g5⟩,t1,t2,t3⟩,hl,?_,?_,?_,fun σ hσ=>?_⟩
    · show(List.length (_++[_]))≤_
      rw[kr]
      have:=p4.trc
      simp;omega
    · show(List.length (_++[_]))≤_
      rw[kr]
      have:=p4.trc
      simp;omega
    · show Sv.many _≤_
      have:=p4.many
      dsimp only
      omega
    · obtain ⟨ls, b, q1, q2, q3, q4⟩ := k2
      obtain⟨y,hy,hs⟩:=k1.imp σ hσ _ ls b q1
      obtain⟨i,e⟩:=DS.1 (q3 y hy)
      refine hs.neg (p2.zero (k1.imp σ hσ) i (-y) e ?_)
      have:=p2.lev i _ e
      unfold lv
      rw[this,hl];rfl
  · rename_i k v c v1
    obtain⟨hkm,C,hL,he,hs⟩:=live hI hbr
    obtain⟨p1,p2,p3,p4,p5,p6⟩:=D5 hL (by omega) hp
    obtain⟨h,k1,_,l,k2,k3⟩:=p6 _ rfl
    obtain⟨r,r1,r2⟩:=Gl p2 hl k2 k3
    obtain⟨z1,z2,z3,z4⟩:=k1.zero fun q=>absurd q hl
    have hnew:C.length+1≤3 ^ n - 1:=by
      have hlist:=r2.list p2
      have hnd:(code (AU v1 r) n::C).Nodup:=by
        rw[mV]
        refine⟨fun q=>?_,p4.nd⟩
        obtain⟨_,_,c',ls,b,q1,q2⟩:=p4.mem _ q
        exact r2.fresh k1 hl q1 q2
      have:=Cc hnd (n:=3 ^ n - 1) fun x hx=>by
        rcases lM.1 hx with e | e
        · rw[e]
          have hm:r.hd∈AU v1 r:=(hlist.mem _).2 (.inl rfl)
          have:=OR hm (hlist.ok.1 _ hm)
          have:=Hx (AU v1 r) n
          omega
        · obtain ⟨q1, q2, _⟩ := p4.mem x e
          omega
      simpa using this
    refine .inr (.inr ⟨rfl,C,⟨?_,z1,z3,z4,p4.back 0⟩,z2,by omega,by omega⟩)
    obtain⟨ph,va,wh,tr,li,hd,e,_⟩:=Bm v1 0
    rw[e]
    exact p1.broken.trans hbr
  · rename_i k v c v1
    obtain⟨hkm,C,hL,he,hs⟩:=live hI hbr
    obtain⟨p1,p2,p3,p4,p5,p6⟩:=D5 hL (by omega) hp
    obtain⟨h,k1,_,l,k2,k3⟩:=p6 _ rfl
    obtain⟨r,r1,r2⟩:=Gl p2 hl k2 k3
    have hlist:=r2.list p2
    have hsm:=p2.inv.fit.siz
    have hlevb:0≤r.lev∧r.lev<(v1.limits.length:Int):=by
      have hpos:0<v1.limits.length:=List.length_pos_iff.2 hl
      rcases r2.lev.2 with⟨_,e⟩ | ⟨q,hq,e⟩
      · omega
      · have:=r2.lits q hq;omega
    refine⟨r,r1,hlist.ok,hlevb.1,by have:=hsm.limits;have:=hsm.small;omega,fun hh cn hhl hcn=>?_⟩
    have hiw:Aw n (At (Bh v1) hh):=p2.inv.many.heat (v:=Bh v1) hhl
    have kw:CI n F h (At (Bh v1) hh):=k1.of hiw rfl rfl rfl rfl rfl rfl rfl
    have hLw:ED (At (Bh v1) hh) r:=⟨r2.uip,r2.lits,r2.nd,r2.lev,r2.imp⟩
    have eL:AU (At (Bh v1) hh) r=AU v1 r:=rfl
    obtain⟨g1,g2,g3,g4,g5⟩:=S1 kw hl hLw (c:=cn) hcn
    rw[eL]at g1 g2 g3
    obtain⟨ph,va,wh,tr,li,hd,e,_⟩:=Bm (At (Bh v1) hh) r.lev.toNat
    have hcodnew:code (AU v1 r) n ∉ C:=fun q=>by
      obtain⟨_,_,c',ls,b,q1,q2⟩:=p4.mem _ q
      exact r2.fresh k1 hl q1 q2
    have hm:r.hd∈AU v1 r:=(hlist.mem _).2 (.inl rfl)
    generalize hvb:AW (At (Bh v1) hh) r.lev.toNat=vb at *
    have ecl:vb.cl=v1.cl:=by rw[e];rfl
    have emany:vb.many=DZ .i64 (v1.many+1):=by rw[e];rfl
    have elrn:vb.learned=v1.learned:=by rw[e];rfl
    have etrc:vb.trace=v1.trace:=by rw[e];rfl
    have ewat:vb.watches=v1.watches:=by rw[e];rfl
    have eroom:vb.room=v1.room:=by rw[e];rfl
    have ebrk:vb.broken=v1.broken:=by rw[e];rfl
    have kcl:(Ax vb cn (AU v1 r)).cl=AP vb.cl cn (AU v1 r,(true,false)):=by unfold Ax;split<;>rfl
    have kmany:(Ax vb cn (AU v1 r)).many=vb.many:=by unfold Ax;split<;>rfl
    have klrn:(Ax vb cn (AU v1 r)).learned.length≤vb.learned.length+1:=by
      unfold Ax
      split
      · show(vb.learned++[cn]).length≤_
        rw[kr];simp
      · show vb.learned.length≤_
        omega
    have ktrc:(Ax vb cn (AU v1 r)).trace.length=vb.trace.length+1:=by
      unfold Ax
      split<;>(show(vb.trace++[_]).length=_;rw[kr];rfl)
    have kwat:(Ax vb cn (AU v1 r)).watches=EW vb.watches cn (AU v1 r):=by unfold Ax EW;split<;>rfl
    have kroom:(Ax vb cn (AU v1 r)).room=vb.room:=by unfold Ax;split<;>rfl
    have kbrk:(Ax vb cn (AU v1 r)).broken=vb.broken:=by unfold Ax;split<;>rfl
    refine⟨by omega,.inl ⟨code (AU v1 r) n::C,⟨by rw[kbrk,ebrk];exact p1.broken.trans hbr,g1,g2,g3,?_⟩,by rw[lO];omega⟩⟩
    refine⟨by rw[mV];exact⟨hcodnew,p4.nd⟩,fun x hx=>?_,?_,?_,?_,?_,by rw[kroom,eroom];exact p4.room⟩
    · rcases lM.1            hx with q | q
      · rw[q]
        exact⟨OR hm (hlist.ok.1 _ hm),Hx _ n,cn,AU v1 r,(true,false),by rw[kcl];exact Aj _ _ _,rfl⟩
      · obtain⟨q1,q2,c',ls,b,q3,q4⟩:=p4.mem x q
        refine⟨q1,q2,c',ls,b,?_,q4⟩
        rw[kcl,ecl]
        unfold AP
        rw[if_neg fun z=>by rw[z,hcn]at q3;cases q3]
        exact q3
    · rw[kmany,emany,lO,p4.many,EP ⟨by omega,by omega⟩]
      omega
    · rw[lO]
      have:=p4.lrn
      rw[elrn]at klrn
      omega
    · rw[ktrc,etrc,lO]
      have:=p4.trc
      omega
    · rw[kwat,lO,ewat]
      have:=IR v1.watches cn (AU v1 r)
      have:=p4.tot
      omega
  · rename_i k v v1
    obtain⟨hkm,C,hL,he,hs⟩:=live hI hbr
    obtain⟨p1,p2,p3,p4,p5,p6⟩:=D5 hL (by omega) hp
    obtain⟨k1,k2⟩:=p5 rfl
    have kw:CI n F v1.trail.length (At v1 h):=k1.of (p2.inv.heat hh) rfl rfl rfl rfl rfl rfl rfl
    obtain⟨z1,z2,z3,z4⟩:=kw.zero fun _=>⟨by show v1.trail.length=v1.head.toNat;omega,by show 0≤v1.head;omega,by show v1.head≤(v1.trail.length:Int);omega⟩
    obtain⟨ph,va,wh,tr,li,hd,e,_⟩:=Bm (At v1 h) 0
    have hc:Pe n A (At v1 h) C:=p4.of rfl rfl rfl rfl rfl rfl
    refine⟨⟨hkm,.inl ⟨C,⟨?_,z1,z3,z4,hc.back 0⟩,he⟩⟩,by rw[e];rfl⟩
    rw[e]
    exact p1.broken.trans hbr
  · rename_i k v v1
    obtain⟨hkm,C,hL,he,hs⟩:=live hI hbr
    obtain⟨p1,p2,p3,p4,p5,p6⟩:=D5 hL (by omega) hp
    obtain⟨k1,k2⟩:=p5 rfl
    have kw:CI n F v1.trail.length { v1 with model:=v1.value }:=k1.of (p2.inv.model _) rfl rfl rfl rfl rfl rfl rfl
    obtain⟨z1,z2,z3,z4⟩:=kw.zero fun _=>⟨by show v1.trail.length=v1.head.toNat;omega,by show 0≤v1.head;omega,by show v1.head≤(v1.trail.length:Int);omega⟩
    obtain⟨ph,va,wh,tr,li,hd,e,_⟩:=Bm { v1 with model:=v1.value } 0
    have hc:Pe n A { v1 with model:=v1.value } C:=p4.of rfl rfl rfl rfl rfl rfl
    have em:(F6 v1).model=v1.value:=by unfold F6;rw[e]
    refine .inr (.inl ⟨rfl,C,⟨?_,z1,z3,z4,hc.back 0⟩,z2,by omega,?_,?_⟩)
    · unfold F6
      rw[e]
      exact p1.broken.trans hbr
    · rw[em];exact p2.inv.fit.siz.value
    · rw[em];exact k1.models hF hall
  · rename_i k v v1 b
    obtain⟨hkm,C,hL,he,hs⟩:=live hI hbr
    obtain⟨p1,p2,p3,p4,p5,p6⟩:=D5 hL (by omega) hp
    obtain⟨k1,k2⟩:=p5 rfl
    obtain⟨g1,g2⟩:=k1.guess h1 h2 h3
    have ehd:(Cg v1 b).head=v1.head:=rfl
    refine⟨hkm,.inl ⟨C,⟨p1.broken.trans hbr,?_,by rw[ehd];omega,by rw[ehd,g2];omega,p4.of rfl rfl rfl rfl rfl rfl⟩,he⟩⟩
    rw[ehd,show v1.head.toNat=v1.trail.length by omega]
    exact g1
def SI(n A:Nat)(F:List (List Int))(M:Nat)(v:Sv):Prop:=(∃C,Live n A F C v∧v.limits=[]∧C.length≤M)∨TI n F M v
def Bd(n A M:Nat):Prop:=n≤1000∧A≤10000∧(3 ^ n≤1900∨M≤1900)
theorem Live.few{n A:Nat}{F:List (List Int)}{C:List Nat}{v:Sv}{M:Nat}(h:Live n A F C v)(hM:C.length≤M)(hb:Bd n A M):C.length≤1900:=by
 rcases hb.2.2 with q | q
 ·have:=h.cod.len;omega
 ·omega
theorem SI.inv{n A:Nat}{F:List (List Int)}{M:Nat}{v:Sv}(h:SI n A F M v)(hb:Bd n A M):Aw n v∧v.limits=[]∧v.trace.length≤1000000∧CD v.watches≤50000000:=by
  rcases h with⟨C,h1,h2,h3⟩ | h
  · have := h1.few h3 hb
    have:=h1.cod.trc
    have:=h1.cod.tot
    have:=hb.2.1
    exact⟨h1.ci.ct.inv,h2,by omega,by omega⟩
  · exact⟨h.inv.inv,h.lim,h.trc,h.inv.tot⟩
theorem Fa{v:Sv}(h:v.limits=[]):AW v 0=v:=L4 (by rw[h];exact kp _)
theorem TI.mono{n:Nat}{F F':List (List Int)}{M M':Nat}{v:Sv}(h:TI n F M v)(hM:M≤M')(hF:∀σ,BQ σ F'→BQ σ F):TI n F' M' v:=
 ⟨h.brk,h.inv,h.lim,h.trc,by have:=h.few;omega,by have:=h.many;omega,fun σ hσ=>h.no σ (hF σ hσ)⟩
theorem Live.ne{n A:Nat}{F:List (List Int)}{C:List Nat}{v:Sv}(h:Live n A F C v):[] ∉ F:=fun q=>by
 rcases h.ci.cover [] q with⟨y,hy,_⟩ | ⟨c,ls,b,h1,h2⟩
 ·cases hy
 ·obtain⟨_,c2,_,_⟩:=h.ci.ct.cls c ls b h1
  cases ls with
  | nil=>exact c2 rfl
  | cons y ls=>exact absurd (h2 y (kx ..)) (by simp)
structure FV(k:Nat)(v:Sv):Prop where
 w:v.watches=List.replicate (2 * k) []
 value:v.value=List.replicate k 0
 level:v.level=List.replicate k 0
 why:v.why=List.replicate k none
 heat:v.heat=List.replicate k 0
 phase:v.phase=List.replicate k (-1)
 rest:v.learned=[]∧v.trail=[]∧v.limits=[]∧v.head=0∧v.broken=false∧v.model=[]∧v.trace=[]∧v.many=0∧v.room=2000∧v.cl=fun _=>none
theorem FV.one{k:Nat}{v:Sv}(h:FV k v):FV (k+1) (Ob v):=by
 have e:∀ {α:Type} (a:α),List.replicate (k+1) a=List.replicate k a++[a]:=fun a=>List.replicate_succ'
 refine⟨?_,?_,?_,?_,?_,?_,h.rest⟩
 ·show v.watches++[[],[]]=_
  rw[h.w,show 2 * (k+1)=2 * k+2 by omega,← List.replicate_append_replicate]
  rfl
 ·show v.value++[0]=_;rw[h.value,e]
 ·show v.level++[0]=_;rw[h.level,e]
 ·show v.why++[none]=_;rw[h.why,e]
 ·show v.heat++[0]=_;rw[h.heat,e]
 ·show v.phase++[-1]=_;rw[h.phase,e]
theorem FV.grow:∀ (m:Nat){k:Nat}{v:Sv},FV k v→FV (k+m) (Sw m v)
 | 0,k,v,h=>h
 | m+1,k,v,h=>by
  have:=FV.grow m h.one
  rw[show k+(m+1)=k+1+m by omega]
  exact this
theorem Ix(n:Nat):FV (n+1) (Sx R3 n):=by
 have h0:FV 0 R3:=⟨rfl,rfl,rfl,rfl,rfl,rfl,rfl,rfl,rfl,rfl,rfl,rfl,rfl,rfl,rfl,rfl⟩
 have:=h0.grow (n+1)
 rw[lD]at this
 exact this
theorem Oa{α:Type}(m k:Nat)(a:α):(List.replicate m a).getD k a=a:=by
 rw[lK,List.getElem?_replicate]
 split<;>rfl
theorem FV.live    {n : Nat} (hn : n < 100000000) {v : Sv} (h : FV    (n + 1) v) : Live n 0 [] [] v ∧ v.limits = [] := by
  obtain⟨r1,r2,r3,r4,r5,r6,r7,r8,r9,r10⟩:=h.rest
  have hw:∀k,v.watches.getD k []=[]:=fun k=>by rw[h.w];exact Oa _ _ _
  have hi:Aw n v:=by
    refine⟨⟨⟨hn,by rw[h.w,mQ];omega,by rw[h.value,mQ],by rw[h.level,mQ],by rw[h.why,mQ],by rw[h.heat,mQ],by rw[h.phase,mQ],by rw[r2];exact ku _,by rw[r3];exact ku _⟩,fun x hx=>?_,by rw[r2];simp,by rw[r3];simp⟩,by rw[r2];simp,by rw[r2];simp,fun k _=>by rw[h.value];exact Oa _ _ _,fun L hL c hc=>?_⟩
    · rw[h.value]at hx
      have:=List.eq_of_mem_replicate hx
      exact .inr (.inl this)
    · rw [h.w] at hL
      rw[List.eq_of_mem_replicate hL]at hc
      cases hc
  have hcl:∀c l,v.cl c=some l→False:=fun c l hc=>by rw[r10]at hc;cases hc
  refine⟨⟨r5,⟨⟨hi,by rw[r3];exact List.Pairwise.nil,by rw[r3];simp,by rw[r2];simp,by rw[r2];simp,fun c ls b hc=>(hcl _ _ hc).elim⟩,⟨fun c ls b hc=>(hcl _ _ hc).elim,fun k c ls b _ hc=>(hcl _ _ hc).elim,fun k=>by rw[hw];exact List.Pairwise.nil,fun c ls b hc=>(hcl _ _ hc).elim⟩,by rw[r4];exact ku _,by rw[r3];simp,fun c ls b hc=>(hcl _ _ hc).elim,fun j t _ c ls b hc=>(hcl _ _ hc).elim,fun σ _ c ls b hc=>(hcl _ _ hc).elim,by simp,fun k h1 h2=>?_⟩,by rw[r4];exact mF _,by rw[r4,r2];exact mF _,⟨by simp,by simp,by rw[r8];rfl,by rw[r1];exact kp _,by rw[r7];exact kp _,?_,r9⟩⟩,r3⟩
  · rw[h.phase,lK,List.getElem?_replicate,if_pos (by omega)]
    exact .inr rfl
  · rw[h.w]
    have:∀m,CD (List.replicate m [])=0:=fun m=>by
      induction m with
      | zero=>rfl
      | succ m ih =>
        rw[me]
        show([]:List Nat).length+CD (List.replicate m [])=0
        rw[ih];rfl
    rw[this]
    exact ku _
theorem aL{E:BJ}(hE:Good E)(ow:Ow){s:AG}{n:Nat}(hn:n≤1000):
  WF E 40 [iv (n:Int)] (fun r s'=>∃v ow' x',r=AJ s.next∧Ac ow' s' s.next x' v∧SI n 0 [] 0 v∧v.many=0∧AH (BN s.next) ow s ow' s') s:=by
 refine(YE hE ow (n:=n) (by omega)).mono ?_
 rintro _ s' ⟨ow',x',rfl,g1,g2⟩
 obtain⟨h1,h2⟩:=(Ix n).live (by omega)
 exact⟨_,ow',x',rfl,g1,.inl ⟨[],h1,h2,kp _⟩,(Ix n).rest.2.2.2.2.2.2.2.1,g2⟩
theorem SI.add {n A : Nat} {F : List (List Int)} {M : Nat} {v : Sv} (h : SI n A F M v) (hb : Bd n A M) {f : List Int} (hf : ∀ q ∈ f, VL n q) (hlen : f.length ≤ 12) {v' : Sv} (hr : KF   v f v') : SI n (A + 1) (F ++ [f]) M v' ∧ v'.many = v.many := by
  rcases h with⟨C,h1,h2,h3⟩ | h
  · have hfew:=h1.few h3 hb
    rcases Uj h1.ci h2 h1.brk hf hlen hr with⟨g1,g2,g3,g4,g5⟩ | ⟨g1,g2,g3,g4,g5,g6⟩
    · refine⟨.inl ⟨C,⟨g1,by rw[g3.head];exact g2,by rw[g3.head];exact h1.h0,by rw[g3.head];have:=h1.h1;omega,⟨h1.cod.nd,fun k hk=>?_,by rw[g3.many];exact h1.cod.many,by rw[g3.learned];exact h1.cod.lrn,by rw[g4];exact h1.cod.trc,by have:=g3.tot;have:=h1.cod.tot;omega,by rw[g3.room];exact h1.cod.room⟩⟩,by rw[g3.limits];exact h2,h3⟩,g3.many⟩
      obtain⟨q1,q2,c,ls,b,q3,q4⟩:=h1.cod.mem k hk
      exact⟨q1,q2,c,ls,b,g3.cl _ _ q3,q4⟩
    · refine ⟨.inr ⟨g1, ⟨g2, ?_, by rw [g3.head]; exact h1.h0, by rw [g3.head, g5]; exact h1.h1⟩, by rw [g3.limits]; exact h2, ?_, ?_, ?_, g6⟩, g3.many⟩
      · have := g3.tot
        have:=h1.cod.tot
        have:=hb.2.1
        omega
      · rw[g4]
        have:=h1.cod.trc
        omega
      · rw[g4]
        have:=h1.cod.trc
        omega
      · rw[g3.many,h1.cod.many]
        omega
  · have e:v'=v:=by
      cases hr with
      | none _=>rfl
      | nil _ hb' _=>rw[h.brk]at hb';cases hb'
      | put _ hb' _ _=>rw[h.brk]at hb';cases hb'
    rw[e]
    exact⟨.inr (h.mono (kp _) fun σ hσ g hg=>hσ g (lE _ hg)),rfl⟩
theorem ZA{E:BJ}(hE:Good E){ow:Ow}{s:AG}{p:Nat}{x:Sf}{v:Sv}(h:Ac ow s p x v){n A:Nat}{F:List (List Int)}{M:Nat}(hI:SI n A F M v)(hbd:Bd n A M){f:List Int}(hf:∀q∈f,VL n q)(hlen:f.length≤12){b:Nat}{u:AV}(hb:b≤s.next)(hu:Ae b s u (A3 f))(hus:∀j,EO u=some j→(ow j).1≠p∧j<s.next):
  WF E 36 [AJ p,u] (fun r s'=>r=iv 0∧∃v' ow' x',SI n (A+1) (F++[f]) M v'∧v'.many=v.many∧Ac ow' s' p x' v'∧AH (BN p) ow s ow' s') s:=by
 obtain⟨i1,i2,i3,i4⟩:=hI.inv hbd
 have hbk:=Fa i2
 refine(Uk hE h i1.fit (by rw[hbk];exact i1.fit.val) i3 (by omega) hlen hf hb hu hus).mono ?_
 rintro _ s' ⟨rfl,v',ow',x',g1,g2,g3⟩
 rw[hbk]at g1
 obtain⟨k1,k2⟩:=hI.add hbd hf hlen g1
 exact⟨rfl,v',ow',x',k1,k2,g2,g3⟩
theorem UL{E:BJ}(hE:Good E){ow:Ow}{s:AG}{p:Nat}{x:Sf}{v:Sv}(h:Ac ow s p x v){n A:Nat}{F:List (List Int)}{M most:Nat}(hI:SI n A F M v)(hbd:Bd n A (M+most))(hmost:most≤100000)(hF:∀f∈F,∀y∈f,VL n y):
  WF E 34 [AJ p,iv (most:Int)] (fun r s'=>∃ (c:Int) (v':Sv) (ow':Ow) (x':Sf),r=iv c∧SI n A F (M+most) v'∧(v'.many≤((M+most:Nat):Int))∧(c=0∧(∀σ,¬ BQ σ F)∨c=1∧v'.model.length=n+1∧BQ (FD v'.model) F∨c=2∧(n≤6→most<729)∧[] ∉ F)∧Ac ow' s' p x' v'∧AH (BN p) ow s ow' s') s:=by
 obtain⟨h1,h2,h3⟩:=hbd
 have start:∃c0,c0≤M∧Ue n A F c0 most 0 v∧(3 ^ n≤1900∨c0+most≤1900):=by
  rcases hI with⟨C,g1,g2,g3⟩ | g
  ·exact⟨C.length,g3,⟨ku _,.inl ⟨C,g1,rfl⟩⟩,h3.imp id fun q=>by omega⟩
  ·exact⟨M,kp _,⟨ku _,.inr (g.mono (by omega) fun σ hσ=>hσ)⟩,h3⟩
 obtain⟨c0,s1,s2,s3⟩:=start
 obtain⟨i1,i2,_,_⟩:=hI.inv ⟨h1,h2,h3.imp id fun q=>by omega⟩
 have hbk:=Fa i2
 refine(Yk hE (UK (A:=A) (c0:=c0) (most:=most) hF (by omega) s3) (by omega) (by omega) h i1.fit (by rw[hbk];exact s2)).mono ?_
 rintro _ s' ⟨c,v',ow',x',rfl,g1,g2,g3⟩
 rcases g1 with⟨rfl,k⟩ | ⟨rfl,C,k1,k2,k3,k4,k5⟩ | ⟨rfl,C,k1,k2,k3,k4⟩
 ·exact⟨0,v',ow',x',rfl,.inr (k.mono (by omega) fun σ hσ=>hσ),by have:=k.many;omega,.inl ⟨rfl,k.no⟩,g2,g3⟩
 ·exact⟨1,v',ow',x',rfl,.inl ⟨C,k1,k2,by omega⟩,by rw[k1.cod.many];omega,.inr (.inl ⟨rfl,k4,k5⟩),g2,g3⟩
 ·refine⟨2,v',ow',x',rfl,.inl ⟨C,k1,k2,by omega⟩,by rw[k1.cod.many];omega,.inr (.inr ⟨rfl,fun hn=>?_,k1.ne⟩),g2,g3⟩
  have:3 ^ n≤3 ^ 6:=Nat.pow_le_pow_right (by decide) hn
  have e:(3:Nat) ^ 6=729:=rfl
  omega
theorem UV{E:BJ}(hE:Good E){ow:Ow}{s:AG}{p:Nat}{x:Sf}{v:Sv}(h:Ac ow s p x v){k:Nat}(h1:1≤k):
    WF E 41 [AJ p,iv (k:Int)] (fun r s'=>r=.bool (FD v.model k)∧s=s') s:=by
  have hne:AM Try.prog .neq 44 (AJ p) (.ptr none)=some (.bool true):=rfl
  have d1:decide ((0:Int)<(k:Int))=true:=decide_eq_true (by omega)
  have ln:∀s,A6 Try.prog s 23 x.mo=some (iv (v.model.length:Int)):=fun s=>by
    have:=h.model.len Try.underlying23 s
    rw[kn]at this
    exact this
  simp only[AJ]at hne
  refine hE.go fh (by decide) rfl ?_
  by_cases hk:k<v.model.length
  · have d2 : decide ((k : Int) < (v.model.length : Int)) = true := decide_eq_true (by omega)
    have hg:=AQ (d:=(0:Int)) hk
    have i1:=h.model.addr Try.underlying23 Be (k:=k) (by rw[kn];exact hk)
    have i2:=h.model.get (t:=3) Df (k:=k) (Av hg)
    simp only[jo,WD,WE,AJ,hne,d1,AF,NM,h.ld_mo,ln,d2,i1,i2,Qa,Qb,Qc,Qd,Qe,Qf,Qg,Qh,Qi,Qj,Qk,Ql,Qm,Qn,true_and,and_true,Qo,Qp,Qq,Qr,Qs,Qt,Qu,Qv,Qw,Qx,Qy,Qz,Ra,Rb,Rc,Rd,Re,Rf,Rg,Rh,Ri,Rj,Rk,Rl,Rm,Ya,Yb,Yc,Rn,Ro,Rp,Yd,Ye,Rq,Rs,Rt,Ru,Rv,Rw,Rx]
    rfl
  · have d2 : decide ((k : Int) < (v.model.length : Int)) = false := decide_eq_false (by omega)
    have e:FD v.model k=false:=by
      unfold FD
      rw[lK,lQ (by omega)]
      rfl
    simp only[jo,WD,WE,AJ,hne,d1,AF,NM,h.ld_mo,ln,d2,Qa,Qb,Qc,Qd,Qe,Qf,Qg,Qh,Qi,Qj,Qk,Ql,Qm,Qn,true_and,and_true,Qo,Qp,Qq,Qr,Qs,Qt,Qu,Qv,Qw,Qx,Qy,Qz,Ra,Rb,Rc,Rd,Re,Rf,Rg,Rh,Ri,Rj,Rk,Rl,Rm,Ya,Yb,Yc,Rn,Ro,Rp,Yd,Ye,Rq,Rs,Rt,Ru,Rv,Rw,Rx]
    rw[e]
def Dr(V:Nat→Option Sv)(p:Nat)(v:Sv):Nat→Option Sv:=fun q=>if q=p then some v else V q
theorem Ay(V:Nat→Option Sv)(p:Nat)(v:Sv):Dr V p v p=some v:=if_pos rfl
theorem FO{V:Nat→Option Sv}{p q:Nat}{v:Sv}(h:q≠p):Dr V p v q=V q:=if_neg h
theorem CJ(V:Nat→Option Sv)(p:Nat)(v w:Sv):Dr (Dr V p v) p w=Dr V p w:=by
 funext q
 unfold Dr
 split<;>rfl
def B3(B:Nat→Prop)(s:AG)(V:Nat→Option Sv):Prop:=∃ow:Ow,(∀p v,V p=some v→∃x,Ac ow s p x v)∧∀j,B j→j<s.next∧V (ow j).1=none
def Dc(B:Nat→Prop)(s s':AG):Prop:=s.next≤s'.next∧∀j,B j→s'.heap.get j=s.heap.get j
theorem Dc.refl(B:Nat→Prop)(s:AG):Dc B s s:=⟨kp _,fun _ _=>rfl⟩
theorem Dc.trans{B:Nat→Prop}{s s1 s2:AG}(h:Dc B s s1)(k:Dc B s1 s2):Dc B s s2:=⟨lF h.1 k.1,fun j hj=>(k.2 j hj).trans (h.2 j hj)⟩
theorem Dc.mono{B B':Nat→Prop}{s s':AG}(h:Dc B s s')(k:∀j,B' j→B j):Dc B' s s':=⟨h.1,fun j hj=>h.2 j (k j hj)⟩
theorem B3.less{B B':Nat→Prop}{s:AG}{V:Nat→Option Sv}(h:B3 B s V)(k:∀j,B' j→B j):B3 B' s V:=by
 obtain⟨ow,h1,h2⟩:=h
 exact⟨ow,h1,fun j hj=>h2 j (k j hj)⟩
theorem B3.frame{B:Nat→Prop}{s s':AG}{V:Nat→Option Sv}(h:B3 B s V)(hn:s.next≤s'.next)(hf:∀j,j<s.next→¬ B j→s'.heap.get j=s.heap.get j):B3 (fun j=>B j∨(s.next≤j∧j<s'.next)) s' V:=by
  obtain⟨ow,h1,h2⟩:=h
  have hV:V s.next=none:=by
    cases hv:V s.next with
    | none=>rfl
    | some v =>
      obtain⟨x,hx⟩:=h1 _ v hv
      have:=hx.lt
      omega
  have st:AH (fun t=>V t.1=none) ow s (ext ow s.next (s.next,0,0)) s':=⟨hn,fun x hx _=>Dj hx,fun x hx hm=>hf x hx fun q=>hm (h2 x q).2⟩
  refine⟨ext ow s.next (s.next,0,0),fun p v hp=>?_,fun j hj=>?_⟩
  · obtain⟨x,hx⟩:=h1 p v hp
    exact⟨x,hx.keep st fun t ht e=>by rw[e,hp]at ht;cases ht⟩
  · rcases hj with q | ⟨q1, q2⟩
    · obtain⟨r1,r2⟩:=h2 j q
      exact⟨by omega,by rw[Dj r1];exact r2⟩
    · exact⟨q2,by rw[Cn q1];exact hV⟩
theorem B3.old{B:Nat→Prop}{s s':AG}{V:Nat→Option Sv}(h:B3 B s V)(ho:B6 s.next s s'):B3 (fun j=>B j∨(s.next≤j∧j<s'.next)) s' V:=h.frame ho.1 fun j hj _=>ho.2 j hj
theorem Dc.old{B:Nat→Prop}{s s':AG}{V:Nat→Option Sv}(h:B3 B s V)(ho:B6 s.next s s'):Dc B s s':=by
 obtain⟨ow,_,h2⟩:=h
 exact⟨ho.1,fun j hj=>ho.2 j (h2 j hj).1⟩
theorem B3.used{B:Nat→Prop}{s s':AG}{V:Nat→Option Sv}{ow ow':Ow}{p:Nat}{v v':Sv}{x':Sf}(h1:∀p v,V p=some v→∃x,Ac ow s p x v)(h2:∀j,B j→j<s.next∧V (ow j).1=none)(hp:V p=some v)(hs:Ac ow' s' p x' v')(st:AH (BN p) ow s ow' s'):B3 B s' (Dr V p v')∧Dc B s s':=by
  have hn:=st.next
  have hB:∀j,B j→¬ BN p (ow j):=fun j hj q=>by
    have q:(ow j).1=p:=q
    have:=(h2 j hj).2
    rw[q,hp]at this
    cases this
  refine⟨⟨ow',fun q w hq=>?_,fun j hj=>?_⟩,hn,fun j hj=>st.heap j (h2 j hj).1 (hB j hj)⟩
  · by_cases e : q = p
    · rw[e,Ay]at hq
      injection hq with hq
      rw[← hq,e]
      exact⟨x',hs⟩
    · rw[FO e]at hq
      obtain⟨x,hx⟩:=h1 q w hq
      exact⟨x,hx.keep st fun t ht e'=>by rw[show t.1=p from ht]at e';exact e e'.symm⟩
  · obtain⟨r1,r2⟩:=h2 j hj
    refine⟨by omega,?_⟩
    rw[st.tags j r1 (hB j hj)]
    have:(ow j).1≠p:=fun q=>hB j hj q
    rw[FO this]
    exact r2
theorem PM{E:BJ}(hE:Good E){B:Nat→Prop}{s:AG}{V:Nat→Option Sv}(h:B3 B s V){n:Nat}(hn:n≤1000):
    WF E 40 [iv (n:Int)] (fun r s'=>∃v,r=AJ s.next∧V s.next=none∧B3 B s' (Dr V s.next v)∧Dc B s s'∧SI n 0 [] 0 v∧v.many=0) s:=by
  obtain⟨ow,h1,h2⟩:=h
  have hV:∀q,s.next≤q→V q=none:=fun q hq=>by
    cases hv:V q with
    | none=>rfl
    | some v =>
      obtain⟨x,hx⟩:=h1 _ v hv
      have:=hx.lt
      omega
  have st1:AH (fun t=>V t.1=none) ow s (fun j=>match V (ow j).1 with | none=>(s.next+1,0,0) | some _=>ow j) s:=⟨kp _,fun x hx hm=>by
    cases hv:V (ow x).1 with
    | none=>exact absurd hv hm
    | some v=>simp only[hv],fun _ _ _=>rfl⟩
  have h1':∀p v,V p=some v→∃x,Ac (fun j=>match V (ow j).1 with | none=>(s.next+1,0,0) | some _=>ow j) s p x v:=fun p v hp=>by
    obtain⟨x,hx⟩:=h1 p v hp
    exact⟨x,hx.keep st1 fun t ht e=>by rw[e,hp]at ht;cases ht⟩
  have h2':∀j,B j→j<s.next∧((fun j=>match V (ow j).1 with | none=>(s.next+1,0,0) | some _=>ow j:Ow) j)=(s.next+1,0,0):=fun j hj=>by
    obtain⟨r1,r2⟩:=h2 j hj
    exact⟨r1,by simp only[r2]⟩
  generalize (fun j=>match V (ow j).1 with | none=>(s.next+1,0,0) | some _=>ow j:Ow)=ow1 at *
  refine(aL hE ow1 hn).mono ?_
  rintro _ s' ⟨v,ow',x',rfl,g1,g2,g3,g4⟩
  have hB:∀j,B j→¬ BN s.next (ow1 j):=fun j hj q=>by
    have q:(ow1 j).1=s.next:=q
    rw[(h2' j hj).2]at q
    exact absurd q (by show s.next+1≠s.next;omega)
  have hnx:=g4.next
  refine⟨v,rfl,hV _ (kp _),⟨ow',fun q w hq=>?_,fun j hj=>?_⟩,⟨hnx,fun j hj=>g4.heap j (h2' j hj).1 (hB j hj)⟩,g2,g3⟩
  · by_cases e : q = s.next
    · rw[e,Ay]at hq
      injection hq with hq
      rw[← hq,e]
      exact⟨x',g1⟩
    · rw[FO e]at hq
      obtain⟨x,hx⟩:=h1' q w hq
      exact⟨x,hx.keep g4 fun t ht e'=>by rw[show t.1=s.next from ht]at e';exact e e'.symm⟩
  · obtain⟨r1,r2⟩:=h2' j hj
    refine⟨by omega,?_⟩
    rw[g4.tags j r1 (hB j hj),r2,FO (by show s.next+1≠s.next;omega)]
    exact hV _ (by omega)
def kG(B:Nat→Prop)(u:AV):Prop:=∀j,EO u=some j→B j
theorem PL{E:BJ}(hE:Good E){B:Nat→Prop}{s:AG}{V:Nat→Option Sv}(h:B3 B s V){p:Nat}{v:Sv}(hp:V p=some v){n A:Nat}{F:List (List Int)}{M:Nat}(hI:SI n A F M v)(hbd:Bd n A M){f:List Int}(hf:∀q∈f,VL n q)(hlen:f.length≤12){b:Nat}{u:AV}(hb:b≤s.next)(hu:Ae b s u (A3 f))(hus:kG B u):
  WF E 36 [AJ p,u] (fun r s'=>r=iv 0∧∃v',SI n (A+1) (F++[f]) M v'∧v'.many=v.many∧B3 B s' (Dr V p v')∧Dc B s s') s:=by
 obtain⟨ow,h1,h2⟩:=h
 obtain⟨x,hx⟩:=h1 p v hp
 refine(ZA hE hx hI hbd hf hlen hb hu fun j hj=>?_).mono ?_
 ·obtain⟨r1,r2⟩:=h2 j (hus j hj)
  exact⟨fun q=>(by rw[q,hp]at r2;cases r2),r1⟩
 rintro _ s' ⟨rfl,v',ow',x',g1,g2,g3,g4⟩
 obtain⟨k1,k2⟩:=B3.used h1 h2 hp g3 g4
 exact⟨rfl,v',g1,g2,k1,k2⟩
theorem GC{E:BJ}(hE:Good E){B:Nat→Prop}{s:AG}{V:Nat→Option Sv}(h:B3 B s V){p:Nat}{v:Sv}(hp:V p=some v){n A:Nat}{F:List (List Int)}{M most:Nat}(hI:SI n A F M v)(hbd:Bd n A (M+most))(hmost:most≤100000)(hF:∀f∈F,∀y∈f,VL n y):
  WF E 34 [AJ p,iv (most:Int)] (fun r s'=>∃ (c:Int) (v':Sv),r=iv c∧SI n A F (M+most) v'∧(v'.many≤((M+most:Nat):Int))∧(c=0∧(∀σ,¬ BQ σ F)∨c=1∧v'.model.length=n+1∧BQ (FD v'.model) F∨c=2∧(n≤6→most<729)∧[] ∉ F)∧B3 B s' (Dr V p v')∧Dc B s s') s:=by
 obtain⟨ow,h1,h2⟩:=h
 obtain⟨x,hx⟩:=h1 p v hp
 refine(UL hE hx hI hbd hmost hF).mono ?_
 rintro _ s' ⟨c,v',ow',x',rfl,g1,g2,g3,g4,g5⟩
 obtain⟨k1,k2⟩:=B3.used h1 h2 hp g4 g5
 exact⟨c,v',rfl,g1,g2,g3,k1,k2⟩
theorem Hf{E:BJ}(hE:Good E){B:Nat→Prop}{s:AG}{V:Nat→Option Sv}(h:B3 B s V){p:Nat}{v:Sv}(hp:V p=some v){k:Nat}(h1:1≤k):
  WF E 41 [AJ p,iv (k:Int)] (fun r s'=>r=.bool (FD v.model k)∧s=s') s:=by
 obtain⟨ow,g1,g2⟩:=h
 obtain⟨x,hx⟩:=g1 p v hp
 exact UV hE hx h1
theorem UJ{E:BJ}(hE:Good E){B:Nat→Prop}{s:AG}{V:Nat→Option Sv}(h:B3 B s V){p:Nat}{v:Sv}(hp:V p=some v){n:Nat}(hn:n<100000000)(hv:v.value.length=n+1):WF E 47 [AJ p] (fun r s'=>r=iv (n:Int)∧s=s') s:=by
 obtain⟨ow,g1,g2⟩:=h
 obtain⟨x,hx⟩:=g1 p v hp
 exact Nt hE hx hn hv
theorem JJ(s:AG):B3 (fun j=>j<s.next) s fun _=>none:=⟨fun _=>(0,0,0),fun p v hp=>(by cases hp),fun j hj=>⟨hj,rfl⟩⟩
end
end Go.Proofs.Ytilhhmkdcoajnaa.Am
set_option linter.unusedVariables false
set_option linter.unusedSimpArgs false
namespace Go.Proofs.Ytilhhmkdcoajnaa.Am
open Go Go.Proofs
noncomputable section
def bM:List AA:=[
 ⟨none,.p1 some,[(.const (.bool false))],(.set 0),[]⟩]
def bN:List AA:=[
 ⟨none,.call 40,[(.const (.int .i64 (2)))],.push,[]⟩,
 ⟨none,.p1 some,[.loc 0],(.set 1),[]⟩]
def bO:List AA:=[
 ⟨none,.call 47,[.var 1],.push,[]⟩,
 ⟨none,.p2 (AM Try.prog .neq 3),[(.loc 0),(.const (.int .i64 (2)))],.push,[]⟩,
 ⟨(some ((.loc 0),false)),.p1 some,[.var 1],.push,[]⟩,
 ⟨(some ((.loc 1),false)),.call 34,[(.loc 0),(.const (.int .i64 (729)))],.push,[]⟩,
 ⟨(some ((.loc 2),false)),.p2 (AM Try.prog .neq 3),[(.loc 0),(.const (.int .i64 (1)))],.push,[]⟩,
 ⟨none,.p Rn,[(.loc 3),(.const (.bool true)),(.loc 0)],(.set 4),[]⟩]
def ij:List AA:=[
 ⟨none,.p1 some,[(.const (.bool false))],(.set 0),[]⟩]
def bP:List AA:=[
 ⟨none,.mk (fun l=>(Ab Try.prog 23 2 (zipIdx [0,1] l)).bind fun r=>some (r,.slice 2)),[(.const (.int .i64 (1))),(.const (.int .i64 (2)))],.push,[]⟩,
 ⟨none,.call 36,[.var 1,.loc 0],.push,[]⟩]
def bQ:List AA:=[
 ⟨none,.mk (fun l=>(Ab Try.prog 23 2 (zipIdx [0,1] l)).bind fun r=>some (r,.slice 2)),[(.const (.int .i64 (-1))),(.const (.int .i64 (2)))],.push,[]⟩,
 ⟨none,.call 36,[.var 1,.loc 0],.push,[]⟩]
def bR:List AA:=[
 ⟨none,.mk (fun l=>(Ab Try.prog 23 2 (zipIdx [0,1] l)).bind fun r=>some (r,.slice 2)),[(.const (.int .i64 (1))),(.const (.int .i64 (-2)))],.push,[]⟩,
 ⟨none,.call 36,[.var 1,.loc 0],.push,[]⟩]
def bS:List AA:=[
 ⟨none,.call 34,[(.var 1),(.const (.int .i64 (729)))],.push,[]⟩,
 ⟨none,.p2 (AM Try.prog .eql 3),[(.loc 0),(.const (.int .i64 (1)))],.push,[]⟩,
 ⟨(some ((.loc 0),true)),.p1 some,[.var 1],.push,[]⟩,
 ⟨(some ((.loc 1),true)),.call 41,[(.loc 0),(.const (.int .i64 (1)))],.push,[]⟩,
 ⟨none,.p Rn,[(.loc 2),(.loc 0),(.const (.bool false))],.push,[]⟩,
 ⟨(some ((.loc 0),true)),.p1 some,[.var 1],.push,[]⟩,
 ⟨(some ((.loc 1),true)),.call 41,[(.loc 0),(.const (.int .i64 (2)))],.push,[]⟩,
 ⟨none,.p Rn,[(.loc 2),(.loc 0),(.const (.bool false))],.push,[]⟩,
 ⟨none,.p1 some,[.loc 0],(.set 2),[]⟩]
def bT:List AA:=[
 ⟨none,.mk (fun l=>(Ab Try.prog 23 2 (zipIdx [0,1] l)).bind fun r=>some (r,.slice 2)),[(.const (.int .i64 (-1))),(.const (.int .i64 (-2)))],.push,[]⟩,
 ⟨none,.call 36,[.var 1,.loc 0],.push,[]⟩]
def bU:List AA:=[
 ⟨none,.call 40,[(.const (.int .i64 (0)))],.push,[]⟩,
 ⟨none,.p1 some,[.loc 0],(.set 3),[]⟩]
def WA:List AA:=[
 ⟨none,.call 36,[(.var 3),(.const (.slice none 0 (some 0)))],.push,[]⟩]
def WB:List AA:=[
 ⟨(some ((.var 2),true)),.p1 some,[.var 1],.push,[]⟩,
 ⟨(some ((.var 2),true)),.call 34,[(.loc 0),(.const (.int .i64 (729)))],.push,[]⟩,
 ⟨(some ((.var 2),true)),.p2 (AM Try.prog .eql 3),[(.loc 0),(.const (.int .i64 (0)))],.push,[]⟩,
 ⟨none,.p Rn,[(.var 2),(.loc 0),(.const (.bool false))],.push,[]⟩,
 ⟨(some ((.loc 0),true)),.p1 some,[.var 3],.push,[]⟩,
 ⟨(some ((.loc 1),true)),.call 34,[(.loc 0),(.const (.int .i64 (0)))],.push,[]⟩,
 ⟨(some ((.loc 2),true)),.p2 (AM Try.prog .eql 3),[(.loc 0),(.const (.int .i64 (0)))],.push,[]⟩,
 ⟨none,.p Rn,[(.loc 3),(.loc 0),(.const (.bool false))],.push,[]⟩,
 ⟨none,.p1 some,[.loc 0],(.set 0),[]⟩]
def kI:As:=⟨0,5,(.seq (.ops bM) (.seq (.ops bN) (.seq (.seq (.ops bO) (.cond (.var 4)
 (.seq (.ops ij) .ret)
 .skip)) (.seq (.ops bP) (.seq (.ops bQ) (.seq (.ops bR) (.seq (.ops bS) (.seq (.ops bT) (.seq (.ops bU) (.seq (.ops WA) (.seq (.ops WB) .ret))))))))))),[((.var 0),none)]⟩
theorem ff:AR Try.prog 37=some kI:=by kernel_rfl
end
end Go.Proofs.Ytilhhmkdcoajnaa.Am
set_option linter.unusedVariables false
set_option linter.unusedSimpArgs false
set_option maxRecDepth 16000
namespace Go.Proofs.Ytilhhmkdcoajnaa.Am
open Go Go.Proofs
noncomputable section
abbrev Y3(n:Int):AV:=.int .u8 n
theorem Fc(x y:Int):Ab Try.prog 23 2 (zipIdx [0,1] [iv x,iv y])=some (AO 3 1 [iv x,iv y]):=by
 simp[Ab,Try.underlying23,Be,AI,Pd,zipIdx,Dk,AV.cells,J8]
 rfl
theorem PD{s:AG}{L:List Int}(hL:L≠[]):Ae (s.next+1) (newObj s (AO 3 1 (A3 L))) (.slice (some (s.next,0)) L.length (some L.length)) (A3 L)∧∀j,EO (.slice (some (s.next,0)) L.length (some L.length))=some j→j=s.next:=by
 obtain⟨r,h1,h2,h3,h4,h5,h6⟩:=CP 3 1 (A3 L)
 refine⟨⟨some (s.next,0),some L.length,by simp,fun k u hk=>⟨s.next,0,rfl,lW _,?_⟩⟩,fun j hj=>?_⟩
 ·rw[lD]
  exact B9 (by rw[AY,if_pos rfl,h1]) (by rw[h2.1];exact Af hk) (h2.2 k u hk)
 ·simp[EO]at hj
  exact hj.symm
theorem Hr{E:BJ}(hE:Good E){B:Nat→Prop}{s:AG}{V:Nat→Option Sv}(h:B3 B s V){p:Nat}{v:Sv}(hp:V p=some v){n A:Nat}{F:List (List Int)}{M:Nat}(hI:SI n A F M v)(hbd:Bd n A M)(x y:Int)(hx:VL n x)(hy:VL n y){K:AV→AG→Prop}
  (hK:∀s' v',SI n (A+1) (F++[[x,y]]) M v'→B3 B s' (Dr V p v')→Dc B s s'→K (iv 0) s'):
  WF E 36 [.ptr (some (p,0)),.slice (some (s.next,0)) 2 (some 2)] K (newObj s (AO 3 1 [iv x,iv y])):=by
 have ho:=B6.new s (AO 3 1 [iv x,iv y])
 have h1:=h.old ho
 obtain⟨g1,g2⟩:=PD (s:=s) (L:=[x,y]) (by simp)
 have hk1:=Dc.old h ho
 have hadd:=PL hE h1 hp hI hbd (f:=[x,y]) (fun q hq=>by
  rcases lM.1 hq with e | e
  ·rw[e];exact hx
  ·rw[List.mem_singleton.1 e];exact hy) (by simp) (b:=s.next+1) (kp _) g1 (fun j hj=>by rw[g2 j hj];exact .inr ⟨kp _,lW _⟩)
 refine hadd.mono ?_
 rintro _ s' ⟨rfl,v',q1,q2,q3,q4⟩
 exact hK s' v' q1 (q3.less fun j hj=>.inl hj) (hk1.trans (q4.mono fun j hj=>.inl hj))
theorem jN{σ:Nat→Bool}:(Ew σ 1↔σ 1=true)∧(Ew σ 2↔σ 2=true)∧(Ew σ (-1)↔σ 1=false)∧(Ew σ (-2)↔σ 2=false):=by
 unfold Ew
 refine⟨⟨?_,fun h=>.inl ⟨by decide,h⟩⟩,⟨?_,fun h=>.inl ⟨by decide,h⟩⟩,⟨?_,fun h=>.inr ⟨by decide,h⟩⟩,⟨?_,fun h=>.inr ⟨by decide,h⟩⟩⟩<;>rintro(⟨a,b⟩ | ⟨a,b⟩)<;>first | exact b | omega
theorem S5{σ:Nat→Bool}:BQ σ [[1,2],[-1,2],[1,-2]]↔σ 1=true∧σ 2=true:=by
 obtain⟨a,b,c,d⟩:=jN (σ:=σ)
 have e:BQ σ [[1,2],[-1,2],[1,-2]]↔(Ew σ 1∨Ew σ 2)∧(Ew σ (-1)∨Ew σ 2)∧(Ew σ 1∨Ew σ (-2)):=by simp[BQ]
 rw[e,a,b,c,d]
 cases σ 1<;>cases σ 2<;>simp
theorem aF{σ:Nat→Bool}:¬ BQ σ [[1,2],[-1,2],[1,-2],[-1,-2]]:=by
 obtain⟨a,b,c,d⟩:=jN (σ:=σ)
 have e:BQ σ [[1,2],[-1,2],[1,-2],[-1,-2]]↔(Ew σ 1∨Ew σ 2)∧(Ew σ (-1)∨Ew σ 2)∧(Ew σ 1∨Ew σ (-2))∧(Ew σ (-1)∨Ew σ (-2)):=by simp[BQ]
 rw[e,a,b,c,d]
 cases σ 1<;>cases σ 2<;>simp
theorem Yw{E:BJ}(hE:Good E){B:Nat→Prop}{s:AG}{V:Nat→Option Sv}(h:B3 B s V):WF E 37 [] (fun r s'=>r=.bool true∧Dc B s s') s:=by
 have hms:∀ (m:Nat) (i:Nat),Made.val i (.slice m)=.slice (some (i,0)) m (some m):=fun _ _=>rfl
 have hVL:VL 2 1∧VL 2 2∧VL 2 (-1)∧VL 2 (-2):=by decide
 obtain⟨w1,w2,w3,w4⟩:=hVL
 refine hE.go ff (by decide) rfl ?_
 simp only[kI,bM,bN,Qa,Qb,Qc,Qd,Qe,Qf,Qg,Qh,Qi,Qj,Qk,Ql,Qm,Qn,true_and,and_true,Qo,Qp,Qq,Qr,Qs,Qt,Qu,Qv,Qw,Qx,Qy,Qz,Ra,Rb,Rc,Rd,Re,Rf,Rg,Rh,Ri,Rj,Rk,Rl,Rm,Ya,Yb,Yc,Rn,Ro,Rp,Yd,Ye,Rq,Rs,Rt,Ru,Rv,Rw,Rx]
 refine(PM hE h (n:=2) (by decide)).mono ?_
 rintro _ s1 ⟨va,rfl,hVn,g1,k1,i1,_⟩
 generalize hp:s.next=p at *
 obtain⟨j1,j2,_,_⟩:=i1.inv ⟨by decide,by decide,.inr (by decide)⟩
 have hvars:=UJ hE g1 (Ay V p va) (n:=2) (by decide) j1.fit.siz.value
 have bd:∀A M,A≤10→Bd 2 A M:=fun A M hA=>⟨by decide,by omega,.inl (by decide)⟩
 have e2:iv ((2:Nat):Int)=iv 2:=rfl
 have Lr:decide ((2:Int)≠2)=false:=by decide
 have h729:∀ (a:Int),iv ((729:Nat):Int)=iv 729:=fun _=>rfl
 simp only[AJ,e2]at hvars
 simp only[bO,AJ,Qa,Qb,Qc,Qd,Qe,Qf,Qg,Qh,Qi,Qj,Qk,Ql,Qm,Qn,true_and,and_true,Qo,Qp,Qq,Qr,Qs,Qt,Qu,Qv,Qw,Qx,Qy,Qz,Ra,Rb,Rc,Rd,Re,Rf,Rg,Rh,Ri,Rj,Rk,Rl,Rm,Ya,Yb,Yc,Rn,Ro,Rp,Yd,Ye,Rq,Rs,Rt,Ru,Rv,Rw,Rx]
 refine hvars.mono ?_
 rintro _ _ ⟨rfl,rfl⟩
 have hs1:=GC hE g1 (Ay V p va) i1 (bd 0 (0+729) (by decide)) (most:=729) (by decide) (by simp)
 simp only[AJ]at hs1
 simp only[Lr,Qa,Qb,Qc,Qd,Qe,Qf,Qg,Qh,Qi,Qj,Qk,Ql,Qm,Qn,true_and,and_true,Qo,Qp,Qq,Qr,Qs,Qt,Qu,Qv,Qw,Qx,Qy,Qz,Ra,Rb,Rc,Rd,Re,Rf,Rg,Rh,Ri,Rj,Rk,Rl,Rm,Ya,Yb,Yc,Rn,Ro,Rp,Yd,Ye,Rq,Rs,Rt,Ru,Rv,Rw,Rx]
 refine hs1.mono ?_
 rintro _ s2 ⟨c,v2,rfl,i2,_,hc,g2,k2⟩
 have hc1:c=1:=by
  rcases hc with⟨_,q⟩ | ⟨q,_⟩ | ⟨_,q,_⟩
  ·exact absurd (fun f hf=>by cases hf) (q fun _=>true)
  ·exact q
  ·exact absurd (q (by decide)) (by decide)
 subst hc1
 rw[CJ]at g2
 have NP:decide ((1:Int)≠1)=false:=by decide
 simp only[NP,bP,Fc,hms,Qa,Qb,Qc,Qd,Qe,Qf,Qg,Qh,Qi,Qj,Qk,Ql,Qm,Qn,true_and,and_true,Qo,Qp,Qq,Qr,Qs,Qt,Qu,Qv,Qw,Qx,Qy,Qz,Ra,Rb,Rc,Rd,Re,Rf,Rg,Rh,Ri,Rj,Rk,Rl,Rm,Ya,Yb,Yc,Rn,Ro,Rp,Yd,Ye,Rq,Rs,Rt,Ru,Rv,Rw,Rx]
 refine Hr hE g2 (Ay V p v2) i2 (bd _ _ (by decide)) 1 2 w1 w2 ?_
 intro s3 v3 i3 g3 k3
 rw[CJ]at g3
 simp only[bQ,Fc,hms,Qa,Qb,Qc,Qd,Qe,Qf,Qg,Qh,Qi,Qj,Qk,Ql,Qm,Qn,true_and,and_true,Qo,Qp,Qq,Qr,Qs,Qt,Qu,Qv,Qw,Qx,Qy,Qz,Ra,Rb,Rc,Rd,Re,Rf,Rg,Rh,Ri,Rj,Rk,Rl,Rm,Ya,Yb,Yc,Rn,Ro,Rp,Yd,Ye,Rq,Rs,Rt,Ru,Rv,Rw,Rx]
 refine Hr hE g3 (Ay V p v3) i3 (bd _ _ (by decide)) (-1) 2 w3 w2 ?_
 intro s4 v4 i4 g4 k4
 rw[CJ]at g4
 simp only[bR,Fc,hms,Qa,Qb,Qc,Qd,Qe,Qf,Qg,Qh,Qi,Qj,Qk,Ql,Qm,Qn,true_and,and_true,Qo,Qp,Qq,Qr,Qs,Qt,Qu,Qv,Qw,Qx,Qy,Qz,Ra,Rb,Rc,Rd,Re,Rf,Rg,Rh,Ri,Rj,Rk,Rl,Rm,Ya,Yb,Yc,Rn,Ro,Rp,Yd,Ye,Rq,Rs,Rt,Ru,Rv,Rw,Rx]
 refine Hr hE g4 (Ay V p v4) i4 (bd _ _ (by decide)) 1 (-2) w1 w4 ?_
 intro s5 v5 i5 g5 k5
 rw[CJ]at g5
 have hs2:=GC hE g5 (Ay V p v5) i5 (bd _ _ (by decide)) (most:=729) (by decide) (by simp;exact⟨⟨w1,w2⟩,⟨w3,w2⟩,w1,w4⟩)
 simp only[AJ]at hs2
 simp only[bS,Qa,Qb,Qc,Qd,Qe,Qf,Qg,Qh,Qi,Qj,Qk,Ql,Qm,Qn,true_and,and_true,Qo,Qp,Qq,Qr,Qs,Qt,Qu,Qv,Qw,Qx,Qy,Qz,Ra,Rb,Rc,Rd,Re,Rf,Rg,Rh,Ri,Rj,Rk,Rl,Rm,Ya,Yb,Yc,Rn,Ro,Rp,Yd,Ye,Rq,Rs,Rt,Ru,Rv,Rw,Rx]
 refine hs2.mono ?_
 rintro _ s6 ⟨c,v6,rfl,i6,_,hc,g6,k6⟩
 have hc1:c=1∧v6.model.length=2+1∧BQ (FD v6.model) [[1,2],[-1,2],[1,-2]]:=by
  rcases hc with⟨_,q⟩ | ⟨q1,q2,q3⟩ | ⟨_,q,_⟩
  ·exact absurd (S5.2 ⟨rfl,rfl⟩) (q fun _=>true)
  ·exact⟨q1,q2,q3⟩
  ·exact absurd (q (by decide)) (by decide)
 obtain⟨rfl,hml,hmm⟩:=hc1
 obtain⟨t1,t2⟩:=S5.1 hmm
 rw[CJ]at g6
 have hv1:=Hf hE g6 (Ay V p v6) (k:=1) (by decide)
 have hv2:=Hf hE g6 (Ay V p v6) (k:=2) (by decide)
 have ev1:iv ((1:Nat):Int)=iv 1:=rfl
 simp only[AJ,ev1,t1]at hv1
 simp only[AJ,e2,t2]at hv2
 simp only[decide_true,Qa,Qb,Qc,Qd,Qe,Qf,Qg,Qh,Qi,Qj,Qk,Ql,Qm,Qn,true_and,and_true,Qo,Qp,Qq,Qr,Qs,Qt,Qu,Qv,Qw,Qx,Qy,Qz,Ra,Rb,Rc,Rd,Re,Rf,Rg,Rh,Ri,Rj,Rk,Rl,Rm,Ya,Yb,Yc,Rn,Ro,Rp,Yd,Ye,Rq,Rs,Rt,Ru,Rv,Rw,Rx]
 refine hv1.mono ?_
 rintro _ _ ⟨rfl,rfl⟩
 simp only[Qa,Qb,Qc,Qd,Qe,Qf,Qg,Qh,Qi,Qj,Qk,Ql,Qm,Qn,true_and,and_true,Qo,Qp,Qq,Qr,Qs,Qt,Qu,Qv,Qw,Qx,Qy,Qz,Ra,Rb,Rc,Rd,Re,Rf,Rg,Rh,Ri,Rj,Rk,Rl,Rm,Ya,Yb,Yc,Rn,Ro,Rp,Yd,Ye,Rq,Rs,Rt,Ru,Rv,Rw,Rx]
 refine hv2.mono ?_
 rintro _ _ ⟨rfl,rfl⟩
 simp only[bT,Fc,hms,Qa,Qb,Qc,Qd,Qe,Qf,Qg,Qh,Qi,Qj,Qk,Ql,Qm,Qn,true_and,and_true,Qo,Qp,Qq,Qr,Qs,Qt,Qu,Qv,Qw,Qx,Qy,Qz,Ra,Rb,Rc,Rd,Re,Rf,Rg,Rh,Ri,Rj,Rk,Rl,Rm,Ya,Yb,Yc,Rn,Ro,Rp,Yd,Ye,Rq,Rs,Rt,Ru,Rv,Rw,Rx]
 refine Hr hE g6 (Ay V p v6) i6 (bd _ _ (by decide)) (-1) (-2) w3 w4 ?_
 intro s7 v7 i7 g7 k7
 rw[CJ]at g7
 simp only[bU,Qa,Qb,Qc,Qd,Qe,Qf,Qg,Qh,Qi,Qj,Qk,Ql,Qm,Qn,true_and,and_true,Qo,Qp,Qq,Qr,Qs,Qt,Qu,Qv,Qw,Qx,Qy,Qz,Ra,Rb,Rc,Rd,Re,Rf,Rg,Rh,Ri,Rj,Rk,Rl,Rm,Ya,Yb,Yc,Rn,Ro,Rp,Yd,Ye,Rq,Rs,Rt,Ru,Rv,Rw,Rx]
 refine(PM hE g7 (n:=0) (by decide)).mono ?_
 rintro _ s8 ⟨vb,rfl,hVb,g8,k8,i8,_⟩
 generalize hpb:s7.next=q at *
 have hpq:p≠q:=fun e=>by rw[← e,Ay]at hVb;cases hVb
 have bd0:∀A M,A≤10→Bd 0 A M:=fun A M hA=>⟨by decide,by omega,.inl (by decide)⟩
 have hadd:=PL hE g8 (Ay _ q vb) i8 (bd0 _ _ (by decide)) (f:=[]) (by simp) (by simp) (b:=0) (u:=.slice none 0 (some 0)) (ku _) ⟨none,some 0,rfl,BM.nil⟩ (fun j hj=>by cases hj)
 simp only[AJ]at hadd
 simp only[WA,Qa,Qb,Qc,Qd,Qe,Qf,Qg,Qh,Qi,Qj,Qk,Ql,Qm,Qn,true_and,and_true,Qo,Qp,Qq,Qr,Qs,Qt,Qu,Qv,Qw,Qx,Qy,Qz,Ra,Rb,Rc,Rd,Re,Rf,Rg,Rh,Ri,Rj,Rk,Rl,Rm,Ya,Yb,Yc,Rn,Ro,Rp,Yd,Ye,Rq,Rs,Rt,Ru,Rv,Rw,Rx]
 refine hadd.mono ?_
 rintro _ s9 ⟨rfl,v9,i9,_,g9,k9⟩
 rw[CJ]at g9
 have hpV:Dr (Dr V p v7) q v9 p=some v7:=by rw[FO hpq];exact Ay _ _ _
 have hs3:=GC hE g9 hpV i7 (bd _ _ (by decide)) (most:=729) (by decide) (by simp;exact⟨⟨w1,w2⟩,⟨w3,w2⟩,⟨w1,w4⟩,w3,w4⟩)
 simp only[AJ]at hs3
 simp only[WB,Qa,Qb,Qc,Qd,Qe,Qf,Qg,Qh,Qi,Qj,Qk,Ql,Qm,Qn,true_and,and_true,Qo,Qp,Qq,Qr,Qs,Qt,Qu,Qv,Qw,Qx,Qy,Qz,Ra,Rb,Rc,Rd,Re,Rf,Rg,Rh,Ri,Rj,Rk,Rl,Rm,Ya,Yb,Yc,Rn,Ro,Rp,Yd,Ye,Rq,Rs,Rt,Ru,Rv,Rw,Rx]
 refine hs3.mono ?_
 rintro _ s10 ⟨c,v10,rfl,_,_,hc,g10,k10⟩
 have hc0:c=0:=by
  rcases hc with⟨q,_⟩ | ⟨_,_,q⟩ | ⟨_,q,_⟩
  ·exact q
  ·exact absurd q aF
  ·exact absurd (q (by decide)) (by decide)
 subst hc0
 have hqV:Dr (Dr (Dr V p v7) q v9) p v10 q=some v9:=by rw[FO (fun e=>hpq e.symm)];exact Ay _ _ _
 have hs4:=GC hE g10 hqV i9 (bd0 _ _ (by decide)) (most:=0) (by decide) (by simp)
 have e0:iv ((0:Nat):Int)=iv 0:=rfl
 simp only[AJ,e0]at hs4
 simp only[decide_true,Qa,Qb,Qc,Qd,Qe,Qf,Qg,Qh,Qi,Qj,Qk,Ql,Qm,Qn,true_and,and_true,Qo,Qp,Qq,Qr,Qs,Qt,Qu,Qv,Qw,Qx,Qy,Qz,Ra,Rb,Rc,Rd,Re,Rf,Rg,Rh,Ri,Rj,Rk,Rl,Rm,Ya,Yb,Yc,Rn,Ro,Rp,Yd,Ye,Rq,Rs,Rt,Ru,Rv,Rw,Rx]
 refine hs4.mono ?_
 rintro _ s11 ⟨c,v11,rfl,_,_,hc,g11,k11⟩
 have hc0:c=0:=by
  rcases hc with⟨q,_⟩ | ⟨_,_,q⟩ | ⟨_,_,q⟩
  ·exact q
  ·obtain⟨y,hy,_⟩:=q [] (by simp)
   cases hy
  ·exact absurd (by simp) q
 subst hc0
 simp only[decide_true,Qa,Qb,Qc,Qd,Qe,Qf,Qg,Qh,Qi,Qj,Qk,Ql,Qm,Qn,true_and,and_true,Qo,Qp,Qq,Qr,Qs,Qt,Qu,Qv,Qw,Qx,Qy,Qz,Ra,Rb,Rc,Rd,Re,Rf,Rg,Rh,Ri,Rj,Rk,Rl,Rm,Ya,Yb,Yc,Rn,Ro,Rp,Yd,Ye,Rq,Rs,Rt,Ru,Rv,Rw,Rx]
 exact((((((((((k1.trans k2).trans k3).trans k4).trans k5).trans k6).trans k7).trans k8).trans k9).trans k10).trans k11)
def u16(n:Int):Prop:=0≤n∧n≤65535
theorem SX{t:TypeId}{k:IntKind}(ht:Try.prog.underlying t=some (.int k)){W:World}{base:Nat}{v:Value}(h:Value.okWide Try.prog W .any base t v){ρ:Bp}{a:AV}(hr:AS ρ [a] v.cells.toList):AZ ρ a v:=by
 have hv:v.cells.toList=[v]:=by
  cases v with
  | agg cs=>simp[Value.okWide,ht,Cell.okWide,Cell.ok]at h
  | _=>rfl
 rw[hv]at hr
 cases hr with
 | cons h _=>exact h
section
variable{H:Type}{enc:TypeId×Value→H}{W:World}{base:Nat}
end
theorem Hs(v:Sv)(k:Nat):(AW v k).cl=v.cl∧(AW v k).trace=v.trace∧(AW v k).broken=v.broken:=by
 obtain⟨ph,va,wh,tr,li,hd,e,_⟩:=Bm v k
 rw[e]
 exact⟨rfl,rfl,rfl⟩
theorem Zl{n:Nat}{L:List Int}(h:A1 n L)(hn:(L.map Int.natAbs).Nodup):L.length≤n:=by
 have:=Cc (l:=L.map Int.natAbs) (n:=n) hn fun x hx=>by
  obtain⟨y,hy,rfl⟩:=List.mem_map.1 hx
  obtain⟨h1,h2⟩:=h.1 y hy
  omega
 rw[kn]at this
 exact this
def A8(cl:Nat→Option A5)(c:Nat):Bool:=match cl c with
 | some l=>!l.2.2
 | none=>true
def C5(cl:Nat→Option A5)(c:Nat):Option A5:=match cl c with
 | some l=>if l.2.2=true then none else some l
 | none=>none
def C6(cl:Nat→Option A5)(W:List (List Nat)):List (List Nat):=W.map fun L=>L.filter (A8 cl)
def hide(v:Sv):Sv:={ v with cl:=C5 v.cl,watches:=C6 v.cl v.watches }
theorem Fh{cl:Nat→Option A5}{c:Nat}{ls:List Int}{b:Bool×Bool}(h:C5 cl c=some (ls,b)):cl c=some (ls,b)∧b.2=false:=by
 unfold C5 at h
 cases hc:cl c with
 | none=>rw[hc]at h;cases h
 | some l =>
  rw[hc]at h
  dsimp only at h
  split at h
  ·cases h
  ·rename_i hb
   injection h with h
   subst h
   exact⟨rfl,by simpa using hb⟩
theorem E3{cl:Nat→Option A5}{c:Nat}{ls:List Int}{b:Bool×Bool}(h:cl c=some (ls,b))(hb:b.2=false):C5 cl c=some (ls,b):=by
 unfold C5
 rw[h]
 dsimp only
 rw[if_neg (by rw[hb];decide)]
theorem HW{cl:Nat→Option A5}{c:Nat}(h:cl c=none):C5 cl c=none:=by
 unfold C5
 rw[h]
theorem Tj{cl:Nat→Option A5}(c:Nat)(L:List Int){b:Bool×Bool}(hb:b.2=false):C5 (AP cl c (L,b))=AP (C5 cl) c (L,b):=by
 funext d
 unfold C5 AP
 by_cases e:d=c
 ·rw[if_pos e,if_pos e]
  dsimp only
  rw[if_neg (by rw[hb];decide)]
 ·rw[if_neg e,if_neg e]
theorem I8{cl:Nat→Option A5}{c:Nat}(L:List Int){b:Bool×Bool}(hb:b.2=false)(hc:A8 cl c=true):A8 (AP cl c (L,b))=A8 cl:=by
 funext d
 by_cases e:d=c
 ·subst e
  rw[hc]
  unfold A8
  rw[Aj]
  dsimp only
  rw[hb];rfl
 ·unfold A8 AP
  rw[if_neg e]
theorem IJ{cl:Nat→Option A5}{c:Nat}{ls:List Int}{b:Bool×Bool}(h:cl c=some (ls,b)):A8 cl c=!b.2:=by
 unfold A8
 rw[h]
theorem LB{cl:Nat→Option A5}{c:Nat}(h:cl c=none):A8 cl c=true:=by
 unfold A8
 rw[h]
theorem E4(cl:Nat→Option A5)(W:List (List Nat))(k:Nat):(C6 cl W).getD k []=(W.getD k []).filter (A8 cl):=by
 unfold C6
 rw[lK,lK,lg]
 cases W[k]?<;>rfl
theorem G9(cl:Nat→Option A5)(W:List (List Nat))(k:Nat)(M:List Nat):C6 cl (W.set k M)=(C6 cl W).set k (M.filter (A8 cl)):=by
 unfold C6
 rw[lx]
theorem Tk{cl:Nat→Option A5}{c:Nat}(hc:A8 cl c=true)(W:List (List Nat))(k:Nat):C6 cl (Ci W k c)=Ci (C6 cl W) k c:=by
 unfold Ci
 rw[G9,E4,List.filter_append]
 congr 1
 simp[hc]
theorem Xu{cl cl':Nat→Option A5}(h:A8 cl'=A8 cl)(W:List (List Nat)):C6 cl' W=C6 cl W:=by
 unfold C6
 rw[h]
theorem K5{v:Sv}{c:Nat}(L:List Int){b:Bool×Bool}(hb:b.2=false)(hc:A8 v.cl c=true):hide { v with cl:=AP v.cl c (L,b) }={ hide v with cl:=AP (C5 v.cl) c (L,b) }:=by
 unfold hide
 dsimp only
 rw[Tj c L hb,Xu (I8 L hb hc)]
theorem I3{v:Sv}{c:Nat}(hc:A8 v.cl c=true)(k:Nat):hide { v with watches:=Ci v.watches k c }={ hide v with watches:=Ci (hide v).watches k c }:=by
 unfold hide
 dsimp only
 rw[Tk hc]
theorem JW(v:Sv)(l:Int)(w:Option Nat):hide (BF v l w)=BF (hide v) l w:=rfl
def G0(w:Sv)(c:Nat)(ls:List Int)(b:Bool×Bool):Bool×Bool×Sv:=
 if 0<isV w.value (ls.getD 0 0)then (true,false,w)else
 match CO w.value (ls.drop 2) 2 with
 | some i=>(false,false,Ch w c ls b i)
 | none=>if isV w.value (ls.getD 0 0)<0 then (true,true,w)else (true,false,BF w (ls.getD 0 0) (some c))
theorem Ld{v:Sv}{c:Nat}{l:Int}{ls:List Int}{b:Bool×Bool}(hb:b.2=false):AT v c l ls b=G0 { v with cl:=AP v.cl c (if ls.getD 0 0=l then Ah ls 0 1 else ls,b) } c (if ls.getD 0 0=l then Ah ls 0 1 else ls) b:=by
 unfold AT
 rw[if_neg (by rw[hb];decide)]
 rfl
theorem Oc          {w : Sv} {c : Nat} {ls : List Int} {b : Bool × Bool} (hb : b.2 = false) (hl : A8    w.cl c = true) :
    G0 (hide w) c ls b=((G0 w c ls b).1,(G0 w c ls b).2.1,hide (G0 w c ls b).2.2)∧A8 (G0 w c ls b).2.2.cl=A8 w.cl:=by
  unfold G0
  have hva:(hide w).value=w.value:=rfl
  rw[hva]
  by_cases hp:0<isV w.value (ls.getD 0 0)
  · rw[if_pos hp,if_pos hp]
    exact⟨rfl,rfl⟩
  · rw[if_neg hp,if_neg hp]
    cases hm:CO w.value (ls.drop 2) 2 with
    | some i =>
      dsimp only
      have e2:A8 (AP w.cl c (Ah ls 1 i,b))=A8 w.cl:=I8 _ hb hl
      refine⟨?_,e2⟩
      refine congrArg (Prod.mk false) (congrArg (Prod.mk false) ?_)
      unfold Ch
      have h3:=I3 (v:={ w with cl:=AP w.cl c (Ah ls 1 i,b) }) (c:=c) (by rw[e2];exact hl) (place (ls.getD i 0))
      refine Eq.trans ?_ h3.symm
      have h2:=K5 (v:=w) (Ah ls 1 i) hb hl
      have h2':hide { w with cl:=AP w.cl c (Ah ls 1 i,b),watches:=w.watches }=_:=h2
      rw[h2']
      rfl
    | none =>
      dsimp only
      by_cases hn:isV w.value (ls.getD 0 0)<0
      · rw[if_pos hn,if_pos hn]
        exact⟨rfl,rfl⟩
      · rw[if_neg hn,if_neg hn]
        exact⟨rfl,rfl⟩
theorem RQ{v:Sv}{c:Nat}{l:Int}{ls:List Int}{b:Bool×Bool}(hc:v.cl c=some (ls,b))(hb:b.2=false):
  AT (hide v) c l ls b=((AT v c l ls b).1,(AT v c l ls b).2.1,hide (AT v c l ls b).2.2)∧A8 (AT v c l ls b).2.2.cl=A8 v.cl:=by
 have hl:A8 v.cl c=true:=by rw[IJ hc,hb];rfl
 rw[Ld hb,Ld hb]
 generalize (if ls.getD 0 0=l then Ah ls 0 1 else ls)=ls1
 have h1:=K5 (v:=v) ls1 hb hl
 have l1:=I8 (cl:=v.cl) ls1 hb hl
 obtain⟨q1,q2⟩:=Oc (w:={ v with cl:=AP v.cl c (ls1,b) }) (ls:=ls1) hb (by rw[l1];exact hl)
 rw[h1]at q1
 exact⟨q1,q2.trans l1⟩
theorem K3{v:Sv}{c:Nat}{l:Int}{ls:List Int}{b:Bool×Bool}(hb:b.2=true):AT v c l ls b=(false,false,v):=by
 unfold AT
 rw[if_pos hb]
theorem NQ      (l : Int) : ∀ (L K : List Nat) (v : Sv), An     l (L.filter (A8    v.cl)) (K.filter (A8    v.cl)) (hide v) = ((An     l L K v).1.filter (A8    v.cl), (An     l L K v).2.1, hide (An     l L K v).2.2) ∧ A8    (An     l L K v).2.2.cl = A8    v.cl
  | [],K,v=>⟨rfl,rfl⟩
  | c :: L, K, v => by
    cases hc:v.cl c with
    | none =>
      rw[List.filter_cons_of_pos (LB hc)]
      have h1:(hide v).cl c=none:=HW hc
      unfold An
      rw[h1,hc]
      exact⟨rfl,rfl⟩
    | some lb =>
      obtain⟨ls,b⟩:=lb
      cases hb:b.2 with
      | true =>
        have hl:A8 v.cl c=false:=by rw[IJ hc,hb];rfl
        rw[List.filter_cons_of_neg (by rw[hl];decide)]
        have e:An l (c::L) K v=An l L K v:=by
          rw[An,hc]
          dsimp only
          rw[K3 hb]
          rfl
        rw[e]
        exact NQ l L K v
      | false =>
        have hl:A8 v.cl c=true:=by rw[IJ hc,hb];rfl
        rw[List.filter_cons_of_pos hl]
        obtain⟨t1,t2⟩:=RQ (l:=l) hc hb
        have h1:(hide v).cl c=some (ls,b):=E3 hc hb
        rw[An,h1]
        rw[An,hc]
        dsimp only
        rw[t1]
        generalize AT v c l ls b=r at t2 ⊢
        obtain⟨a,f,w⟩:=r
        dsimp only at t2 ⊢
        have hK:(if a=true then K.filter (A8 v.cl)++[c]else K.filter (A8 v.cl))=(if a=true then K++[c]else K).filter (A8 w.cl):=by
          rw[t2]
          split
          · rw[List.filter_append];simp[hl]
          · rfl
        rw[hK]
        generalize (if a=true then K++[c]else K)=K'
        rw[← t2]
        by_cases hf:f=true
        · rw[if_pos hf,if_pos hf]
          exact⟨by rw[List.filter_append],rfl⟩
        · rw[if_neg hf,if_neg hf]
          exact NQ l L K' w
theorem MN(v:Sv):Au (hide v)=((Au v).1,hide (Au v).2)∧A8 (Au v).2.cl=A8 v.cl:=by
 unfold Au
 have ht:(hide v).trail=v.trail:=rfl
 have hh:(hide v).head=v.head:=rfl
 have hw:(hide v).watches=C6 v.cl v.watches:=rfl
 rw[ht,hh,hw,E4]
 generalize -(v.trail.getD v.head.toNat 0)=y
 have hA:Bk (hide v) (place y)=hide (Bk v (place y)):=by
  unfold Bk hide
  dsimp only
  rw[G9]
  rfl
 have hAc:(Bk v (place y)).cl=v.cl:=rfl
 obtain⟨q1,q2⟩:=NQ y (v.watches.getD (place y) []) [] (Bk v (place y))
 rw[hAc]at q1 q2
 rw[hA]
 have q1':An y (List.filter (A8 v.cl) (v.watches.getD (place y) [])) [] (hide (Bk v (place y)))=_:=q1
 rw[q1']
 generalize An y (v.watches.getD (place y) []) [] (Bk v (place y))=r at q2 ⊢
 obtain⟨K,bad,w⟩:=r
 dsimp only at q2 ⊢
 unfold LO
 dsimp only
 cases bad with
 | none =>
  refine⟨?_,q2⟩
  refine congrArg (Prod.mk none) ?_
  unfold setW hide
  dsimp only
  rw[G9,q2]
 | some d =>
  refine⟨?_,q2⟩
  refine congrArg (Prod.mk (some d)) ?_
  unfold setW hide
  dsimp only
  rw[G9,q2]
theorem To{v v':Sv}{r:Option Nat}(h:Bl v r v'):Bl (hide v) r (hide v'):=by
 induction h with
 | done h=>exact .done h
 | more h1 h2 _ ih =>
  rename_i v v1 v' r _
  refine .more (v:=hide v) (v1:=hide v1) h1 ?_ ih
  rw[(MN v).1,h2]
 | bad h1 h2 =>
  rename_i v v1 c
  refine .bad (v:=hide v) (v1:=hide v1) h1 ?_
  rw[(MN v).1,h2]
theorem RO{v:Sv}{c at_:Nat}{a r:EJ}{l:Int}(h:CS (hide v) c a at_ l r):CS v c a at_ l r:=by
 induction h with
 | last hc ha hs ho=>exact .last (Fh hc).1 ha hs ho
 | more hc ha hs ho hw hr ih=>exact .more (Fh hc).1 ha hs ho hw ih
theorem MO:∀ (L:List Int)(v:Sv),L.foldl Ct (hide v)=hide (L.foldl Ct v)
 | [],v=>rfl
 | x::L,v=>MO L (Ct v x)
theorem Iz(v:Sv)(k:Nat):AW (hide v) k=hide (AW v k):=by
 unfold AW
 have hl:(hide v).limits=v.limits:=rfl
 rw[hl]
 split
 ·rfl
 ·unfold GV
  have ht:(hide v).trail=v.trail:=rfl
  rw[ht,hl,MO]
  rfl
theorem K4{v:Sv}{c:Nat}(L:List Int){b:Bool×Bool}(hb:b.2=false)(hc:v.cl c=none):hide (EY v c (L,b))=EY (hide v) c (L,b):=
 K5 L hb (LB hc)
theorem K6{v:Sv}{c:Nat}(hc:A8 v.cl c=true)(a b:Int):hide (Hj v c a b)=Hj (hide v) c a b:=by
 unfold Hj setW
 have h1:=I3 (v:={ v with watches:=Ci v.watches (place a) c }) hc (place b)
 refine h1.trans ?_
 rw[I3 hc (place a)]
theorem Tm{v:Sv}{c:Nat}(hc:v.cl c=none)(L:List Int):hide (Ax v c L)=Ax (hide v) c L:=by
 unfold Ax
 dsimp only
 rw[JW]
 refine congrArg (fun z=>BF z (L.getD 0 0) (some c)) ?_
 have h1:hide (EY { v with trace:=v.trace++[(false,L)] } c (L,true,false))=EY (hide { v with trace:=v.trace++[(false,L)] }) c (L,true,false):=K4 (v:={ v with trace:=v.trace++[(false,L)] }) (b:=(true,false)) L rfl hc
 split
 ·have hl:A8 (EY { v with trace:=v.trace++[(false,L)] } c (L,true,false)).cl c=true:=by
   show A8 (AP _ c _) c=true
   unfold A8
   rw[Aj];rfl
  have h2:=K6 hl (L.getD 0 0) (L.getD 1 0)
  rw[h1]at h2
  have h3:∀ (w:Sv) (d:List Nat),hide { w with learned:=d }={ hide w with learned:=d }:=fun _ _=>rfl
  rw[h3,h2]
  rfl
 ·rw[h1];rfl
theorem MM(v:Sv):hide (DV v)=DV (hide v):=by
 unfold DV
 show hide (if v.broken=true then _ else _)=if v.broken=true then _ else _
 split<;>rfl
theorem I0{v:Sv}{c:Nat}(hc:v.cl c=none)(O:List Int):hide (F9 v c O)=F9 (hide v) c O:=by
 unfold F9
 have h1:=K4 (v:=v) (b:=(false,false)) O rfl hc
 split
 ·have hl:A8 (EY v c (O,false,false)).cl c=true:=by
   show A8 (AP _ c _) c=true
   unfold A8
   rw[Aj];rfl
  rw[K6 hl,h1]
 ·exact h1
theorem Tl{v:Sv}{c:Nat}(hc:v.cl c=none)(O:List Int):hide (Jq v c O)=Jq (hide v) c O:=by
  unfold Jq
  have hv:(hide v).value=v.value:=rfl
  rw[hv]
  split
  · rw[MM,I0 hc]
  · split
    · rw[JW,I0 hc]
    · exact I0 hc O
theorem Xv{v v':Sv}{L:List Int}(h:KF v L v'):KF (hide v) L (hide v'):=by
 cases h with
 | none h=>exact .none h
 | nil h hb he=>rw[MM];exact .nil h hb he
 | put h hb he hc =>
  rw[Tl hc]
  exact .put h hb he (HW hc)
structure RP(v v':Sv):Prop where
 gone:∀c ls b,v'.cl c=some (ls,b)→b.2=true→v.cl c=some (ls,b)
 nn:∀c,v.cl c≠none→v'.cl c≠none
 why:∀d,some d∈v'.why→some d∈v.why∨v'.cl d≠none
theorem RP.refl(v:Sv):RP v v:=⟨fun _ _ _ h _=>h,fun _ h=>h,fun _ h=>.inl h⟩
theorem RP.trans{a b c:Sv}(h:RP a b)(k:RP b c):RP a c:=
 ⟨fun d ls t q hb=>h.gone d ls t (k.gone d ls t q hb) hb,fun d q=>k.nn d (h.nn d q),fun d q=>by
  rcases k.why d q with z | z
  ·exact(h.why d z).imp id (k.nn d)
  ·exact .inr z⟩
theorem RP.of{v v' w w':Sv}(h:RP v v')(h1:w.cl=v.cl)(h2:w.why=v.why)(h3:w'.cl=v'.cl)(h4:w'.why=v'.why):RP w w':=
 ⟨by rw[h1,h3];exact h.gone,by rw[h1,h3];exact h.nn,by rw[h2,h3,h4];exact h.why⟩
theorem Dp{α:Type}{L:List (Option α)}{i:Nat}{u:Option α}{d:α}(h:some d∈L.set i u):some d∈L∨u=some d:=by
 rcases mO h with q | q
 ·exact .inl q
 ·exact .inr q.symm
theorem YZ{v:Sv}{c:Nat}{ls:List Int}{b:Bool×Bool}(ls':List Int)(hc:v.cl c=some (ls,b))(hb:b.2=false):RP v { v with cl:=AP v.cl c (ls',b) }:=by
 refine⟨fun d ms t q ht=>?_,fun d q=>?_,fun d q=>.inl q⟩
 ·have q:AP v.cl c (ls',b) d=some (ms,t):=q
  rcases Bi q with⟨_,_,e⟩ | ⟨_,q2⟩
  ·rw[e,hb]at ht;cases ht
  ·exact q2
 ·show AP v.cl c (ls',b) d≠none
  unfold AP
  split
  ·intro e;cases e
  ·exact q
theorem Yf       {v : Sv} {c : Nat} {l : Int} {ls : List Int} {b : Bool × Bool} (hc : v.cl c = some (ls, b)) : RP v (AT     v c l ls b).2.2 := by
  cases hb:b.2 with
  | true=>rw[K3 hb];exact RP.refl v
  | false =>
    rw[Ld hb]
    generalize (if ls.getD 0 0=l then Ah ls 0 1 else ls)=ls1
    have h1:=YZ (v:=v) ls1 hc hb
    have hc1:({ v with cl:=AP v.cl c (ls1,b) }:Sv).cl c=some (ls1,b):=Aj _ _ _
    refine h1.trans ?_
    generalize ({ v with cl:=AP v.cl c (ls1,b) }:Sv)=w at hc1 ⊢
    unfold G0
    split
    · exact RP.refl w
    · split
      · rename_i i _
        exact(YZ (v:=w) (Ah ls1 1 i) hc1 hb).of rfl rfl rfl rfl
      · split
        · exact RP.refl w
        · refine ⟨fun d ms t q _ => q, fun d q => q, fun d q => ?_⟩
          rcases Dp q with z | z
          · exact .inl z
          · right
            injection z with z
            rw[← z]
            show w.cl c≠none
            rw[hc1];exact fun e=>by cases e
theorem eu(l:Int):∀ (L K:List Nat)(v:Sv),RP v (An l L K v).2.2
 | [],K,v=>RP.refl v
 | c::L,K,v=>by
  unfold An
  cases hc:v.cl c with
  | none=>exact RP.refl v
  | some lb =>
   obtain⟨ls,b⟩:=lb
   dsimp only
   have ht:=Yf (l:=l) hc
   split
   ·exact ht
   ·exact ht.trans (eu l L _ _)
theorem TC(v:Sv):RP v (Au v).2:=by
 unfold Au LO
 generalize -(v.trail.getD v.head.toNat 0)=y
 have h:=eu y (v.watches.getD (place y) []) [] (Bk v (place y))
 generalize An y (v.watches.getD (place y) []) [] (Bk v (place y))=r at h ⊢
 obtain⟨K,bad,w⟩:=r
 cases bad with
 | none=>exact h.of rfl rfl rfl rfl
 | some d=>exact h.of rfl rfl rfl rfl
theorem Bl.rp{v v':Sv}{r:Option Nat}(h:Bl v r v'):RP v v':=by
 induction h with
 | done h=>exact RP.refl _
 | more h1 h2 _ ih =>
  rename_i v v1 v' r _
  have:=TC v
  rw[h2]at this
  exact this.trans ih
 | bad h1 h2 =>
  rename_i v v1 c
  have:=TC v
  rw[h2]at this
  exact this
theorem Mo:∀ (L:List Int)(v:Sv)(d:Nat),some d∈(L.foldl Ct v).why→some d∈v.why
 | [],v,d,h=>h
 | x::L,v,d,h=>by
  rcases Dp (Mo L (Ct v x) d h)with z | z
  ·exact z
  ·cases z
theorem N1{v:Sv}{k d:Nat}(h:some d∈(AW v k).why):some d∈v.why:=by
 unfold AW at h
 split at h
 ·exact h
 ·exact Mo _ _ _ h
theorem Aw.hide{n:Nat}{v:Sv}(h:Aw n v):Aw n (Go.Proofs.Ytilhhmkdcoajnaa.Am.hide v):=by
 obtain⟨⟨hz,hv,hli,hlm⟩,g2,g3,g4,g5⟩:=h
 refine⟨⟨⟨hz.small,by show(C6 _ _).length=_;unfold C6;rw[kn];exact hz.w,hz.value,hz.level,hz.why,hz.heat,hz.phase,hz.trail,hz.limits⟩,hv,hli,hlm⟩,g2,g3,g4,fun L hL c hc=>?_⟩
 obtain⟨M,hM,rfl⟩:=List.mem_map.1 hL
 obtain⟨q1,q2⟩:=List.mem_filter.1 hc
 obtain⟨ls,b,r1,r2,r3⟩:=g5 M hM c q1
 rw[IJ r1]at q2
 exact⟨ls,b,E3 r1 (by simpa using q2),r2,r3⟩
theorem Lc(f:Nat→Bool):∀W:List (List Nat),CD (W.map fun L=>L.filter f)≤CD W
 | []=>kp _
 | L::W=>by
  have h1:=Lc f W
  have h2:=List.length_filter_le f L
  show(L.filter f).length+CD (W.map fun L=>L.filter f)≤L.length+CD W
  omega
theorem Yq(v:Sv):CD (hide v).watches≤CD v.watches:=Lc _ _
theorem CI.sub{n h:Nat}{F:List (List Int)}{v v':Sv}(k:CI n F h v)(hi:Aw n v')(h1:v'.trail=v.trail)(h2:v'.limits=v.limits)(h3:v'.level=v.level)(h4:v'.why=v.why)(h7:v'.phase=v.phase)
    (hcl:∀c l,v'.cl c=some l→v.cl c=some l) (hw1:∀k c,c∈v'.watches.getD k []→c∈v.watches.getD k []) (hw2:∀k c l,c∈v.watches.getD k []→v'.cl c=some l→c∈v'.watches.getD k []) (hnd:∀k,(v'.watches.getD k []).Nodup)
    (hr:∀ (i:Nat) (x:Int) c ls b,v.trail[i]? = some x→v.why.getD x.natAbs none=some c→v.cl c=some (ls,b)→ls.getD 0 0=x→v'.cl c=some (ls,b)) (hcov:∀f∈F,(∃y∈f,-y∈f)∨∃c ls b,v'.cl c=some (ls,b)∧∀y∈ls,y∈f):CI n F h v':=by
  refine⟨⟨hi,by rw[h2];exact k.ct.sorted,by rw[h1,h2];exact k.ct.below,by rw[h1,h2,h3];exact k.ct.lev,fun i x hx=>?_,fun c ls b hc=>k.ct.cls c ls b (hcl c _ hc)⟩,⟨fun c ls b hc hl=>?_,fun j c ls b hj hc=>k.cw.wcl j c ls b (hw1 j c hj) (hcl c _ hc),hnd,fun c ls b hc hl=>?_⟩,by rw[h1];exact k.hb,by rw[h2];exact k.lh,fun c ls b hc hl=>?_,fun j t ht c ls b hc=>?_,fun σ hσ c ls b hc=>k.imp σ hσ c ls b (hcl c _ hc),hcov,by unfold DG;rw[h7];exact k.phase⟩
  · rw [h1] at hx
    rw[h4,h2,h1]
    rcases k.ct.why i x hx with q | ⟨c,ls,b,q1,q2,q3,q4⟩
    · exact .inl q
    · exact .inr ⟨c,ls,b,q1,hr i x c ls b hx q1 q2 q3,q3,q4⟩
  · obtain⟨w1,w2⟩:=k.cw.wat c ls b (hcl c _ hc) hl
    exact⟨hw2 _ c _ w1 hc,hw2 _ c _ w2 hc⟩
  · have:=k.cw.wok c ls b (hcl c _ hc) hl
    unfold GT lv
    rw[h1,h3]
    exact this
  · have:=k.unit c ls b (hcl c _ hc) hl
    unfold lv
    rw[h1,h3]
    exact this
  · rw [h2] at ht
    rw[h1]
    exact k.i7 j t ht c ls b (hcl c _ hc)
end
end Go.Proofs.Ytilhhmkdcoajnaa.Am
