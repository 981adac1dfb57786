/- The solver in plain Lean: what holds of its clauses and its trail, through propagate, back, guess; conditions: none. -/
import Derived.Test.YtilhhmkdcoajnaaAmM10
import Derived.Test.YtilhhmkdcoajnaaAmM07
import Derived.Test.YtilhhmkdcoajnaaAmM06
import Derived.Test.YtilhhmkdcoajnaaAmM05
set_option linter.unusedVariables false
set_option linter.unusedSimpArgs false
set_option maxRecDepth 16000
namespace Go.Proofs.Ytilhhmkdcoajnaa.Am
open Go Go.Proofs
noncomputable section
def I7(tr:List Int)(t:Nat)(ls:List Int):Prop:=(∃y∈ls,y∈tr.take t)∨∃y∈ls,∃z∈ls,y≠z∧-y ∉ tr.take t∧-z ∉ tr.take t
theorem I7.perm{tr:List Int}{t:Nat}{ls ls':List Int}(h:I7 tr t ls)(hp:ls'.Perm ls):I7 tr t ls':=by
 rcases h with⟨y,h1,h2⟩ | ⟨y,h1,z,h2,h3⟩
 ·exact .inl ⟨y,hp.mem_iff.2 h1,h2⟩
 ·exact .inr ⟨y,hp.mem_iff.2 h1,z,hp.mem_iff.2 h2,h3⟩
theorem I7.take{tr tr':List Int}{t:Nat}{ls:List Int}(h:I7 tr t ls)(e:tr'.take t=tr.take t):I7 tr' t ls:=by
 unfold I7
 rw[e]
 exact h
def DR(σ:Nat→Bool)(F:List (List Int)):Prop:=∀f∈F,∃y∈f,Ja σ y
structure CI(n:Nat)(F:List (List Int))(h:Nat)(v:Sv):Prop where
 ct:CT n v
 cw:CW v h []
 hb:h≤v.trail.length
 lh:∀x∈v.limits,x≤(h:Int)
 unit:∀c ls b,v.cl c=some (ls,b)→ls.length=1→ls.getD 0 0∈v.trail∧lv v (ls.getD 0 0)=0
 i7:∀ (j:Nat) (t:Int),v.limits[j]? = some t→∀c ls b,v.cl c=some (ls,b)→I7 v.trail t.toNat ls
 imp:∀σ,DR σ F→Db v.cl σ
 cover:∀f∈F,(∃y∈f,-y∈f)∨∃c ls b,v.cl c=some (ls,b)∧∀y∈ls,y∈f
 phase:Ez n v
theorem Db.same{a b:Nat→Option B3}(h:CQ a b){σ:Nat→Bool}(k:Db a σ):Db b σ:=fun c ls t hc=>by
 obtain⟨ls',h1,h2⟩:=h.back hc
 obtain⟨y,q1,q2⟩:=k c ls' t h1
 exact⟨y,h2.mem_iff.2 q1,q2⟩
theorem CI.of{n h:Nat}{F:List (List Int)}{v v':Sv}(k:CI n F h v)(hi:BO n v')(h1:v'.trail=v.trail)(h2:v'.limits=v.limits)(h3:v'.level=v.level)(h4:v'.why=v.why)(h5:v'.cl=v.cl)(h6:v'.watches=v.watches)(h7:v'.phase=v.phase):CI n F h v':=by
 refine⟨k.ct.of hi h1 h2 h3 h4 h5,⟨?_,?_,?_,?_⟩,by rw[h1];exact k.hb,by rw[h2];exact k.lh,?_,?_,by rw[h5];exact k.imp,by rw[h5];exact k.cover,by unfold Ez;rw[h7];exact k.phase⟩
 ·rw[h5,h6];exact k.cw.wat
 ·rw[h5,h6];exact k.cw.wcl
 ·rw[h6];exact k.cw.wnd
 ·unfold Hr lv;rw[h1,h3,h5];exact k.cw.wok
 ·unfold lv;rw[h1,h3,h5];exact k.unit
 ·rw[h1,h2,h5];exact k.i7
theorem CI.prog{n h h':Nat}{F:List (List Int)}{v v':Sv}(k:CI n F h v)(p:FM v v')(hc:CT n v')(hw:CW v' h' [])(hb:h'≤v'.trail.length)(hl:∀x∈v.limits,x≤(h':Int)):CI n F h' v':=by
  obtain⟨T,eT⟩:=p.tr
  refine⟨hc,hw,hb,by rw[p.limits];exact hl,fun c ls b q hlen=>?_,fun j t ht c ls b q=>?_,fun σ hσ=>(k.imp σ hσ).same p.cl,fun f hf=>?_,by unfold Ez;rw[p.phase];exact k.phase⟩
  · obtain⟨ls',q1,q2⟩:=p.cl.back q
    have hl':ls'.length=1:=by rw[← q2.length_eq];exact hlen
    have e:ls=ls':=by
      obtain⟨x,rfl⟩:=List.length_eq_one_iff.1 hl'
      obtain⟨y,rfl⟩:=List.length_eq_one_iff.1 hlen
      have:y∈[x]:=q2.mem_iff.1 (si.2 rfl)
      rw[si.1 this]
    subst e
    obtain⟨g1,g2⟩:=k.unit c ls b q1 hlen
    exact⟨p.mem g1,by rw[p.lev _ (.inl g1)];exact g2⟩
  · obtain⟨ls',q1,q2⟩:=p.cl.back q
    rw[p.limits]at ht
    have:=k.ct.below t (qj ht)
    refine((k.i7 j t ht c ls' b q1).perm q2).take ?_
    rw[eT,rM (by omega)]
  · rcases k.cover f hf with q | ⟨c, ls, b, q1, q2⟩
    · exact .inl q
    · obtain⟨ls',r1,r2⟩:=(p.cl c).2 ls b q1
      exact .inr ⟨c,ls',b,r1,fun y hy=>q2 y (r2.mem_iff.1 hy)⟩
theorem CI.back {n h : Nat} {F : List (List Int)} {v : Sv} (k : CI n F h v) {j : Nat} {t : Int} (ht : v.limits[j]? = some t) : CI n F t.toNat (Ax    v j) ∧ (Ax    v j).trail = v.trail.take t.toNat ∧ (Ax    v j).limits = v.limits.take j ∧ (Ax    v j).head = t := by
  obtain⟨b1,b2,b3,b4,b5⟩:=k.ct.back ht
  have htm:=qj ht
  have ht0:=k.ct.lim t htm
  have htl:=k.ct.below t htm
  have hth:=k.lh t htm
  have hlt:(v.trail.take t.toNat).length=t.toNat:=by rw[rK];omega
  obtain⟨ph,va,wh,tr,li,hd,e,_⟩:=Cv v j
  have ecl:(Ax v j).cl=v.cl:=by rw[e]
  have ewa:(Ax v j).watches=v.watches:=by rw[e]
  have elv:(Ax v j).level=v.level:=by rw[e]
  have low:∀ {x:Int},x∈v.trail→lv v x≤(j:Int)→x∈v.trail.take t.toNat:=by
    intro x hx hl
    obtain⟨i,hi⟩:=Cj.1 hx
    have hli:lv v x=(Hj v.limits i:Int):=k.ct.lev i x hi
    refine B5.2 ⟨i,?_,hi⟩
    rcases qk i t.toNat with q | q
    · exact q
    · have:=MN k.ct.sorted ht (i:=i) (by omega)
      omega
  have high:∀ {x:Int},x∈v.trail.take t.toNat→lv v x≤(j:Int):=by
    intro x hx
    obtain⟨i,hi,ei⟩:=B5.1 hx
    have hli:lv v x=(Hj v.limits i:Int):=k.ct.lev i x ei
    have:=(MO k.ct.sorted ht (i:=i) (by omega)).2
    omega
  refine⟨⟨b1,⟨?_,?_,?_,?_⟩,?_,?_,?_,?_,?_,?_,b5 k.phase⟩,b2,b3,b4⟩
  · rw[ecl,ewa];exact k.cw.wat
  · rw[ecl,ewa];exact k.cw.wcl
  · rw[ewa];exact k.cw.wnd
  · intro c ls b hc h2
    rw[ecl]at hc
    have hok:Hr v t.toNat ls:=((k.cw.wok c ls b hc h2).2 (by simp)).mono (by omega)
    have:Hr (Ax v j) t.toNat ls:=by
      unfold Hr lv
      rw[b2,elv,sZ,Nat.min_self]
      refine⟨fun q=>?_,fun q=>?_⟩
      · obtain⟨r1,r2⟩:=hok.1 q
        have:=high q
        rw[Ci]at this
        exact⟨low r1 (by omega),r2⟩
      · obtain⟨r1,r2⟩:=hok.2 q
        have:=high q
        rw[Ci]at this
        exact⟨low r1 (by omega),r2⟩
    exact⟨this.mono (by omega),fun _=>this⟩
  · rw[b2,hlt];exact qg _
  · rw[b3]
    intro x hx
    have:=(CZ k.ct.sorted ht).1 x hx
    omega
  · intro c ls b hc hl
    rw[ecl]at hc
    obtain⟨g1,g2⟩:=k.unit c ls b hc hl
    unfold lv
    rw[b2,elv]
    exact⟨low g1 (by omega),g2⟩
  · intro i s hs c ls b hc
    rw[b3]at hs
    rw[ecl]at hc
    have hil:=AZ hs
    have hij:i<j:=by rw[rK]at hil;omega
    have hs':v.limits[i]? = some s:=by rw[rg hij]at hs;exact hs
    have hst:=(CZ k.ct.sorted ht).1 s (B5.2 ⟨i,hij,hs'⟩)
    have hs0:=k.ct.lim s (qj hs')
    refine(k.i7 i s hs' c ls b hc).take ?_
    rw[b2,sZ,sJ (by omega)]
  · rw[ecl];exact k.imp
  · rw[ecl];exact k.cover
theorem CW.assign{n h:Nat}{v:Sv}{X:List Nat}(hi:BO n v)(k:CW v h X)(hh:h≤v.trail.length){x:Int}(ho:v.value.getD x.natAbs 0=0)(w:Option Nat):CW (Bh v x w) h X:=by
 have habs:∀ {y:Int},(y∈v.trail∨-y∈v.trail)→y.natAbs≠x.natAbs:=by
  rintro y (hy | hy)
  ·exact hi.abs_ne ho hy
  ·have:=hi.abs_ne ho hy
   rw[rE]at this
   exact this
 have hlev:∀ {y:Int},(y∈v.trail∨-y∈v.trail)→lv (Bh v x w) y=lv v y:=fun hy=>by
  show(v.level.set _ _).getD _ 0=_
  rw[BM (habs hy)]
 have htk:∀hh',hh'≤h→(v.trail++[x]).take hh'=v.trail.take hh':=fun hh' hhh=>rM (by omega)
 have hoth:∀ (ms:List Int) hh',hh'≤h→Hr v hh' ms→Hr (Bh v x w) hh' ms:=by
  intro ms hh' hhh hok
  refine⟨fun q=>?_,fun q=>?_⟩
  ·have q:-(ms.getD 0 0)∈(v.trail++[x]).take hh':=q
   rw[htk hh' hhh]at q
   obtain⟨k1,k2⟩:=hok.1 q
   refine⟨qt _ k1,?_⟩
   rw[hlev (.inl k1),hlev (.inr (rF q))]
   exact k2
  ·have q:-(ms.getD 1 0)∈(v.trail++[x]).take hh':=q
   rw[htk hh' hhh]at q
   obtain⟨k1,k2⟩:=hok.2 q
   refine⟨qt _ k1,?_⟩
   rw[hlev (.inl k1),hlev (.inr (rF q))]
   exact k2
 exact⟨k.wat,k.wcl,k.wnd,fun c ls b hc h2=>⟨hoth ls _ (by omega) (k.wok c ls b hc h2).1,fun hx=>hoth ls _ (qg _) ((k.wok c ls b hc h2).2 hx)⟩⟩
theorem CI.guess {n : Nat} {F : List (List Int)} {v : Sv} (k : CI n F v.trail.length v) {b : Nat} (h1 : 1 ≤ b) (hb : b ≤ n) (ho : v.value.getD b 0 = 0) : CI n F v.trail.length (Fw     v b) ∧ (Fw     v b).trail.length = v.trail.length + 1 := by
  have hph:=k.phase b h1 hb
  have hV:VL n ((b:Int) * v.phase.getD b 0):=by rcases hph with e | e<;>rw[e]<;>constructor<;>omega
  have hab:((b:Int) * v.phase.getD b 0).natAbs=b:=by rcases hph with e | e<;>rw[e]<;>omega
  have ho':v.value.getD ((b:Int) * v.phase.getD b 0).natAbs 0=0:=by rw[hab];exact ho
  have hct:=k.ct.guess hV ho'
  have hi:=k.ct.inv
  have hgt:(Fw v b).trail.length=v.trail.length+1:=by
    show(v.trail++[_]).length=_
    rw[qn];rfl
  refine⟨⟨hct,?_,by rw[hgt];omega,?_,?_,?_,k.imp,k.cover,k.phase⟩,hgt⟩
  · have := k.cw.assign hi (qg          _) ho' none
    exact ⟨this.wat, this.wcl, this.wnd, fun c ls b' hc h2 => by
      obtain⟨r1,r2⟩:=this.wok c ls b' hc h2
      have conv:∀hh,hh≤v.trail.length→Hr v hh ls→Hr (Fw v b) hh ls:=by
        intro hh hhh hok
        have habs:∀ {y:Int},(y∈v.trail∨-y∈v.trail)→y.natAbs≠((b:Int) * v.phase.getD b 0).natAbs:=by
          rintro y (hy | hy)
          · exact hi.abs_ne ho' hy
          · have:=hi.abs_ne ho' hy
            rw[rE]at this
            exact this
        have hlev:∀ {y:Int},(y∈v.trail∨-y∈v.trail)→lv (Fw v b) y=lv v y:=fun hy=>by
          show(v.level.set _ _).getD _ 0=_
          rw[BM (habs hy)]
        have htk:(v.trail++[(b:Int) * v.phase.getD b 0]).take hh=v.trail.take hh:=rM hhh
        refine⟨fun q=>?_,fun q=>?_⟩
        · have q:-(ls.getD 0 0)∈(v.trail++[(b:Int) * v.phase.getD b 0]).take hh:=q
          rw[htk]at q
          obtain⟨k1,k2⟩:=hok.1 q
          refine⟨qt _ k1,?_⟩
          rw[hlev (.inl k1),hlev (.inr (rF q))]
          exact k2
        · have q:-(ls.getD 1 0)∈(v.trail++[(b:Int) * v.phase.getD b 0]).take hh:=q
          rw[htk]at q
          obtain⟨k1,k2⟩:=hok.2 q
          refine⟨qt _ k1,?_⟩
          rw[hlev (.inl k1),hlev (.inr (rF q))]
          exact k2
      obtain⟨q1,q2⟩:=k.cw.wok c ls b' hc h2
      exact⟨conv _ (by omega) q1,fun hx=>conv _ (qg _) (q2 hx)⟩⟩
  · intro x hx
    have hx:x∈v.limits++[(v.trail.length:Int)]:=hx
    rcases sE.1 hx with q | q
    · exact k.lh x q
    · rw[si.1 q];omega
  · intro c ls b' hc hl
    obtain⟨g1,g2⟩:=k.unit c ls b' hc hl
    refine⟨qt _ g1,?_⟩
    show(v.level.set _ _).getD _ 0=0
    rw[BM (hi.abs_ne ho' g1)]
    exact g2
  · intro j t ht c ls b' hc
    have ht:(v.limits++[(v.trail.length:Int)])[j]? = some t:=ht
    have htk:∀s,s≤v.trail.length→(Fw v b).trail.take s=v.trail.take s:=fun s hs=>rM hs
    rcases HB ht with⟨q1,q2⟩ | ⟨q1,q2⟩
    · have:=k.ct.below t (qj q2)
      exact(k.i7 j t q2 c ls b' hc).take (htk _ (by omega))
    · subst q2
      have:I7 v.trail v.trail.length ls:=by
        unfold I7
        rw[rR]
        obtain⟨c1,c2,c3,c4⟩:=k.ct.cls c ls b' hc
        by_cases hl1:ls.length=1
        · obtain⟨g1,g2⟩:=k.unit c ls b' hc hl1
          exact .inl ⟨ls.getD 0 0,qj (AT (by omega)),g1⟩
        · have h2:2≤ls.length:=by
            have:=List.length_pos_iff.2 c2
            omega
          have hok:=(k.cw.wok c ls b' hc h2).2 (by simp)
          unfold Hr at hok
          rw[rR]at hok
          have m0:ls.getD 0 0∈ls:=qj (AT (by omega))
          have m1:ls.getD 1 0∈ls:=qj (AT (by omega))
          by_cases f0:-(ls.getD 0 0)∈v.trail
          · exact .inl ⟨_,m1,(hok.1 f0).1⟩
          · by_cases f1 : -(ls.getD 1 0) ∈ v.trail
            · exact .inl ⟨_,m0,(hok.2 f1).1⟩
            · refine .inr ⟨_,m0,_,m1,fun e=>?_,f0,f1⟩
              have:=EN c3 (i:=0) (j:=1) (by omega) (by omega) (by rw[e])
              cases this
      have e:((v.trail.length:Int)).toNat=v.trail.length:=by omega
      rw[e]
      exact this.take (htk _ (qg _))
def F1(W:List (List Nat))(c:Nat)(L:List Int):List (List Nat):=if 1<L.length then Dm (Dm W (place (L.getD 0 0)) c) (place (L.getD 1 0)) c else W
def withC(v:Sv)(c:Nat)(L:List Int)(b:Bool×Bool):Sv:={ v with cl:=Aj v.cl c (L,b),watches:=F1 v.watches c L }
theorem B9{cl:Nat→Option B3}{c d:Nat}{L ms:List Int}{b t:Bool×Bool}(h:Aj cl c (L,b) d=some (ms,t)):(d=c∧ms=L∧t=b)∨(d≠c∧cl d=some (ms,t)):=by
 unfold Aj at h
 by_cases e:d=c
 ·rw[if_pos e]at h
  injection h with h
  injection h with q1 q2
  exact .inl ⟨e,q1.symm,q2.symm⟩
 ·rw[if_neg e]at h
  exact .inr ⟨e,h⟩
theorem bm{W:List (List Nat)}{c:Nat}{L:List Int}(h2:1<L.length)(h0:place (L.getD 0 0)<W.length)(h1:place (L.getD 1 0)<W.length)(hne:place (L.getD 0 0)≠place (L.getD 1 0))(k:Nat):
  (F1 W c L).getD k []=if k=place (L.getD 1 0)∨k=place (L.getD 0 0)then W.getD k []++[c]else W.getD k []:=by
 unfold F1
 rw[if_pos h2,I8 (by rw[D9];exact h1)]
 by_cases e1:k=place (L.getD 1 0)
 ·rw[if_pos e1,if_pos (.inl e1),I8 h0,if_neg (fun q=>hne q.symm),e1]
 ·rw[if_neg e1,I8 h0]
  by_cases e0:k=place (L.getD 0 0)
  ·rw[if_pos e0,if_pos (.inr e0),e0]
  ·rw[if_neg e0,if_neg (by rintro(q | q);exact e1 q;exact e0 q)]
theorem BO.watched{n:Nat}{v:Sv}(hi:BO n v){k d:Nat}(h:d∈v.watches.getD k []):∃ls b,v.cl d=some (ls,b):=by
 rw[rB]at h
 cases hk:v.watches[k]? with
 | none=>rw[hk]at h;cases h
 | some M =>
  rw[hk]at h
  obtain⟨ls,b,q,_⟩:=hi.wc M (qj hk) d h
  exact⟨ls,b,q⟩
theorem CW.put {n h : Nat} {w : Sv} (k : CW w h []) (hwc : ∀ k d, d ∈ w.watches.getD k [] → w.cl d ≠ none) {c : Nat} (hc : w.cl c = none) {L : List Int} (hL : BR    n L) (hne : L ≠ []) (hnd : (L.map Int.natAbs).Nodup) (hwl : w.watches.length = 2 * n + 2) (b : Bool × Bool) (hok : 2 ≤ L.length → Hr  w h L) : CW (withC w c L b) h [] := by
  have hcn:∀k,c ∉ w.watches.getD k []:=fun k q=>hwc k c q hc
  have hold:∀ {d:Nat} {ms:List Int} {t:Bool×Bool},w.cl d=some (ms,t)→d≠c:=fun hd e=>by rw[e,hc]at hd;cases hd
  by_cases h2:1<L.length
  · have v0 := hL.get (k := 0) (by omega)
    have v1:=hL.get (k:=1) h2
    have p0:place (L.getD 0 0)<w.watches.length:=by rw[hwl];exact VL.place v0
    have p1:place (L.getD 1 0)<w.watches.length:=by rw[hwl];exact VL.place v1
    have pne:place (L.getD 0 0)≠place (L.getD 1 0):=fun e=>by
      have:=EP v0.1 v1.1 e
      have:=EN hnd (i:=0) (j:=1) (by omega) (by omega) (by rw[this])
      cases this
    have hg:=bm (c:=c) h2 p0 p1 pne
    refine⟨fun d ms t hd KP=>?_,fun j d ms t hj hd=>?_,fun j=>?_,fun d ms t hd KP=>?_⟩
    · show d∈(F1 w.watches c L).getD _ []∧d∈(F1 w.watches c L).getD _ []
      rcases B9 hd with⟨rfl,rfl,rfl⟩ | ⟨e,q⟩
      · rw[hg,hg,if_pos (.inr rfl),if_pos (.inl rfl)]
        exact⟨by simp,by simp⟩
      · have:=k.wat d ms t q KP
        rw[hg,hg]
        constructor
        · split
          · exact qt _ this.1
          · exact this.1
        · split
          · exact qt _ this.2
          · exact this.2
    · have hj':d∈(F1 w.watches c L).getD j []:=hj
      rw[hg]at hj'
      clear hj
      rcases B9 hd with⟨rfl,rfl,rfl⟩ | ⟨e,q⟩
      · split at hj'
        · rename_i z;exact z.symm
        · exact absurd hj' (hcn j)
      · refine k.wcl j d ms t ?_ q
        split at hj'
        · rcases sE.1              hj' with z | z
          · exact z
          · exact absurd (si.1 z) e
        · exact hj'
    · show((F1 w.watches c L).getD j []).Nodup
      rw[hg]
      split
      · rw[rt]
        exact⟨k.wnd j,by simp,fun a ha d hd e=>by rw[si.1 hd]at e;exact hcn j (by rw[← e];exact ha)⟩
      · exact k.wnd j
    · rcases B9        hd with ⟨rfl, rfl, rfl⟩ | ⟨e, q⟩
      · have:Hr (withC w d ms t) h ms:=hok (by omega)
        exact⟨this.mono (by omega),fun _=>this⟩
      · exact k.wok d ms t q KP
  · have e:F1 w.watches c L=w.watches:=by unfold F1;rw[if_neg h2]
    refine⟨fun d ms t hd KP=>?_,fun j d ms t hj hd=>?_,fun j=>?_,fun d ms t hd KP=>?_⟩
    · show d∈(F1 w.watches c L).getD _ []∧d∈(F1 w.watches c L).getD _ []
      rw[e]
      rcases B9 hd with⟨rfl,rfl,rfl⟩ | ⟨e,q⟩
      · omega
      · exact k.wat d ms t q KP
    · have hj':d∈(F1 w.watches c L).getD j []:=hj
      rw[e]at hj'
      clear hj
      rcases B9 hd with⟨rfl,rfl,rfl⟩ | ⟨e,q⟩
      · exact absurd hj' (hcn j)
      · exact k.wcl j d ms t hj' q
    · show((F1 w.watches c L).getD j []).Nodup
      rw[e];exact k.wnd j
    · rcases B9        hd with ⟨rfl, rfl, rfl⟩ | ⟨e, q⟩
      · omega
      · exact k.wok d ms t q KP
theorem BO.withC{n:Nat}{v:Sv}(hi:BO n v){c:Nat}(hc:v.cl c=none){L:List Int}(hL:BR n L)(b:Bool×Bool):BO n (withC v c L b)∧BO n { v with cl:=Aj v.cl c (L,b) }:=by
 have h1:BO n { v with cl:=Aj v.cl c (L,b) }:=by
  obtain⟨⟨hz,hv,hli,hlm⟩,g2,g3,g4,g5⟩:=hi
  refine⟨⟨⟨hz.small,hz.w,hz.value,hz.level,hz.why,hz.heat,hz.phase,hz.trail,hz.limits⟩,hv,hli,hlm⟩,g2,g3,g4,fun M hM d hd=>?_⟩
  obtain⟨ls,t,q1,q2⟩:=g5 M hM d hd
  refine⟨ls,t,?_,q2⟩
  show Aj _ _ _ d=_
  unfold Aj
  rw[if_neg (fun e=>by rw[e,hc]at q1;cases q1)]
  exact q1
 refine⟨?_,h1⟩
 unfold Go.Proofs.Ytilhhmkdcoajnaa.Am.withC F1
 split
 ·rename_i h2
  have:=(h1.put (BJ _ _ _) hL (by omega) (place (L.getD 0 0))).put (c:=c) (ls:=L) (b:=b) (BJ _ _ _) hL (by omega) (place (L.getD 1 0))
  exact this
 ·exact h1
structure ce(F F':List (List Int))(L:List Int):Prop where
 sub:∀σ,DR σ F'→DR σ F
 cov:∀f∈F',f∈F∨(∃y∈f,-y∈f)∨∀y∈L,y∈f
theorem CI.follow {n h : Nat} {F F' : List (List Int)} {v : Sv} (k : CI n F h v) {c : Nat} (hc : v.cl c = none) {L : List Int} (hL : BR    n L) (hne : L ≠ []) (hnd : (L.map Int.natAbs).Nodup) {b : Bool × Bool} (hb : b.2 = false) (hF : ce   F F' L)
    (ho:v.value.getD (L.getD 0 0).natAbs 0=0) (hr:∀y∈L,y≠L.getD 0 0→-y∈v.trail) (h1:2≤L.length→lv v (L.getD 1 0)=(v.limits.length:Int)) (hu:L.length=1→v.limits=[]) (hi7:∀ (j:Nat) (t:Int),v.limits[j]? = some t→I7 v.trail t.toNat L) (himp:∀σ,DR σ F'→∃y∈L,Ja σ y):
    CI n F' h (Bh (withC v c L b) (L.getD 0 0) (some c)):=by
  have hi:=k.ct.inv
  have hpos:0<L.length:=List.length_pos_iff.2 hne
  have hV0:=hL.get hpos
  obtain⟨hw1,hw2⟩:=hi.withC hc hL b
  have hct0:CT n { v with cl:=Aj v.cl c (L,b) }:=k.ct.put hc hL hne hnd hb hw2
  have hct1:CT n (withC v c L b):=hct0.of hw1 rfl rfl rfl rfl rfl
  have hct:CT n (Bh (withC v c L b) (L.getD 0 0) (some c)):=hct1.assign hV0 ho (BJ _ _ _) rfl hr
  have habs:∀ {y:Int},(y∈v.trail∨-y∈v.trail)→y.natAbs≠(L.getD 0 0).natAbs:=by
    rintro y (hy | hy)
    · exact hi.abs_ne ho hy
    · have:=hi.abs_ne ho hy
      rw[rE]at this
      exact this
  have hlev:∀ {y:Int},(y∈v.trail∨-y∈v.trail)→lv (Bh v (L.getD 0 0) (some c)) y=lv v y:=fun hy=>by
    show(v.level.set _ _).getD _ 0=_
    rw[BM (habs hy)]
  have hl0:lv (Bh v (L.getD 0 0) (some c)) (L.getD 0 0)=(v.limits.length:Int):=by
    show(v.level.set _ _).getD _ 0=_
    rw[B4 (by rw[hi.fit.siz.level];have:=hV0.2;omega)]
  have hcwA:=k.cw.assign hi k.hb ho (some c)
  have hcw:CW (withC (Bh v (L.getD 0 0) (some c)) c L b) h []:=by
    refine hcwA.put (n:=n) (fun j d hd=>?_) hc hL hne hnd hi.fit.siz.w b (fun h2=>⟨fun q=>?_,fun q=>⟨rH _ (si.2 rfl),?_⟩⟩)
    · obtain⟨ls,t,e⟩:=hi.watched (k:=j) hd
      intro q
      have q:v.cl d=none:=q
      rw[e]at q;cases q
    · exfalso
      have q:-(L.getD 0 0)∈(v.trail++[L.getD 0 0]).take h:=q
      rw[rM k.hb]at q
      have:=rF q
      exact habs (.inr this) rfl
    · have q:-(L.getD 1 0)∈(v.trail++[L.getD 0 0]).take h:=q
      rw[rM k.hb]at q
      rw[hl0,hlev (.inr (rF q)),h1 h2]
      exact re _
  refine⟨hct,hcw,?_,k.lh,fun d ms t hd hl=>?_,fun j t ht d ms b' hd=>?_,fun σ hσ d ms t hd=>?_,fun f hf=>?_,k.phase⟩
  · show h≤(v.trail++[_]).length
    rw[qn]
    have:=k.hb
    omega
  · rcases B9        hd with ⟨rfl, rfl, rfl⟩ | ⟨e, q⟩
    · refine⟨rH _ (si.2 rfl),?_⟩
      show lv (Bh v (ms.getD 0 0) (some d)) (ms.getD 0 0)=0
      rw[hl0,hu hl];rfl
    · obtain⟨g1,g2⟩:=k.unit d ms t q hl
      refine⟨qt _ g1,?_⟩
      show lv (Bh v (L.getD 0 0) (some c)) (ms.getD 0 0)=0
      rw[hlev (.inl g1)];exact g2
  · have ht : v.limits[j]? = some t := ht
    have hb':=k.ct.below t (qj ht)
    have etk:(v.trail++[L.getD 0 0]).take t.toNat=v.trail.take t.toNat:=rM (by omega)
    rcases B9 hd with⟨rfl,rfl,rfl⟩ | ⟨e,q⟩
    · exact(hi7 j t ht).take etk
    · exact(k.i7 j t ht d ms b' q).take etk
  · rcases B9        hd with ⟨rfl, rfl, rfl⟩ | ⟨e, q⟩
    · exact himp σ hσ
    · exact k.imp σ (hF.sub σ hσ) d ms t q
  · rcases hF.cov f hf with q | q | q
    · rcases k.cover f q with z | ⟨d, ms, t, z1, z2⟩
      · exact .inl z
      · refine .inr ⟨d,ms,t,?_,z2⟩
        show Aj _ _ _ d=_
        unfold Aj
        rw[if_neg (fun e=>by rw[e,hc]at z1;cases z1)]
        exact z1
    · exact .inl q
    · exact .inr ⟨c,L,b,BJ _ _ _,q⟩
theorem CI.new {n h : Nat} {F F' : List (List Int)} {v : Sv} (k : CI n F h v) {c : Nat} (hc : v.cl c = none) {L : List Int} (hL : BR    n L) (hne : L ≠ []) (hnd : (L.map Int.natAbs).Nodup) {b : Bool × Bool} (hb : b.2 = false) (hF : ce   F F' L)
    (hok:2≤L.length→Hr v h L) (hu:L.length=1→L.getD 0 0∈v.trail∧lv v (L.getD 0 0)=0) (hi7:∀ (j:Nat) (t:Int),v.limits[j]? = some t→I7 v.trail t.toNat L) (himp:∀σ,DR σ F'→∃y∈L,Ja σ y):
    CI n F' h (withC v c L b):=by
  have hi:=k.ct.inv
  obtain⟨hw1,hw2⟩:=hi.withC hc hL b
  have hct0:CT n { v with cl:=Aj v.cl c (L,b) }:=k.ct.put hc hL hne hnd hb hw2
  have hct1:CT n (withC v c L b):=hct0.of hw1 rfl rfl rfl rfl rfl
  have hcw:CW (withC v c L b) h []:=by
    refine k.cw.put (n:=n) (fun j d hd q=>?_) hc hL hne hnd hi.fit.siz.w b hok
    obtain⟨ls,t,e⟩:=hi.watched (k:=j) hd
    rw[e]at q;cases q
  refine⟨hct1,hcw,k.hb,k.lh,fun d ms t hd hl=>?_,fun j t ht d ms b' hd=>?_,fun σ hσ d ms t hd=>?_,fun f hf=>?_,k.phase⟩
  · rcases B9        hd with ⟨rfl, rfl, rfl⟩ | ⟨e, q⟩
    · exact hu hl
    · exact k.unit d ms t q hl
  · rcases B9        hd with ⟨rfl, rfl, rfl⟩ | ⟨e, q⟩
    · exact hi7 j t ht
    · exact k.i7 j t ht d ms b' q
  · rcases B9        hd with ⟨rfl, rfl, rfl⟩ | ⟨e, q⟩
    · exact himp σ hσ
    · exact k.imp σ (hF.sub σ hσ) d ms t q
  · rcases hF.cov f hf with q | q | q
    · rcases k.cover f q with z | ⟨d, ms, t, z1, z2⟩
      · exact .inl z
      · refine .inr ⟨d,ms,t,?_,z2⟩
        show Aj _ _ _ d=_
        unfold Aj
        rw[if_neg (fun e=>by rw[e,hc]at z1;cases z1)]
        exact z1
    · exact .inl q
    · exact .inr ⟨c,L,b,BJ _ _ _,q⟩
def NP(ls:List Int)(k:Nat):Nat:=if (k:Int)∈ls then 1 else if -(k:Int)∈ls then 2 else 0
theorem TP(ls:List Int)(k:Nat):NP ls k≤2:=by
 unfold NP
 split
 ·omega
 ·split<;>omega
def code(ls:List Int):Nat→Nat
 | 0=>0
 | k+1=>code ls k+3 ^ k * NP ls (k+1)
theorem Iw(ls:List Int):∀k,code ls k<3 ^ k
 | 0=>by simp[code]
 | k+1=>by
  have h:=Iw ls k
  have e:3 ^ (k+1)=3 ^ k * 3:=Nat.pow_succ ..
  unfold code
  have hd:=TP ls (k+1)
  rw[e]
  generalize 3 ^ k=P at *
  have:NP ls (k+1)=0∨NP ls (k+1)=1∨NP ls (k+1)=2:=by omega
  rcases this with q | q | q<;>rw[q]<;>omega
theorem Lo{ls ls':List Int}:∀ {k:Nat},code ls k=code ls' k→∀j,1≤j→j≤k→NP ls j=NP ls' j
 | 0,_,j,h1,h2=>by omega
 | k+1,h,j,h1,h2=>by
  have a1:=Iw ls k
  have a2:=Iw ls' k
  have d1:=TP ls (k+1)
  have d2:=TP ls' (k+1)
  unfold code at h
  have key:code ls k=code ls' k∧NP ls (k+1)=NP ls' (k+1):=by
   generalize 3 ^ k=P at *
   have e1:NP ls (k+1)=0∨NP ls (k+1)=1∨NP ls (k+1)=2:=by omega
   have e2:NP ls' (k+1)=0∨NP ls' (k+1)=1∨NP ls' (k+1)=2:=by omega
   rcases e1 with q | q | q<;>rcases e2 with r | r | r<;>rw[q,r]at h<;>rw[q,r]<;>omega
  by_cases e:j=k+1
  ·rw[e];exact key.2
  ·exact Lo key.1 j h1 (by omega)
theorem bV{ls:List Int}(hnd:(ls.map Int.natAbs).Nodup){y:Int}(hy0:y≠0)(h1:y∈ls)(h2:-y∈ls):False:=by
 obtain⟨i,hi,e1⟩:=sH h1
 obtain⟨j,hj,e2⟩:=sH h2
 have k1:ls.getD i 0=y:=by rw[rB,qp hi,e1];rfl
 have k2:ls.getD j 0=-y:=by rw[rB,qp hj,e2];rfl
 have:=EN hnd hi hj (by rw[k1,k2,rE])
 subst this
 rw[k1]at k2
 omega
theorem aM{n:Nat}{ls ls':List Int}(h:code ls n=code ls' n)(hv:∀y∈ls,VL n y)(hnd:(ls.map Int.natAbs).Nodup){y:Int}(hy:y∈ls):y∈ls':=by
  obtain⟨h0,hn⟩:=hv y hy
  have hd:=Lo h y.natAbs (by omega) hn
  have neg:∀z,z∈ls→-z ∉ ls:=fun z hz q=>bV hnd (hv z hz).1 hz q
  unfold NP at hd
  rcases Int.lt_or_gt_of_ne h0 with q | q
  · have e : -(y.natAbs : Int) = y := by omega
    have e':(y.natAbs:Int)=-y:=by omega
    rw[e,e']at hd
    rw[if_neg (neg y hy),if_pos hy]at hd
    split at hd
    · cases hd
    · split at hd
      · assumption
      · cases hd
  · have e:(y.natAbs:Int)=y:=by omega
    rw[e,if_pos hy]at hd
    split at hd
    · assumption
    · split at hd<;>cases hd
theorem Px       {n : Nat} {ls : List Int} {y : Int} (hy : y ∈ ls) (hv : VL n y) : 1 ≤ code ls n := by
  rcases rh (code ls n)with h | h
  · have e:code ls n=code [] n:=by
      rw[h]
      have:∀k,code [] k=0:=fun k=>by
        induction k with
        | zero=>rfl
        | succ k ih=>unfold code NP;rw[ih];simp
      exact(this n).symm
    have hd:=Lo e y.natAbs (by have:=hv.1;omega) hv.2
    unfold NP at hd
    rw[if_neg (show ¬ ((y.natAbs:Int)∈([]:List Int)) by simp),if_neg (show ¬ (-(y.natAbs:Int)∈([]:List Int)) by simp)]at hd
    split at hd
    · cases hd
    · split at hd
      · cases hd
      · rename_i q1 q2
        rcases Int.lt_or_gt_of_ne hv.1 with z | z
        · exact absurd hy (by rw[show y=-(y.natAbs:Int) by omega];exact q2)
        · exact absurd hy (by rw[show y=(y.natAbs:Int) by omega];exact q1)
  · exact h
theorem Ln{ls ls':List Int}(h:∀x,x∈ls↔x∈ls'):∀k,code ls k=code ls' k
 | 0=>rfl
 | k+1=>by
  unfold code NP
  rw[Ln h k]
  simp only[h]
structure Ry(n A:Nat)(v:Sv)(C:List Nat):Prop where
 nd:C.Nodup
 mem:∀k∈C,1≤k∧k<3 ^ n∧∃c ls b,v.cl c=some (ls,b)∧code ls n=k
 many:v.many=(C.length:Int)
 lrn:v.learned.length≤C.length
 trc:v.trace.length≤C.length
 tot:C9 v.watches≤2 * (A+C.length)
 room:v.room=2000
theorem Ry.len{n A:Nat}{v:Sv}{C:List Nat}(h:Ry n A v C):C.length≤3 ^ n - 1:=DL h.nd fun k hk=>by
 obtain⟨h1,h2,_⟩:=h.mem k hk
 omega
theorem QI(v:Sv)(r:EI):(Al v r).Perm (r.hd::r.lits):=by
 unfold Al
 cases h:BP (KM v r.lev) r.lits 0 with
 | none=>exact List.Perm.refl _
 | some i =>
  have:=(GA h).2
  exact If (by simp;omega) (by simp;omega)
theorem bD(v:Sv)(r:EI):(Al v r).getD 0 0=r.hd:=by
 unfold Al
 cases h:BP (KM v r.lev) r.lits 0 with
 | none=>rfl
 | some i=>exact RP (by omega) (by omega)
theorem NV{f:Int→Bool}:∀ {L:List Int}{k i:Nat},BP f L k=some i→∃y,L[i - k]? = some y∧f y=true
 | [],k,i,h=>by cases h
 | x::L,k,i,h=>by
  unfold BP at h
  split at h
  ·injection h with h
   subst h
   exact⟨x,by rw[ru];rfl,by assumption⟩
  ·obtain⟨y,h1,h2⟩:=NV h
   have:=(GA h).1
   exact⟨y,by rw[show i - k=(i - (k+1))+1 by omega];exact h1,h2⟩
theorem QH       {v : Sv} {r : EI}  (h : ∃ q ∈ r.lits, lv v q = r.lev) : lv v ((Al     v r).getD 1 0) = r.lev ∧ (Al     v r).getD 1 0 ∈ r.lits := by
  have hs:(BP (KM v r.lev) r.lits 0).isSome=true:=by
    rw[Ea]
    obtain⟨q,h1,h2⟩:=h
    exact⟨q,h1,decide_eq_true h2⟩
  unfold Al
  cases hf:BP (KM v r.lev) r.lits 0 with
  | none=>rw[hf]at hs;cases hs
  | some i =>
    obtain⟨y,h1,h2⟩:=NV hf
    have hl:=(GA hf).2
    have e:(A5 (r.hd::r.lits) 1 (i+1)).getD 1 0=y:=by
      by_cases hi:i=0
      · subst hi
        show(A5 (r.hd::r.lits) 1 1).getD 1 0=y
        rw[VH (by simp;omega)]
        exact FA (l:=r.hd::r.lits) (k:=1) h1
      · rw[PF (by simp;omega) (by omega)]
        exact FA (l:=r.hd::r.lits) (k:=i+1) (by rw[List.getElem?_cons_succ];exact h1)
    dsimp only
    rw[e]
    exact⟨of_decide_eq_true h2,qj h1⟩
structure pK(n:Nat)(v:Sv)(L:List Int)(r:EI):Prop where
 ok:BR n L
 ne:L≠[]
 nd:(L.map Int.natAbs).Nodup
 hd:L.getD 0 0=r.hd
 mem:∀y,y∈L↔y=r.hd∨y∈r.lits
 len:L.length=r.lits.length+1
theorem Ex.list{n:Nat}{v:Sv}(h:CT n v){r:EI}(hL:Ex v r):pK n v (Al v r) r:=by
 obtain⟨i,u,hu,hlu,hhd⟩:=hL.uip
 have hp:=QI v r
 have hVu:=h.inv.fit.lits u (qj hu)
 have hV:∀y∈r.hd::r.lits,VL n y:=fun y hy=>by
  rcases rI.1 hy with e | e
  ·rw[e,hhd];exact⟨by have:=hVu.1;omega,by rw[rE];exact hVu.2⟩
  ·have:=h.inv.fit.lits _ (hL.lits y e).1
   exact⟨by have:=this.1;omega,by have:=this.2;rw[rE]at this;exact this⟩
 have hnd:((r.hd::r.lits).map Int.natAbs).Nodup:=by
  rw[rm,sR]
  refine⟨fun q=>?_,hL.nd⟩
  obtain⟨y,hy,e⟩:=List.mem_map.1 q
  obtain⟨g1,g2,g3⟩:=hL.lits y hy
  have:lv v y=lv v u:=by
   unfold lv
   rw[e,hhd,rE]
  omega
 have hlen:(r.hd::r.lits).length≤n:=by
  have:=DL hnd (n:=n) fun k hk=>by
   obtain⟨y,hy,rfl⟩:=List.mem_map.1 hk
   have:=hV y hy
   exact⟨by have:=this.1;omega,this.2⟩
  simpa using this
 have hsm:=h.inv.fit.siz.small
 have hle:=hp.length_eq
 refine⟨⟨fun y hy=>hV y (hp.mem_iff.1 hy),by omega⟩,fun e=>by rw[e]at hle;simp at hle,((hp.map _).nodup_iff).2 hnd,bD v r,fun y=>by rw[hp.mem_iff,rI],by rw[hle];rfl⟩
theorem Ex.fresh{n h:Nat}{F:List (List Int)}{v:Sv}(k:CI n F h v)(hlim:v.limits≠[]){r:EI}(hL:Ex v r){c:Nat}{ls:List Int}{b:Bool×Bool}(hc:v.cl c=some (ls,b)):code ls n≠code (Al v r) n:=by
  intro he
  have hl:=hL.list k.ct
  obtain⟨c1,c2,c3,c4⟩:=k.ct.cls c ls b hc
  have m1:∀y∈ls,y∈Al v r:=fun y hy=>aM he c1.1 c3 hy
  have hpos:0<v.limits.length:=List.length_pos_iff.2 hlim
  have ht:=AT (d:=(0:Int)) (show v.limits.length - 1<v.limits.length by omega)
  generalize v.limits.getD (v.limits.length - 1) 0=t at ht
  have ht0:=k.ct.lim t (qj ht)
  obtain⟨i,u,hu,hlu,hhd⟩:=hL.uip
  have hneg:∀y∈Al v r,-y∈v.trail:=fun y hy=>by
    rcases(hl.mem y).1 hy with e | e
    · rw[e,hhd,rD];exact qj hu
    · exact(hL.lits y e).1
  have hlow:∀y∈r.lits,-y∈v.trail.take t.toNat:=fun y hy=>by
    obtain⟨g1,g2,g3⟩:=hL.lits y hy
    obtain⟨j,hj⟩:=Cj.1 g1
    obtain⟨q1,q2,q3⟩:=k.ct.last ht hj
    rw[Ci]at q1
    refine B5.2 ⟨j,?_,hj⟩
    rcases qk j t.toNat with z | z
    · exact z
    · have:=q1.2 z;omega
  rcases k.i7 _ t ht c ls b hc with⟨y,hy,hm⟩ | ⟨y,hy,z,hz,hne,h1,h2⟩
  · exact k.ct.inv.two (rF hm) (hneg y (m1 y hy))
  · have e1 : y = r.hd := ((hl.mem y).1 (m1 y hy)).resolve_right fun q => h1 (hlow y q)
    have e2:z=r.hd:=((hl.mem z).1 (m1 z hz)).resolve_right fun q=>h2 (hlow z q)
    exact hne (e1.trans e2.symm)
theorem eO      {n h : Nat} {F : List (List Int)} {w : Sv} (k : CI n F h w) (hlim : w.limits ≠ []) {r : EI}  (hL : Ex      w r) {c : Nat} (hc : w.cl c = none) :
    CI n F (Bx (Ax w r.lev.toNat) c (Al w r)).head.toNat (Bx (Ax w r.lev.toNat) c (Al w r))∧0≤(Bx (Ax w r.lev.toNat) c (Al w r)).head∧(Bx (Ax w r.lev.toNat) c (Al w r)).head≤((Bx (Ax w r.lev.toNat) c (Al w r)).trail.length:Int) ∧
      0≤r.lev∧r.lev<(w.limits.length:Int):=by
  have hl:=hL.list k.ct
  obtain⟨i,u,hu,hlu,hhd⟩:=hL.uip
  have hlev:0≤r.lev∧r.lev<(w.limits.length:Int):=by
    have hpos:0<w.limits.length:=List.length_pos_iff.2 hlim
    rcases hL.lev.2 with⟨_,e⟩ | ⟨q,hq,e⟩
    · omega
    · have:=hL.lits q hq;omega
  have ht:=AT (d:=(0:Int)) (show r.lev.toNat<w.limits.length by omega)
  generalize w.limits.getD r.lev.toNat 0=t at ht
  obtain⟨kb,b2,b3,b4⟩:=k.back ht
  obtain⟨ph,va,wh,tr,li,hd,e,_⟩:=Cv w r.lev.toNat
  have ecl:(Ax w r.lev.toNat).cl=w.cl:=by rw[e]
  have elv:(Ax w r.lev.toNat).level=w.level:=by rw[e]
  have ht0:=k.ct.lim t (qj ht)
  have htl:=k.ct.below t (qj ht)
  have hlt:(w.trail.take t.toNat).length=t.toNat:=by rw[rK];omega
  have low:∀ {x:Int},x∈w.trail→lv w x≤r.lev→x∈w.trail.take t.toNat:=by
    intro x hx hx2
    obtain⟨j,hj⟩:=Cj.1 hx
    have hlj:lv w x=(Hj w.limits j:Int):=k.ct.lev j x hj
    refine B5.2 ⟨j,?_,hj⟩
    rcases qk j t.toNat with q | q
    · exact q
    · have:=MN k.ct.sorted ht (i:=j) (by omega)
      omega
  have hui:t.toNat≤i:=by
    rcases qk i t.toNat with q | q
    · have := (MO     k.ct.sorted ht (i := i) (by omega)).2
      have hli:lv w u=(Hj w.limits i:Int):=k.ct.lev i u hu
      omega
    · exact q
  have hunot:u ∉ w.trail.take t.toNat:=fun q=>by
    obtain⟨j,hj,ej⟩:=B5.1 q
    have:=k.ct.inv.one ej hu rfl
    omega
  have hunot':-u ∉ w.trail.take t.toNat:=fun q=>k.ct.inv.two (qj hu) (rF q)
  have hVu:=k.ct.inv.fit.lits u (qj hu)
  have hopen:(Ax w r.lev.toNat).value.getD ((Al w r).getD 0 0).natAbs 0=0:=by
    rw[hl.hd,hhd]
    refine kb.ct.inv.zero (by have:=hVu.1;omega) ?_ ?_
    · rw[b2];exact hunot'
    · rw[b2,rD];exact hunot
  have hfol:=kb.follow (F':=F) (c:=c) (by rw[ecl];exact hc) hl.ok hl.ne hl.nd (b:=(true,false)) rfl ⟨fun σ hσ=>hσ,fun f hf=>.inl hf⟩ hopen (fun y hy hne=>by
      rw[b2]
      rcases(hl.mem y).1 hy with q | q
      · rw[hl.hd]at hne;exact absurd q hne
      · refine low (hL.lits y q).1 ?_
        rw[Ci]
        exact hL.lev.1 y q) (fun h2=>by
      have hne:r.lits≠[]:=fun q=>by have:=hl.len;rw[q]at this;simp at this;omega
      have hex:∃q∈r.lits,lv w q=r.lev:=hL.lev.2.resolve_left fun q=>hne q.1
      have:=(QH hex).1
      show(Ax w r.lev.toNat).level.getD _ 0=_
      rw[elv,b3,rK]
      have e:w.level.getD ((Al w r).getD 1 0).natAbs 0=r.lev:=this
      rw[e]
      omega) (fun h1=>by
      have hnil:r.lits=[]:=by
        have:=hl.len
        exact List.length_eq_zero_iff.1 (by omega)
      have hz:r.lev=0:=by
        rcases hL.lev.2 with⟨_,q⟩ | ⟨q,hq,_⟩
        · exact q
        · rw[hnil]at hq;cases hq
      rw[b3,hz];rfl) (fun j s hs=>by
      rw[b3]at hs
      have hil:=AZ hs
      have hj:j<r.lev.toNat:=by rw[rK]at hil;omega
      have hs':w.limits[j]? = some s:=by rw[rg hj]at hs;exact hs
      have hst:=(CZ k.ct.sorted ht).1 s (B5.2 ⟨j,hj,hs'⟩)
      have hs0:=k.ct.lim s (qj hs')
      have hne:r.lits≠[]:=fun q=>by
        rcases hL.lev.2 with⟨_,z⟩ | ⟨y,hy,_⟩
        · omega
        · rw[q]at hy;cases hy
      have hex:∃q∈r.lits,lv w q=r.lev:=hL.lev.2.resolve_left fun q=>hne q.1
      obtain⟨q1,q2⟩:=QH hex
      obtain⟨g1,g2,g3⟩:=hL.lits _ q2
      refine .inr ⟨r.hd,(hl.mem _).2 (.inl rfl),(Al w r).getD 1 0,(hl.mem _).2 (.inr q2),fun z=>?_,?_,?_⟩
      · rw[← z,hhd,Ci]at g3;omega
      · rw[b2,sZ,sJ (by omega),hhd,rD]
        exact fun q=>hunot (Fy (by omega) q)
      · rw[b2,sZ,sJ (by omega)]
        intro q
        obtain⟨p,hp,ep⟩:=B5.1 q
        have hlp:lv w (-((Al w r).getD 1 0))=(Hj w.limits p:Int):=k.ct.lev p _ ep
        rw[Ci,q1]at hlp
        have:=(MO k.ct.sorted hs' (i:=p) (by omega)).2
        omega) (fun σ hσ=>by
      rcases hL.imp σ (k.imp σ hσ)with q | ⟨y,hy,hs⟩
      · exact⟨r.hd,(hl.mem _).2 (.inl rfl),q⟩
      · exact⟨y,(hl.mem y).2 (.inr hy),hs⟩)
  have hhead:(Bx (Ax w r.lev.toNat) c (Al w r)).head=t:=by
    unfold Bx
    split<;>exact b4
  have htrail:(Bx (Ax w r.lev.toNat) c (Al w r)).trail=w.trail.take t.toNat++[(Al w r).getD 0 0]:=by
    rw[← b2]
    unfold Bx
    split<;>rfl
  rw[hhead]
  refine⟨?_,ht0,by rw[htrail,qn,hlt];omega,hlev.1,hlev.2⟩
  have hw:(Bx (Ax w r.lev.toNat) c (Al w r)).watches=F1 (Ax w r.lev.toNat).watches c (Al w r):=by
    unfold Bx F1
    split<;>rfl
  have hcl':(Bx (Ax w r.lev.toNat) c (Al w r)).cl=Aj (Ax w r.lev.toNat).cl c (Al w r,(true,false)):=by
    unfold Bx
    split<;>rfl
  have same:∀ {v' v:Sv},BO n v→v'.trail=v.trail→v'.limits=v.limits→v'.value=v.value→v'.level=v.level→v'.why=v.why→v'.heat.length=v.heat.length→v'.phase=v.phase→v'.watches=v.watches→v'.cl=v.cl→BO n v':=by
    intro v' v hi e1 e2 e3 e4 e5 e6 e7 e8 e9
    obtain⟨⟨hz,hv,hli,hlm⟩,g2,g3,g4,g5⟩:=hi
    exact⟨⟨⟨hz.small,by rw[e8];exact hz.w,by rw[e3];exact hz.value,by rw[e4];exact hz.level,by rw[e5];exact hz.why,e6.trans hz.heat,by rw[e7];exact hz.phase,by rw[e1];exact hz.trail,by rw[e2];exact hz.limits⟩,by rw[e3];exact hv,by rw[e1];exact hli,by rw[e1,e2];exact hlm⟩,by rw[e1];exact g2,by rw[e1,e3];exact g3,by rw[e1,e3];exact g4,by rw[e8,e9];exact g5⟩
  refine hfol.of (same hfol.ct.inv ?_ ?_ ?_ ?_ ?_ ?_ ?_ hw hcl') ?_ ?_ ?_ ?_ hcl' hw ?_
  all_goals (unfold Bx;split<;>rfl)
theorem Lp(c:Int→Int→Int)(x:Int):∀q,(Ch c x q).Perm (x::q)
 | []=>List.Perm.refl _
 | y::q=>by
  unfold Ch
  split
  ·exact((Lp c x q).cons y).trans (List.Perm.swap x y q)
  ·exact List.Perm.refl _
theorem L6(c:Int→Int→Int):∀ (R q:List Int),(R.foldl (fun q x=>Ch c x q) q).Perm (q++R)
 | [],q=>by simp
 | y::R,q=>by
  rw[rT]
  refine(L6 c R (Ch c y q)).trans ?_
  refine((Lp c y q).append_right R).trans ?_
  rw[rY]
  exact(List.perm_middle (a:=y) (l₁:=q) (l₂:=R)).symm
theorem Mf(c:Int→Int→Int)(L:List Int):(GI c L).Perm L:=by
 unfold GI
 refine(List.reverse_perm _).trans ?_
 have:=L6 c L []
 rwa[rL]at this
theorem NQ(g:Int→Int)(x:Int):∀ {q:List Int},q.Pairwise (fun a b=>g a≤g b)→(Ch (fun a b=>g b - g a) x q).Pairwise fun a b=>g a≤g b
  | [],_=>by simp[Ch]
  | y::q,h=>by
    rw[sj]at h
    unfold Ch
    split
    · rename_i hlt
      rw[sj]
      refine⟨fun z hz=>?_,NQ g x h.2⟩
      rcases(Hb _ x z q).1 hz with e | e
      · rw[e];omega
      · exact h.1 z e
    · rename_i hge
      rw[sj,sj]
      refine⟨fun z hz=>?_,h⟩
      rcases rI.1 hz with e | e
      · rw[e];omega
      · have:=h.1 z e;omega
theorem NX(g:Int→Int):∀ (R:List Int){q:List Int},q.Pairwise (fun a b=>g a≤g b)→(R.foldl (fun q x=>Ch (fun a b=>g b - g a) x q) q).Pairwise fun a b=>g a≤g b
 | [],_,h=>h
 | y::R,q,h=>by rw[rT];exact NX g R (NQ g y h)
theorem Me(g:Int→Int)(L:List Int):(GI (fun a b=>g b - g a) L).Pairwise fun a b=>g b≤g a:=by
 unfold GI
 rw[List.pairwise_reverse]
 exact NX g L List.Pairwise.nil
theorem Nj(L:List Int):(Ep L).Nodup∧∀z,z∈Ep L↔z∈L:=by
 unfold Ep
 have hs:(Cl L).Pairwise (·≤·):=by
  unfold Cl
  rw[List.pairwise_reverse]
  have:=(I6 L (q:=[]) List.Pairwise.nil).1
  exact this.imp fun h=>h
 cases h:Cl L with
 | nil =>
  have hn:L=[]:=by
   cases L with
   | nil=>rfl
   | cons x L=>have:=(KF (x::L) x).2 (ql ..);rw[h]at this;cases this
  rw[hn]
  exact⟨List.Pairwise.nil,fun z=>Iff.rfl⟩
 | cons p l =>
  rw[h]at hs
  obtain⟨r1,r2⟩:=Kt l p hs
  refine⟨?_,fun z=>?_⟩
  ·show(p::dd p l).Nodup
   exact List.Pairwise.imp (fun h=>by omega) r1
  ·show z∈p::dd p l↔z∈L
   rw[r2 z,← h,KF]
theorem WV(v:Sv)(c:Nat)(O:List Int):GE v c O=withC v c O (false,false):=by
 unfold GE withC F1
 split<;>rfl
theorem Q4(W:List (List Nat))(c:Nat)(L:List Int):C9 (F1 W c L)≤C9 W+2:=by
  unfold F1
  split
  · have h1 := C9.put  W (place (L.getD 0 0)) c
    have h2:=C9.put (Dm W (place (L.getD 0 0)) c) (place (L.getD 1 0)) c
    omega
  · omega
theorem I3{v:Sv}(h:v.broken=false):EZ v={ v with broken:=true,trace:=v.trace++[(false,[])] }:=by
 unfold EZ
 rw[if_neg (by rw[h];decide)]
structure Wt(v v':Sv):Prop where
 limits:v'.limits=v.limits
 head:v'.head=v.head
 many:v'.many=v.many
 learned:v'.learned=v.learned
 room:v'.room=v.room
 tot:C9 v'.watches≤C9 v.watches+2
 cl:∀c l,v.cl c=some l→v'.cl c=some l
theorem V7(F:List (List Int))(f L:List Int)(h:(∃y∈f,-y∈f)∨∀y∈L,y∈f):ce F (F++[f]) L:=
 ⟨fun σ hσ g hg=>hσ g (qt _ hg),fun g hg=>by
  rcases sE.1 hg with q | q
  ·exact .inl q
  ·rw[si.1 q];exact .inr h⟩
theorem kL     {n h : Nat} {F : List (List Int)} {v : Sv} (k : CI n F h v) (hlim : v.limits = []) (hbr : v.broken = false) {f : List Int} (hf : ∀ q ∈ f, VL n q) (hlen : f.length ≤ 12) {v' : Sv} (hr : Mv   v f v') :
    (v'.broken=false∧CI n (F++[f]) h v'∧Wt v v'∧v'.trace=v.trace∧v.trail.length≤v'.trail.length) ∨
    (v'.broken=true∧BO n v'∧Wt v v'∧v'.trace.length=v.trace.length+1∧v'.trail=v.trail∧∀σ,¬ DR σ (F++[f])):=by
  have hi:=k.ct.inv
  obtain⟨ho1,ho2⟩:=Nj f
  have hl0:∀ {x:Int},x∈v.trail→lv v x=0:=fun {x} hx=>by
    obtain⟨i,e⟩:=Cj.1 hx
    have:=k.ct.lev i x e
    unfold lv
    rw[this,hlim];rfl
  have same:∀ {w:Sv},BO n w→BO n { w with broken:=true,trace:=w.trace++[(false,[])] }:=by
    intro w hw
    obtain⟨⟨hz,hv,hli,hlm⟩,g2,g3,g4,g5⟩:=hw
    exact⟨⟨⟨hz.small,hz.w,hz.value,hz.level,hz.why,hz.heat,hz.phase,hz.trail,hz.limits⟩,hv,hli,hlm⟩,g2,g3,g4,g5⟩
  have refl:Wt v v:=⟨rfl,rfl,rfl,rfl,rfl,by omega,fun _ _ q=>q⟩
  cases hr with
  | none ht =>
    rcases ht with ht | ht
    · refine .inl ⟨hbr,?_,refl,rfl,qg _⟩
      obtain⟨y,h1,h2⟩:=Nv.1 ht
      refine { ct:=k.ct,cw:=k.cw,hb:=k.hb,lh:=k.lh,unit:=k.unit,i7:=k.i7,imp:=fun σ hσ=>k.imp σ fun g hg=>hσ g (qt _ hg),cover:=fun g hg=>?_,phase:=k.phase }
      rcases sE.1 hg with q | q
      · exact k.cover g q
      · rw[si.1 q]
        exact .inl ⟨y,(ho2 y).1 h1,(ho2 _).1 h2⟩
    · rw[hbr]at ht;cases ht
  | nil ht hb he =>
    right
    rw[I3 hbr]
    refine⟨rfl,same hi,⟨rfl,rfl,rfl,rfl,rfl,by show C9 v.watches≤_;omega,fun _ _ q=>q⟩,by show(v.trace++[_]).length=_;rw[qn];rfl,rfl,fun σ hσ=>?_⟩
    obtain⟨y,h1,_⟩:=hσ f (rH _ (si.2 rfl))
    have:=(ho2 y).2 h1
    rw[he]at this
    cases this
  | @put c ht hb he hc =>
    have hp:(CN v f).Perm (Ep f):=Mf _ _
    have hm:∀z,z∈CN v f↔z∈f:=fun z=>by rw[hp.mem_iff];exact ho2 z
    have hdesc:(CN v f).Pairwise fun a b=>isV v.value b≤isV v.value a:=Me (isV v.value) (Ep f)
    have hOne:CN v f≠[]:=fun e=>he (by have:=hp.length_eq;rw[e]at this;exact List.length_eq_zero_iff.1 this.symm)
    have hOl:(CN v f).length≤12:=by rw[hp.length_eq];have:=MT f;omega
    have hOk:BR n (CN v f):=⟨fun q hq=>hf q ((hm q).1 hq),by omega⟩
    have hOnd:((CN v f).map Int.natAbs).Nodup:=by
      have hnd:(CN v f).Nodup:=(hp.nodup_iff).2 ho1
      rw[List.Nodup,List.pairwise_map]
      refine List.Pairwise.imp_of_mem ?_ hnd
      intro a b ha hb' hab e
      rcases U5 e with q | q
      · exact hab q
      · have:Kc (Ep f)=true:=Nv.2 ⟨b,hp.mem_iff.1 hb',by rw[← q];exact hp.mem_iff.1 ha⟩
        rw[ht]at this;cases this
    generalize hO:CN v f=O at *
    have hpos:0<O.length:=List.length_pos_iff.2 hOne
    have hV0:=hOk.get hpos
    have m0:O.getD 0 0∈O:=qj (AT hpos)
    have hfirst:∀y∈O,isV v.value y≤isV v.value (O.getD 0 0):=fun y hy=>by
      cases hOc:O with
      | nil=>exact absurd hOc hOne
      | cons x l =>
        rw[hOc]at hdesc hy
        rcases rI.1 hy with e | e
        · rw[e];exact re _
        · exact(sj.1 hdesc).1 y e
    have hsecond:∀y∈O,y≠O.getD 0 0→2≤O.length∧isV v.value y≤isV v.value (O.getD 1 0):=fun y hy hne=>by
      cases hOc:O with
      | nil=>exact absurd hOc hOne
      | cons x l =>
        rw[hOc]at hdesc hy hne
        have hy':y∈l:=(rI.1 hy).resolve_left hne
        cases hl:l with
        | nil=>rw[hl]at hy';cases hy'
        | cons z l' =>
          rw[hl]at hy' hdesc
          refine⟨by simp,?_⟩
          have h2:=(sj.1 (sj.1 hdesc).2).1
          rcases rI.1 hy' with e | e
          · rw[e];exact re _
          · exact h2 y e
    have himp:∀σ,DR σ (F++[f])→∃y∈O,Ja σ y:=fun σ hσ=>by
      obtain⟨y,h1,h2⟩:=hσ f (rH _ (si.2 rfl))
      exact⟨y,(hm y).2 h1,h2⟩
    have hmore:ce F (F++[f]) O:=V7 F f O (.inr fun y hy=>(hm y).1 hy)
    have hi7:∀ (j:Nat) (t:Int),v.limits[j]? = some t→I7 v.trail t.toNat O:=fun j t hj=>by rw[hlim]at hj;simp at hj
    have hfr:∀d l,v.cl d=some l→(withC v c O (false,false)).cl d=some l:=fun d l hd=>by
      show Aj _ _ _ d=_
      unfold Aj
      rw[if_neg fun e=>by rw[e,hc]at hd;cases hd]
      exact hd
    have htot:C9 (withC v c O (false,false)).watches≤C9 v.watches+2:=Q4 _ _ _
    unfold N7
    rw[WV]
    by_cases hneg:isV v.value (O.getD 0 0)<0
    · rw [if_pos hneg]
      right
      have hbw:(withC v c O (false,false)).broken=false:=hbr
      rw[I3 hbw]
      refine⟨rfl,same (hi.withC hc hOk (false,false)).1,⟨rfl,rfl,rfl,rfl,rfl,htot,hfr⟩,by show(v.trace++[_]).length=_;rw[qn];rfl,rfl,fun σ hσ=>?_⟩
      obtain⟨y,hy,hs⟩:=himp σ hσ
      have hy0:=(hOk.1 y hy).1
      have hny:-y∈v.trail:=(hi.neg hy0).1 (by have:=hfirst y hy;omega)
      obtain⟨i,e⟩:=Cj.1 hny
      exact hs.neg (k.ct.zero (k.imp σ (hmore.sub σ hσ)) i (-y) e (hl0 hny))
    · rw[if_neg hneg]
      left
      by_cases hcond:isV v.value (O.getD 0 0)=0∧(O.length=1∨isV v.value (O.getD 1 0)<0)
      · rw[if_pos hcond]
        have hothers:∀y∈O,y≠O.getD 0 0→-y∈v.trail:=fun y hy hne=>by
          obtain⟨g1,g2⟩:=hsecond y hy hne
          have h1n:isV v.value (O.getD 1 0)<0:=by
            rcases hcond.2 with q | q
            · omega
            · exact q
          exact(hi.neg (hOk.1 y hy).1).1 (by omega)
        have hfol:=k.follow (F':=F++[f]) hc hOk hOne hOnd (b:=(false,false)) rfl hmore (JD hcond.1) hothers (fun h2=>by
          have m1:O.getD 1 0∈O:=qj (AT (by omega))
          have hne:O.getD 1 0≠O.getD 0 0:=fun e=>by
            have:=EN hOnd (i:=1) (j:=0) (by omega) (by omega) (by rw[e])
            cases this
          have:=hl0 (hothers _ m1 hne)
          rw[Ci]at this
          rw[this,hlim];rfl) (fun _=>hlim) hi7 himp
        exact⟨hbr,hfol,⟨rfl,rfl,rfl,rfl,rfl,htot,hfr⟩,rfl,by show _≤(v.trail++[_]).length;rw[qn];omega⟩
      · rw[if_neg hcond]
        have hnew:=k.new (F':=F++[f]) hc hOk hOne hOnd (b:=(false,false)) rfl hmore (fun h2=>by
          have m1:O.getD 1 0∈O:=qj (AT (by omega))
          have hV1:=hOk.1 _ m1
          by_cases hp0:0<isV v.value (O.getD 0 0)
          · have hin:=(hi.pos hV0.1).1 hp0
            refine⟨fun q=>(hi.two hin (rF q)).elim,fun q=>⟨hin,?_⟩⟩
            have:=hl0 (rF q)
            rw[Ci]at this
            rw[hl0 hin,this]
            exact re _
          · have hz : isV v.value (O.getD 0 0) = 0 := by omega
            have hn1:¬ isV v.value (O.getD 1 0)<0:=fun q=>hcond ⟨hz,.inr q⟩
            refine⟨fun q=>?_,fun q=>?_⟩
            · have:=(hi.neg hV0.1).2 (rF q);omega
            · exact absurd ((hi.neg hV1.1).2 (rF q)) hn1) (fun h1=>by
          have hp0:0<isV v.value (O.getD 0 0):=by
            have:isV v.value (O.getD 0 0)≠0:=fun q=>hcond ⟨q,.inl h1⟩
            omega
          have hin:=(hi.pos hV0.1).1 hp0
          exact⟨hin,hl0 hin⟩) hi7 himp
        exact⟨hbr,hnew,⟨rfl,rfl,rfl,rfl,rfl,htot,hfr⟩,rfl,qg _⟩
section
variable{E:BI}{K:List AV→AE→Prop}{ow:Ow}{s:AE}{p:Nat}{x:Sf}{v:Sv}
theorem nR(hE:Aq E)(h:Av ow s p x v){n:Nat}(hz:fT n v){b:Nat}(h1:1≤b)(hb:b≤n)(hp:v.phase.getD b 0=1∨v.phase.getD b 0=-1){x1 x2 x3 x4 x5 x7 x8 x9 x10 x11 x12 x13:AV}(hK:∀s' ow' x',Av ow' s' p x' (Bh v ((b:Int) * v.phase.getD b 0) none)→AM (Bs p) ow s ow' s'→K [AV.ptr (some (p,0)),x1,x2,x3,x4,x5,iv (b:Int),x7,x8,x9,x10,x11,x12,x13] s'):
  Qb E Sp K [] [AV.ptr (some (p,0)),x1,x2,x3,x4,x5,iv (b:Int),x7,x8,x9,x10,x11,x12,x13] s:=by
 have hsm:=hz.small
 have hph:=hz.phase
 have hg:=AT (d:=(0:Int)) (show b<v.phase.length by omega)
 have i1:=h.phase.addr Try.underlying23 Br (k:=b) (by rw[qi];omega)
 have i2:=h.phase.get (t:=3) Do (k:=b) (A6 hg)
 have e1:=OD Try.prog 3 (b:Int) (v.phase.getD b 0) (by rcases hp with e | e<;>rw[e]<;>constructor<;>omega)
 have hV:VL n ((b:Int) * v.phase.getD b 0):=by rcases hp with e | e<;>rw[e]<;>constructor<;>omega
 have hasg:=F7 hE h hz hV none
 have hwn:JZ none=.ptr none:=rfl
 rw[hwn]at hasg
 simp only[Sp,AH,TW,h.ld_ph,i1,i2,e1,Qa,Qb,Qc,Qd,Qe,Qf,Qg,Qh,Qi,Qj,Qk,Ql,Qm,Qn,true_and,and_true,Qo,Qp,Qq,Qr,Qs,Qt,Qu,Qv,Qw,Qx,Qy,Qz,Ra,Rb,Rc,Rd,Re,Rf,Rg,Rh,Ri,Rj,Rk,Rl,Rm,Ya,Yb,Yc,Rn,Ro,Rp,Yd,Ye,Rq,Rs,Rt,Ru,Rv,Rw,Rx]
 refine hasg.mono ?_
 rintro _ s1 ⟨ow1,x1,g1,g2,_⟩
 simp only[Qa,Qb,Qc,Qd,Qe,Qf,Qg,Qh,Qi,Qj,Qk,Ql,Qm,Qn,true_and,and_true,Qo,Qp,Qq,Qr,Qs,Qt,Qu,Qv,Qw,Qx,Qy,Qz,Ra,Rb,Rc,Rd,Re,Rf,Rg,Rh,Ri,Rj,Rk,Rl,Rm,Ya,Yb,Yc,Rn,Ro,Rp,Yd,Ye,Rq,Rs,Rt,Ru,Rv,Rw,Rx]
 exact hK s1 ow1 x1 g1 g2.b
end
theorem PD{E:BI}(hE:Aq E){ow:Ow}{s:AE}{p:Nat}{x:Sf}{v:Sv}(h:Av ow s p x v)(hb:v.broken=true){Q:A9→Prop}{x1 x2 x3 x4 x5 x6 x7 x8 x9 x10 x11 x12 x13:AV}
  (hq:∀y8,Q ⟨.exit 0,[AV.ptr (some (p,0)),x1,x2,x3,x4,x5,x6,x7,y8,x9,x10,x11,x12,x13],[],s⟩):
  WC E none (.loop Fu) Q [AV.ptr (some (p,0)),x1,x2,x3,x4,x5,x6,x7,x8,x9,x10,x11,x12,x13] [] s:=by
 have ld:=h.ld_broken
 rw[hb]at ld
 refine WC.loop' ?_
 generalize hW:WC E none (Ac.loop Fu) Q=W
 simp only[Fu,Yw,AH,He,ld,Qa,Qb,Qc,Qd,Qe,Qf,Qg,Qh,Qi,Qj,Qk,Ql,Qm,Qn,true_and,and_true,Qo,Qp,Qq,Qr,Qs,Qt,Qu,Qv,Qw,Qx,Qy,Qz,Ra,Rb,Rc,Rd,Re,Rf,Rg,Rh,Ri,Rj,Rk,Rl,Rm,Ya,Yb,Yc,Rn,Ro,Rp,Yd,Ye,Rq,Rs,Rt,Ru,Rv,Rw,Rx]
 exact hq _
theorem T7         {E : BI}  (hE : Aq   E) {n most : Nat} {I : Nat → Sv → Prop} {R : Int → Sv → Prop} (hl : Gs       n most I R) (hn : n ≤ 500000) (hmost : most ≤ 1000000) {p k u : Nat} (hu : u ≤ 100000000) {ow0 : Ow} {s0 : AE}  {ow : Ow} {s : AE}  {x : Sf} {v : Sv} (h : Av  ow s p x v) (hI : I k v) (hst : AM   (Bs   p) ow0 s0 ow s) {Q : A9   → Prop} {x5 x6 x7 x8 x9 x10 x11 x12 x13 : AV}
    (hend:∀s' ow' x' v' y5 y6 y7 y8 y9 y10 y11 y12 y13 k' u',R 0 v'→Av ow' s' p x' v'→AM (Bs p) ow0 s0 ow' s'→Q ⟨.exit 0,[AV.ptr (some (p,0)),iv (most:Int),iv 0,u',k',y5,y6,y7,y8,y9,y10,y11,y12,y13],[],s'⟩)
    (hret:∀s' ow' x' v' r y3 y4 y5 y6 y7 y8 y9 y10 y11 y12 y13,R r v'→Av ow' s' p x' v'→AM (Bs p) ow0 s0 ow' s'→Q ⟨.ret,[AV.ptr (some (p,0)),iv (most:Int),iv r,y3,y4,y5,y6,y7,y8,y9,y10,y11,y12,y13],[],s'⟩)
    (hnext:∀s' ow' x' v' k' u' y5 y6 y8 y9 y10 y11 y12 y13,I k' v'→(k<k'∧u'=u∨k'=k∧u≤k∧u'=u+32∨k'=k∧u'=u∧v.trail.length<v'.trail.length)→Av ow' s' p x' v'→AM (Bs p) ow0 s0 ow' s'→WC E none (.loop Fu) Q [AV.ptr (some (p,0)),iv (most:Int),iv 0,iv (u':Int),iv (k':Int),y5,y6,x7,y8,y9,y10,y11,y12,y13] [] s'):
    WC E none (.loop Fu) Q [AV.ptr (some (p,0)),iv (most:Int),iv 0,iv (u:Int),iv (k:Int),x5,x6,x7,x8,x9,x10,x11,x12,x13] [] s:=by
  have hbr:∀ {ow:Ow} {s:AE} {x:Sf} {v:Sv} {y5 y6 y8 y9 y10 y11 y12 y13:AV},Av ow s p x v→v.broken=true→R 0 v→AM (Bs p) ow0 s0 ow s→WC E none (.loop Fu) Q [AV.ptr (some (p,0)),iv (most:Int),iv 0,iv (u:Int),iv (k:Int),y5,y6,x7,y8,y9,y10,y11,y12,y13] [] s:=
    fun h hb hR hst=>PD hE h hb fun y8=>hend _ _ _ _ _ _ _ _ _ _ _ _ _ _ _ hR h hst
  cases hb:v.broken with
  | true=>exact hbr h hb (hl.brk hI hb) hst
  | false =>
    have ld:=h.ld_broken
    rw[hb]at ld
    obtain⟨hk,hi2⟩:=hl.ok hI
    refine WC.loop' ?_
    generalize hW:WC E none (Ac.loop Fu) Q=W at hnext hbr
    simp only[Fu,Yw,AH,He,ld,gK,Qa,Qb,Qc,Qd,Qe,Qf,Qg,Qh,Qi,Qj,Qk,Ql,Qm,Qn,true_and,and_true,Qo,Qp,Qq,Qr,Qs,Qt,Qu,Qv,Qw,Qx,Qy,Qz,Ra,Rb,Rc,Rd,Re,Rf,Rg,Rh,Ri,Rj,Rk,Rl,Rm,Ya,Yb,Yc,Rn,Ro,Rp,Yd,Ye,Rq,Rs,Rt,Ru,Rv,Rw,Rx]
    refine(O1 hE h (B:=50000000) (qg _) hi2).mono ?_
    rintro _ s1 ⟨c,v1,ow1,x1,hp,rfl,h1,st1⟩
    obtain⟨m1,m2,m3,m4,m5⟩:=hl.mid hI hb hp
    obtain⟨hi1,hlim⟩:=hp.keep hi2
    have hf1:=hi1.inv.fit
    have hz1:=hf1.siz
    have htr:=hp.trail
    have stA:=hst.trans st1
    have hlimB:∀s,As Try.prog s 23 x1.lim=some (iv (v1.limits.length:Int)):=fun s=>by
      have:=h1.limits.len Try.underlying23 s
      rw[qi]at this
      exact this
    cases c with
    | some c =>
      simp only[Yx,Oa,Option.isSome,gL,AH,IT,h1.ld_lim,hlimB,Qa,Qb,Qc,Qd,Qe,Qf,Qg,Qh,Qi,Qj,Qk,Ql,Qm,Qn,true_and,and_true,Qo,Qp,Qq,Qr,Qs,Qt,Qu,Qv,Qw,Qx,Qy,Qz,Ra,Rb,Rc,Rd,Re,Rf,Rg,Rh,Ri,Rj,Rk,Rl,Rm,Ya,Yb,Yc,Rn,Ro,Rp,Yd,Ye,Rq,Rs,Rt,Ru,Rv,Rw,Rx]
      by_cases hl0:v1.limits=[]
      · have d0:decide ((v1.limits.length:Int)=0)=true:=decide_eq_true (by rw[hl0];rfl)
        simp only[d0,Yj,Qa,Qb,Qc,Qd,Qe,Qf,Qg,Qh,Qi,Qj,Qk,Ql,Qm,Qn,true_and,and_true,Qo,Qp,Qq,Qr,Qs,Qt,Qu,Qv,Qw,Qx,Qy,Qz,Ra,Rb,Rc,Rd,Re,Rf,Rg,Rh,Ri,Rj,Rk,Rl,Rm,Ya,Yb,Yc,Rn,Ro,Rp,Yd,Ye,Rq,Rs,Rt,Ru,Rv,Rw,Rx]
        refine(Od hE h1 m1).mono ?_
        rintro _ s2 ⟨ow2,x2,g1,g2,_⟩
        simp only[if_true,show(1:Nat)≠2 by decide,if_false,Qa,Qb,Qc,Qd,Qe,Qf,Qg,Qh,Qi,Qj,Qk,Ql,Qm,Qn,true_and,and_true,Qo,Qp,Qq,Qr,Qs,Qt,Qu,Qv,Qw,Qx,Qy,Qz,Ra,Rb,Rc,Rd,Re,Rf,Rg,Rh,Ri,Rj,Rk,Rl,Rm,Ya,Yb,Yc,Rn,Ro,Rp,Yd,Ye,Rq,Rs,Rt,Ru,Rv,Rw,Rx]
        have hfb:(EZ v1).broken=true:=by
          unfold EZ
          split
          · assumption
          · rfl
        exact hbr g1 hfb (hl.fail hI hb hp hl0) (stA.trans g2.b)
      · have d0:decide ((v1.limits.length:Int)=0)=false:=decide_eq_false fun q=>hl0 (List.length_eq_zero_iff.1 (by omega))
        by_cases hmk:most≤k
        · have d1 : decide ((most : Int) ≤ (k : Int)) = true := decide_eq_true (by omega)
          have hback:WF E 63 [.ptr (some (p,0)),.int .i64 0] (fun _ s'=>∃x',Av ow1 s' p x' (Ax v1 0)∧AM (B6 p) ow1 s1 ow1 s'∧x'.w=x1.w) s1:=F8 hE h1 hf1 (level:=0) (by decide)
          simp only[d0,Sj,d1,Yk,Qa,Qb,Qc,Qd,Qe,Qf,Qg,Qh,Qi,Qj,Qk,Ql,Qm,Qn,true_and,and_true,Qo,Qp,Qq,Qr,Qs,Qt,Qu,Qv,Qw,Qx,Qy,Qz,Ra,Rb,Rc,Rd,Re,Rf,Rg,Rh,Ri,Rj,Rk,Rl,Rm,Ya,Yb,Yc,Rn,Ro,Rp,Yd,Ye,Rq,Rs,Rt,Ru,Rv,Rw,Rx]
          refine hback.mono ?_
          rintro _ s2 ⟨x2,g1,g2,_⟩
          simp only[Yl,Qa,Qb,Qc,Qd,Qe,Qf,Qg,Qh,Qi,Qj,Qk,Ql,Qm,Qn,true_and,and_true,Qo,Qp,Qq,Qr,Qs,Qt,Qu,Qv,Qw,Qx,Qy,Qz,Ra,Rb,Rc,Rd,Re,Rf,Rg,Rh,Ri,Rj,Rk,Rl,Rm,Ya,Yb,Yc,Rn,Ro,Rp,Yd,Ye,Rq,Rs,Rt,Ru,Rv,Rw,Rx]
          exact hret s2 ow1 x2 _ 2 _ _ _ _ _ _ _ _ _ _ _ (hl.unk hI hb hp hl0 hmk) g1 (stA.trans g2.b)
        · have d1 : decide ((most : Int) ≤ (k : Int)) = false := decide_eq_false (by omega)
          have e1:=Ay Try.prog 3 (k:Int) 1 ⟨by omega,by omega⟩
          have e1':((k:Int)+1)=((k+1:Nat):Int):=by omega
          obtain⟨r,r1,r2,r3,r4,r5⟩:=hl.lrn hI hb hp hl0 (by omega)
          simp only[d0,Sj,d1,Ym,e1,e1',JZ,AR,Qa,Qb,Qc,Qd,Qe,Qf,Qg,Qh,Qi,Qj,Qk,Ql,Qm,Qn,true_and,and_true,Qo,Qp,Qq,Qr,Qs,Qt,Qu,Qv,Qw,Qx,Qy,Qz,Ra,Rb,Rc,Rd,Re,Rf,Rg,Rh,Ri,Rj,Rk,Rl,Rm,Ya,Yb,Yc,Rn,Ro,Rp,Yd,Ye,Rq,Rs,Rt,Ru,Rv,Rw,Rx]
          refine nN h1 ?_
          intro s2 h2 st2
          try simp only[Qa,Qb,Qc,Qd,Qe,Qf,Qg,Qh,Qi,Qj,Qk,Ql,Qm,Qn,true_and,and_true,Qo,Qp,Qq,Qr,Qs,Qt,Qu,Qv,Qw,Qx,Qy,Qz,Ra,Rb,Rc,Rd,Re,Rf,Rg,Rh,Ri,Rj,Rk,Rl,Rm,Ya,Yb,Yc,Rn,Ro,Rp,Yd,Ye,Rq,Rs,Rt,Ru,Rv,Rw,Rx]
          refine nO hE h2 hn hf1 m4 r1 r2 r3 r4 m1 (by have:=hi1.tot;omega) m2 ?_
          intro s3 ow3 x3 h' cn f1 f2 f3 f4
          simp only[if_true,show(1:Nat)≠2 by decide,if_false,Qa,Qb,Qc,Qd,Qe,Qf,Qg,Qh,Qi,Qj,Qk,Ql,Qm,Qn,true_and,and_true,Qo,Qp,Qq,Qr,Qs,Qt,Qu,Qv,Qw,Qx,Qy,Qz,Ra,Rb,Rc,Rd,Re,Rf,Rg,Rh,Ri,Rj,Rk,Rl,Rm,Ya,Yb,Yc,Rn,Ro,Rp,Yd,Ye,Rq,Rs,Rt,Ru,Rv,Rw,Rx]
          exact hnext s3 ow3 x3 _ (k+1) u _ _ _ _ _ _ _ _ (r5 h' cn f1 f2) (.inl ⟨by omega,rfl⟩) f3 ((stA.trans st2.b).trans f4)
    | none =>
      simp only[Yx,Oa,Option.isSome,Yn,Qa,Qb,Qc,Qd,Qe,Qf,Qg,Qh,Qi,Qj,Qk,Ql,Qm,Qn,true_and,and_true,Qo,Qp,Qq,Qr,Qs,Qt,Qu,Qv,Qw,Qx,Qy,Qz,Ra,Rb,Rc,Rd,Re,Rf,Rg,Rh,Ri,Rj,Rk,Rl,Rm,Ya,Yb,Yc,Rn,Ro,Rp,Yd,Ye,Rq,Rs,Rt,Ru,Rv,Rw,Rx]
      by_cases huk:u≤k
      · have d1 : decide ((u : Int) ≤ (k : Int)) = true := decide_eq_true (by omega)
        have e1:=Ay Try.prog 3 (u:Int) 32 ⟨by omega,by omega⟩
        have e1':((u:Int)+32)=((u+32:Nat):Int):=by omega
        simp only[d1,Yo,e1,e1',Yp,Qa,Qb,Qc,Qd,Qe,Qf,Qg,Qh,Qi,Qj,Qk,Ql,Qm,Qn,true_and,and_true,Qo,Qp,Qq,Qr,Qs,Qt,Qu,Qv,Qw,Qx,Qy,Qz,Ra,Rb,Rc,Rd,Re,Rf,Rg,Rh,Ri,Rj,Rk,Rl,Rm,Ya,Yb,Yc,Rn,Ro,Rp,Yd,Ye,Rq,Rs,Rt,Ru,Rv,Rw,Rx]
        refine(eD hE h1 (by have:=hz1.heat;have:=hz1.small;omega)).mono ?_
        rintro _ s2 ⟨h',h2,hl2,st2⟩
        have hf2:N0 n (Cn v1 h'):=⟨⟨hz1.small,hz1.w,hz1.value,hz1.level,hz1.why,hl2.trans hz1.heat,hz1.phase,hz1.trail,hz1.limits⟩,hf1.val,hf1.lits,hf1.lims⟩
        have hback:WF E 63 [.ptr (some (p,0)),.int .i64 0] (fun _ s'=>∃x',Av ow1 s' p x' (Ax (Cn v1 h') 0)∧AM (B6 p) ow1 s2 ow1 s'∧x'.w=x1.w) s2:=F8 hE h2 hf2 (level:=0) (by decide)
        simp only[Yq,Qa,Qb,Qc,Qd,Qe,Qf,Qg,Qh,Qi,Qj,Qk,Ql,Qm,Qn,true_and,and_true,Qo,Qp,Qq,Qr,Qs,Qt,Qu,Qv,Qw,Qx,Qy,Qz,Ra,Rb,Rc,Rd,Re,Rf,Rg,Rh,Ri,Rj,Rk,Rl,Rm,Ya,Yb,Yc,Rn,Ro,Rp,Yd,Ye,Rq,Rs,Rt,Ru,Rv,Rw,Rx]
        refine hback.mono ?_
        rintro _ s3 ⟨x3,h3,st3,_⟩
        obtain⟨q1,q2⟩:=hl.cool hI hb hp h' hl2
        have hroom:(Ax (Cn v1 h') 0).room=v1.room:=by
          obtain⟨ph,va,wh,tr,li,hd,e,_⟩:=Cv (Cn v1 h') 0
          rw[e]
          rfl
        simp only[Yr,Qa,Qb,Qc,Qd,Qe,Qf,Qg,Qh,Qi,Qj,Qk,Ql,Qm,Qn,true_and,and_true,Qo,Qp,Qq,Qr,Qs,Qt,Qu,Qv,Qw,Qx,Qy,Qz,Ra,Rb,Rc,Rd,Re,Rf,Rg,Rh,Ri,Rj,Rk,Rl,Rm,Ya,Yb,Yc,Rn,Ro,Rp,Yd,Ye,Rq,Rs,Rt,Ru,Rv,Rw,Rx]
        refine(Vb hE h3 (by rw[q2,hroom];exact m3)).mono ?_
        rintro _ s4 ⟨ow4,h4,st4⟩
        simp only[if_true,Qa,Qb,Qc,Qd,Qe,Qf,Qg,Qh,Qi,Qj,Qk,Ql,Qm,Qn,true_and,and_true,Qo,Qp,Qq,Qr,Qs,Qt,Qu,Qv,Qw,Qx,Qy,Qz,Ra,Rb,Rc,Rd,Re,Rf,Rg,Rh,Ri,Rj,Rk,Rl,Rm,Ya,Yb,Yc,Rn,Ro,Rp,Yd,Ye,Rq,Rs,Rt,Ru,Rv,Rw,Rx]
        exact hnext s4 ow4 x3 _ k (u+32) _ _ _ _ _ _ _ _ q1 (.inr (.inl ⟨rfl,huk,rfl⟩)) h4 (((stA.trans st2.b).trans st3.b).trans st4.b)
      · have d1:decide ((u:Int)≤(k:Int))=false:=decide_eq_false (by omega)
        simp only[d1,Ys,Qa,Qb,Qc,Qd,Qe,Qf,Qg,Qh,Qi,Qj,Qk,Ql,Qm,Qn,true_and,and_true,Qo,Qp,Qq,Qr,Qs,Qt,Qu,Qv,Qw,Qx,Qy,Qz,Ra,Rb,Rc,Rd,Re,Rf,Rg,Rh,Ri,Rj,Rk,Rl,Rm,Ya,Yb,Yc,Rn,Ro,Rp,Yd,Ye,Rq,Rs,Rt,Ru,Rv,Rw,Rx]
        refine(ee hE h1 hz1.small hz1.value hz1.heat).mono ?_
        rintro _ s2 ⟨b,ow2,rfl,hnx,h2,st2⟩
        have stB:=stA.trans st2.b
        rcases hnx with⟨hb0,hall⟩ | ⟨hb1,hb2,hb3⟩
        · have d2:decide ((b:Int)=0)=true:=decide_eq_true (by omega)
          simp only[Sm,d2,Qa,Qb,Qc,Qd,Qe,Qf,Qg,Qh,Qi,Qj,Qk,Ql,Qm,Qn,true_and,and_true,Qo,Qp,Qq,Qr,Qs,Qt,Qu,Qv,Qw,Qx,Qy,Qz,Ra,Rb,Rc,Rd,Re,Rf,Rg,Rh,Ri,Rj,Rk,Rl,Rm,Ya,Yb,Yc,Rn,Ro,Rp,Yd,Ye,Rq,Rs,Rt,Ru,Rv,Rw,Rx]
          refine nP hE h2 hn hz1.value ?_
          intro s3 ow3 x3 h3 st3
          have hf3:N0 n { v1 with model:=v1.value }:=⟨⟨hz1.small,hz1.w,hz1.value,hz1.level,hz1.why,hz1.heat,hz1.phase,hz1.trail,hz1.limits⟩,hf1.val,hf1.lits,hf1.lims⟩
          have hback:WF E 63 [.ptr (some (p,0)),.int .i64 0] (fun _ s'=>∃x',Av ow3 s' p x' (HH v1)∧AM (B6 p) ow3 s3 ow3 s'∧x'.w=x3.w) s3:=F8 hE h3 hf3 (level:=0) (by decide)
          simp only[Yt,Qa,Qb,Qc,Qd,Qe,Qf,Qg,Qh,Qi,Qj,Qk,Ql,Qm,Qn,true_and,and_true,Qo,Qp,Qq,Qr,Qs,Qt,Qu,Qv,Qw,Qx,Qy,Qz,Ra,Rb,Rc,Rd,Re,Rf,Rg,Rh,Ri,Rj,Rk,Rl,Rm,Ya,Yb,Yc,Rn,Ro,Rp,Yd,Ye,Rq,Rs,Rt,Ru,Rv,Rw,Rx]
          refine hback.mono ?_
          rintro _ s4 ⟨x4,h4,st4,_⟩
          simp only[Yu,Qa,Qb,Qc,Qd,Qe,Qf,Qg,Qh,Qi,Qj,Qk,Ql,Qm,Qn,true_and,and_true,Qo,Qp,Qq,Qr,Qs,Qt,Qu,Qv,Qw,Qx,Qy,Qz,Ra,Rb,Rc,Rd,Re,Rf,Rg,Rh,Ri,Rj,Rk,Rl,Rm,Ya,Yb,Yc,Rn,Ro,Rp,Yd,Ye,Rq,Rs,Rt,Ru,Rv,Rw,Rx]
          exact hret s4 ow3 x4 _ 1 _ _ _ _ _ _ _ _ _ _ _ (hl.maybe hI hb hp hall) h4 ((stB.trans st3).trans st4.b)
        · have d2 : decide ((b : Int) = 0) = false := decide_eq_false (by omega)
          have hvl:=hz1.value
          have hIn:=hl.dec hI hb hp hb1 (by omega) hb3
          have hlt:v1.trail.length<(Fw v1 b).trail.length:=by
            show _<(v1.trail++[_]).length
            rw[qn];simp
          have hll:v1.limits.length+1≤n:=by
            have:=(hl.ok hIn).2.inv.fit.siz.limits
            have e:(Fw v1 b).limits.length=v1.limits.length+1:=by
              show(v1.limits++[_]).length=_
              rw[qn];rfl
            omega
          simp only[Sm,d2,Qa,Qb,Qc,Qd,Qe,Qf,Qg,Qh,Qi,Qj,Qk,Ql,Qm,Qn,true_and,and_true,Qo,Qp,Qq,Qr,Qs,Qt,Qu,Qv,Qw,Qx,Qy,Qz,Ra,Rb,Rc,Rd,Re,Rf,Rg,Rh,Ri,Rj,Rk,Rl,Rm,Ya,Yb,Yc,Rn,Ro,Rp,Yd,Ye,Rq,Rs,Rt,Ru,Rv,Rw,Rx]
          refine nQ h2 (by omega) ?_
          intro s3 ow3 x3 h3 st3
          try simp only[Qa,Qb,Qc,Qd,Qe,Qf,Qg,Qh,Qi,Qj,Qk,Ql,Qm,Qn,true_and,and_true,Qo,Qp,Qq,Qr,Qs,Qt,Qu,Qv,Qw,Qx,Qy,Qz,Ra,Rb,Rc,Rd,Re,Rf,Rg,Rh,Ri,Rj,Rk,Rl,Rm,Ya,Yb,Yc,Rn,Ro,Rp,Yd,Ye,Rq,Rs,Rt,Ru,Rv,Rw,Rx]
          refine nR hE h3 (n:=n) ⟨hz1.small,hz1.w,hz1.value,hz1.level,hz1.why,hz1.heat,hz1.phase,hz1.trail,by show(v1.limits++[_]).length≤n;rw[qn];exact hll⟩ hb1 (by omega) (m5 b hb1 (by omega)) ?_
          intro s4 ow4 x4 h4 st4
          try simp only[Qa,Qb,Qc,Qd,Qe,Qf,Qg,Qh,Qi,Qj,Qk,Ql,Qm,Qn,true_and,and_true,Qo,Qp,Qq,Qr,Qs,Qt,Qu,Qv,Qw,Qx,Qy,Qz,Ra,Rb,Rc,Rd,Re,Rf,Rg,Rh,Ri,Rj,Rk,Rl,Rm,Ya,Yb,Yc,Rn,Ro,Rp,Yd,Ye,Rq,Rs,Rt,Ru,Rv,Rw,Rx]
          exact hnext s4 ow4 x4 _ k u _ _ _ _ _ _ _ _ hIn (.inr (.inr ⟨rfl,rfl,by omega⟩)) h4 ((stB.trans st3).trans st4)
theorem T6{E:BI}(hE:Aq E){n most:Nat}{I:Nat→Sv→Prop}{R:Int→Sv→Prop}(hl:Gs n most I R)(hn:n≤500000)(hmost:most≤1000000){p:Nat}{ow0:Ow}{s0:AE}{Q:A9→Prop}{x7:AV}
  (hend:∀s' ow' x' v' y5 y6 y7 y8 y9 y10 y11 y12 y13 k' u',R 0 v'→Av ow' s' p x' v'→AM (Bs p) ow0 s0 ow' s'→Q ⟨.exit 0,[AV.ptr (some (p,0)),iv (most:Int),iv 0,u',k',y5,y6,y7,y8,y9,y10,y11,y12,y13],[],s'⟩)
  (hret:∀s' ow' x' v' r y3 y4 y5 y6 y7 y8 y9 y10 y11 y12 y13,R r v'→Av ow' s' p x' v'→AM (Bs p) ow0 s0 ow' s'→Q ⟨.ret,[AV.ptr (some (p,0)),iv (most:Int),iv r,y3,y4,y5,y6,y7,y8,y9,y10,y11,y12,y13],[],s'⟩):
  ∀ (m1 m2 m3:Nat) (k u:Nat) (s:AE) (ow:Ow) (x:Sf) (v:Sv) (x5 x6 x8 x9 x10 x11 x12 x13:AV),most - k=m1→k+1 - u=m2→n - v.trail.length=m3→u≤50+k+32→I k v→Av ow s p x v→AM (Bs p) ow0 s0 ow s →
   WC E none (.loop Fu) Q [AV.ptr (some (p,0)),iv (most:Int),iv 0,iv (u:Int),iv (k:Int),x5,x6,x7,x8,x9,x10,x11,x12,x13] [] s:=by
 intro m1
 induction m1 using Nat.strongRecOn with
 | _ m1 ih1 =>
 intro m2
 induction m2 using Nat.strongRecOn with
 | _ m2 ih2 =>
 intro m3
 induction m3 using Nat.strongRecOn with
 | _ m3 ih3 =>
 intro k u s ow x v x5 x6 x8 x9 x10 x11 x12 x13 e1 e2 e3 hu hI h hst
 have hk:=(hl.ok hI).1
 refine T7 hE hl hn hmost (u:=u) (by omega) h hI hst hend hret ?_
 intro s' ow' x' v' k' u' y5 y6 y8 y9 y10 y11 y12 y13 hI' hc h' st'
 have hk':=(hl.ok hI').1
 have ht':=(hl.ok hI').2.inv.fit.siz.trail
 rcases hc with⟨c1,c2⟩ | ⟨c1,c2,c3⟩ | ⟨c1,c2,c3⟩
 ·exact ih1 (most - k') (by omega) (k'+1 - u') (n - v'.trail.length) k' u' s' ow' x' v' _ _ _ _ _ _ _ _ rfl rfl rfl (by omega) hI' h' st'
 ·exact ih2 (k'+1 - u') (by omega) (n - v'.trail.length) k' u' s' ow' x' v' _ _ _ _ _ _ _ _ (by omega) rfl rfl (by omega) hI' h' st'
 ·exact ih3 (n - v'.trail.length) (by omega) k' u' s' ow' x' v' _ _ _ _ _ _ _ _ (by omega) (by omega) rfl (by omega) hI' h' st'
theorem cH{E:BI}(hE:Aq E){n most:Nat}{I:Nat→Sv→Prop}{R:Int→Sv→Prop}(hl:Gs n most I R)(hn:n≤500000)(hmost:most≤1000000){ow:Ow}{s:AE}{p:Nat}{x:Sf}{v:Sv}(h:Av ow s p x v)(hf:N0 n v)(hI:I 0 (Ax v 0)):
  WF E 34 [AR p,iv (most:Int)] (fun r s'=>∃c v' ow' x',r=iv c∧R c v'∧Av ow' s' p x' v'∧AM (Bs p) ow s ow' s') s:=by
 have he:=G7 p
 simp only[AR]at he
 have hback:WF E 63 [.ptr (some (p,0)),.int .i64 0] (fun _ s'=>∃x',Av ow s' p x' (Ax v 0)∧AM (B6 p) ow s ow s'∧x'.w=x.w) s:=F8 hE h hf (level:=0) (by decide)
 refine hE.go lJ (by decide) rfl ?_
 simp only[qA,gE,gF,AR,he,gG,Qa,Qb,Qc,Qd,Qe,Qf,Qg,Qh,Qi,Qj,Qk,Ql,Qm,Qn,true_and,and_true,Qo,Qp,Qq,Qr,Qs,Qt,Qu,Qv,Qw,Qx,Qy,Qz,Ra,Rb,Rc,Rd,Re,Rf,Rg,Rh,Ri,Rj,Rk,Rl,Rm,Ya,Yb,Yc,Rn,Ro,Rp,Yd,Ye,Rq,Rs,Rt,Ru,Rv,Rw,Rx]
 refine hback.mono ?_
 rintro _ s1 ⟨x1,h1,st1,_⟩
 simp only[gH,gI,Qa,Qb,Qc,Qd,Qe,Qf,Qg,Qh,Qi,Qj,Qk,Ql,Qm,Qn,true_and,and_true,Qo,Qp,Qq,Qr,Qs,Qt,Qu,Qv,Qw,Qx,Qy,Qz,Ra,Rb,Rc,Rd,Re,Rf,Rg,Rh,Ri,Rj,Rk,Rl,Rm,Ya,Yb,Yc,Rn,Ro,Rp,Yd,Ye,Rq,Rs,Rt,Ru,Rv,Rw,Rx]
 refine T6 hE hl hn hmost (ow0:=ow) (s0:=s) ?_ ?_ _ _ _ 0 32 s1 ow x1 (Ax v 0) _ _ _ _ _ _ _ _ rfl rfl rfl (by omega) hI h1 st1.b
 ·intro s' ow' x' v' y5 y6 y7 y8 y9 y10 y11 y12 y13 k' u' hR hS hst
  simp only[if_true,Yv,Qa,Qb,Qc,Qd,Qe,Qf,Qg,Qh,Qi,Qj,Qk,Ql,Qm,Qn,true_and,and_true,Qo,Qp,Qq,Qr,Qs,Qt,Qu,Qv,Qw,Qx,Qy,Qz,Ra,Rb,Rc,Rd,Re,Rf,Rg,Rh,Ri,Rj,Rk,Rl,Rm,Ya,Yb,Yc,Rn,Ro,Rp,Yd,Ye,Rq,Rs,Rt,Ru,Rv,Rw,Rx]
  exact⟨0,v',ow',x',rfl,hR,hS,hst⟩
 ·intro s' ow' x' v' r y3 y4 y5 y6 y7 y8 y9 y10 y11 y12 y13 hR hS hst
  simp only[Qa,Qb,Qc,Qd,Qe,Qf,Qg,Qh,Qi,Qj,Qk,Ql,Qm,Qn,true_and,and_true,Qo,Qp,Qq,Qr,Qs,Qt,Qu,Qv,Qw,Qx,Qy,Qz,Ra,Rb,Rc,Rd,Re,Rf,Rg,Rh,Ri,Rj,Rk,Rl,Rm,Ya,Yb,Yc,Rn,Ro,Rp,Yd,Ye,Rq,Rs,Rt,Ru,Rv,Rw,Rx]
  exact⟨r,v',ow',x',rfl,hR,hS,hst⟩
structure Live(n A:Nat)(F:List (List Int))(C:List Nat)(v:Sv):Prop where
 brk:v.broken=false
 ci:CI n F v.head.toNat v
 h0:0≤v.head
 h1:v.head≤(v.trail.length:Int)
 cod:Ry n A v C
structure VK(n:Nat)(F:List (List Int))(M:Nat)(v:Sv):Prop where
 brk:v.broken=true
 inv:Jc n 50000000 v
 lim:v.limits=[]
 trc:v.trace.length≤1000000
 few:v.trace.length≤M+1
 many:v.many≤(M:Int)
 no:∀σ,¬ DR σ F
def Mk(m:List Int)(k:Nat):Bool:=decide (0<m.getD k 0)
theorem Ry.of{n A:Nat}{v v':Sv}{C:List Nat}(h:Ry n A v C)(h1:v'.cl=v.cl)(h2:v'.many=v.many)(h3:v'.learned=v.learned)(h4:v'.trace=v.trace)(h5:v'.watches=v.watches)(h6:v'.room=v.room):Ry n A v' C:=
 ⟨h.nd,by rw[h1];exact h.mem,by rw[h2];exact h.many,by rw[h3];exact h.lrn,by rw[h4];exact h.trc,by rw[h5];exact h.tot,by rw[h6];exact h.room⟩
theorem Ry.prog{n A:Nat}{v v':Sv}{C:List Nat}(h:Ry n A v C)(p:FM v v')(ht:C9 v'.watches≤2 * (A+C.length)):Ry n A v' C:=
 ⟨h.nd,fun k hk=>by
  obtain⟨h1,h2,c,ls,b,h3,h4⟩:=h.mem k hk
  obtain⟨ls',q1,q2⟩:=(p.cl c).2 ls b h3
  exact⟨h1,h2,c,ls',b,q1,by rw[← h4];exact Ln (fun x=>q2.mem_iff) n⟩,by rw[p.many];exact h.many,by rw[p.learned];exact h.lrn,by rw[p.trace];exact h.trc,ht,by rw[p.room];exact h.room⟩
theorem Ry.back{n A:Nat}{v:Sv}{C:List Nat}(h:Ry n A v C)(j:Nat):Ry n A (Ax v j) C:=by
 obtain⟨ph,va,wh,tr,li,hd,e,_⟩:=Cv v j
 rw[e]
 exact h.of rfl rfl rfl rfl rfl rfl
theorem CI.zero{n h:Nat}{F:List (List Int)}{w:Sv}(k:CI n F h w)(hz:w.limits=[]→h=w.head.toNat∧0≤w.head∧w.head≤(w.trail.length:Int)):CI n F (Ax w 0).head.toNat (Ax w 0)∧(Ax w 0).limits=[]∧0≤(Ax w 0).head∧(Ax w 0).head≤((Ax w 0).trail.length:Int):=by
  by_cases hl:w.limits=[]
  · obtain⟨g1,g2,g3⟩:=hz hl
    rw[NF (by rw[hl];exact qg _)]
    exact⟨by rw[← g1];exact k,hl,g2,g3⟩
  · have hpos : 0 < w.limits.length := List.length_pos_iff.2 hl
    have ht:=AT (d:=(0:Int)) hpos
    generalize w.limits.getD 0 0=t at ht
    obtain⟨b1,b2,b3,b4⟩:=k.back ht
    have ht0:=k.ct.lim t (qj ht)
    have htl:=k.ct.below t (qj ht)
    refine⟨by rw[b4];exact b1,by rw[b3];rfl,by rw[b4];exact ht0,?_⟩
    rw[b4,b2,rK]
    omega
theorem BO.heat{n:Nat}{v:Sv}(hi:BO n v){h:List Int}(hl:h.length=v.heat.length):BO n (Cn v h):=by
 obtain⟨⟨hz,hv,hli,hlm⟩,g2,g3,g4,g5⟩:=hi
 exact⟨⟨⟨hz.small,hz.w,hz.value,hz.level,hz.why,hl.trans hz.heat,hz.phase,hz.trail,hz.limits⟩,hv,hli,hlm⟩,g2,g3,g4,g5⟩
theorem BO.many{n:Nat}{v:Sv}(hi:BO n v):BO n (DW v):=by
 obtain⟨⟨hz,hv,hli,hlm⟩,g2,g3,g4,g5⟩:=hi
 exact⟨⟨⟨hz.small,hz.w,hz.value,hz.level,hz.why,hz.heat,hz.phase,hz.trail,hz.limits⟩,hv,hli,hlm⟩,g2,g3,g4,g5⟩
theorem BO.model{n:Nat}{v:Sv}(hi:BO n v)(m:List Int):BO n { v with model:=m }:=by
 obtain⟨⟨hz,hv,hli,hlm⟩,g2,g3,g4,g5⟩:=hi
 exact⟨⟨⟨hz.small,hz.w,hz.value,hz.level,hz.why,hz.heat,hz.phase,hz.trail,hz.limits⟩,hv,hli,hlm⟩,g2,g3,g4,g5⟩
theorem CI.models {n : Nat} {F : List (List Int)} {v : Sv} (k : CI n F v.trail.length v) (hF : ∀ f ∈ F, ∀ y ∈ f, VL n y) (hall : ∀ j, 1 ≤ j → j < n + 1 → v.value.getD j 0 ≠ 0) : DR     (Mk    v.value) F := by
  have hi:=k.ct.inv
  have hsat:∀ {y:Int},y∈v.trail→Ja (Mk v.value) y:=fun {y} hy=>by
    have h1:=hi.holds y hy
    have h0:=(hi.fit.lits y hy).1
    unfold Ja Mk
    rw[h1]
    unfold Ty
    rcases Int.lt_or_gt_of_ne h0 with q | q
    · right;exact⟨q,by rw[if_pos q];rfl⟩
    · left;exact⟨q,by rw[if_neg (by omega)];rfl⟩
  have hval:∀ {y:Int},VL n y→y∈v.trail∨-y∈v.trail:=fun {y} hy=>by
    by_cases h1:y∈v.trail
    · exact .inl h1
    · by_cases h2 : -y ∈ v.trail
      · exact .inr h2
      · have:=hi.zero hy.1 h1 h2
        exact absurd this (hall _ (by have:=hy.1;omega) (by have:=hy.2;omega))
  intro f hf
  rcases k.cover f hf with⟨y,h1,h2⟩ | ⟨c,ls,b,h1,h2⟩
  · rcases Ja.or  (σ := Mk    v.value) (hF f hf y h1).1 with q | q
    · exact⟨y,h1,q⟩
    · exact⟨-y,h2,q⟩
  · obtain⟨c1,c2,c3,c4⟩:=k.ct.cls c ls b h1
    have m0:ls.getD 0 0∈ls:=qj (AT (List.length_pos_iff.2 c2))
    by_cases hl1:ls.length=1
    · exact⟨_,h2 _ m0,hsat (k.unit c ls b h1 hl1).1⟩
    · have h2l:2≤ls.length:=by
        have:=List.length_pos_iff.2 c2
        omega
      have m1:ls.getD 1 0∈ls:=qj (AT (by omega))
      rcases hval (c1.1 _ m0)with q | q
      · exact⟨_,h2 _ m0,hsat q⟩
      · have hok:=(k.cw.wok c ls b h1 h2l).2 (by simp)
        unfold Hr at hok
        rw[rR]at hok
        exact⟨_,h2 _ m1,hsat (hok.1 q).1⟩
def NC(n A:Nat)(F:List (List Int))(c0 most k:Nat)(v:Sv):Prop:=k≤most∧((∃C,Live n A F C v∧C.length=c0+k)∨VK n F (c0+most) v)
def fR(n A:Nat)(F:List (List Int))(c0 most:Nat)(r:Int)(v:Sv):Prop:=
 (r=0∧VK n F (c0+most) v)∨(r=1∧∃C,Live n A F C v∧v.limits=[]∧C.length≤c0+most∧v.model.length=n+1∧DR (Mk v.model) F) ∨
 (r=2∧∃C,Live n A F C v∧v.limits=[]∧C.length≤c0+most∧c0+most+1≤3 ^ n - 1)
theorem Dr{n A:Nat}{F:List (List Int)}{C:List Nat}{v v1:Sv}{c:Option Nat}(hL:Live n A F C v)(hA:2 * (A+C.length)≤50000000)(hp:C4 v c v1):
  FM v v1∧CT n v1∧Jc n 50000000 v1∧Ry n A v1 C∧(c=none→CI n F v1.trail.length v1∧v1.head=(v1.trail.length:Int))∧∀d,c=some d→∃h,CI n F h v1∧(v1.limits=[]→True)∧∃l,F3 v1 d l∧lv v1 l=(v1.limits.length:Int):=by
 have hI2:Jc n (2 * (A+C.length)) v:=⟨hL.ci.ct.inv,hL.cod.tot,hL.h0,hL.h1⟩
 have hlh:∀x∈v.limits,x≤v.head:=fun x hx=>by have:=hL.ci.lh x hx;have:=hL.h0;omega
 obtain⟨p1,p2,p3,p4,p5⟩:=hp.cw hL.ci.ct hL.ci.cw hI2 hlh
 refine⟨p1,p2,⟨p3.inv,by have:=p3.tot;omega,p3.h0,p3.h1⟩,hL.cod.prog p1 p3.tot,fun hc=>?_,fun d hd=>?_⟩
 ·obtain⟨q1,q2⟩:=p4 hc
  have e:v1.head.toNat=v1.trail.length:=by omega
  rw[e]at q1
  refine⟨hL.ci.prog p1 p2 q1 (qg _) fun x hx=>?_,q2⟩
  have:=hL.ci.ct.below x hx
  obtain⟨T,eT⟩:=p1.tr
  rw[eT,qn]
  omega
 ·obtain⟨h,q1,q2,l,q3,q4⟩:=p5 d hd
  have hlen:v.trail.length≤v1.trail.length:=by
   obtain⟨T,eT⟩:=p1.tr
   rw[eT,qn];omega
  have hcw:CW v1 (min h v1.trail.length) []:=q1.less (Nat.min_le_left _ _)
  refine⟨min h v1.trail.length,hL.ci.prog p1 p2 hcw (Nat.min_le_right _ _) fun x hx=>?_,fun _=>trivial,l,q3,by rw[p1.limits];exact q4⟩
  have:=q2 x hx
  have:=hL.ci.ct.below x hx
  omega
theorem We        {n A : Nat} {F : List (List Int)} {c0 most : Nat} (hF : ∀ f ∈ F, ∀ y ∈ f, VL n y) (hA : A ≤ 1000000) (hb : 3 ^ n ≤ 1900 ∨ c0 + most ≤ 1900) : Gs       n most (NC    n A F c0 most) (fR    n A F c0 most) := by
  have small:∀ {C:List Nat} {v:Sv} {k:Nat},Live n A F C v→C.length=c0+k→k≤most→C.length≤1900:=fun hL he hk=>by
    rcases hb with q | q
    · have:=hL.cod.len;omega
    · omega
  have live:∀ {k v},NC n A F c0 most k v→v.broken=false→k≤most∧∃C,Live n A F C v∧C.length=c0+k∧C.length≤1900:=fun hI hbr=>by
    obtain⟨hk,⟨C,hL,he⟩ | hD⟩:=hI
    · exact⟨hk,C,hL,he,small hL he hk⟩
    · rw[hD.brk]at hbr;cases hbr
  refine⟨fun hI=>?_,fun hI hbr=>?_,fun hI hbr hp=>?_,fun hI hbr hp hl=>?_,fun hI hbr hp hl hk=>?_,fun hI hbr hp hl hk=>?_,fun hI hbr hp h hh=>?_,fun hI hbr hp hall=>?_,fun hI hbr hp h1 h2 h3=>?_⟩
  · obtain ⟨hk, ⟨C, hL, he⟩ | hD⟩ := hI
    · have:=small hL he hk
      exact⟨hk,hL.ci.ct.inv,by have:=hL.cod.tot;omega,hL.h0,hL.h1⟩
    · exact⟨hk,hD.inv⟩
  · obtain ⟨hk, ⟨C, hL, he⟩ | hD⟩ := hI
    · rw[hL.brk]at hbr;cases hbr
    · exact .inl ⟨rfl,hD⟩
  · obtain ⟨hk, C, hL, he, hs⟩ := live hI hbr
    obtain⟨p1,p2,p3,p4,p5,p6⟩:=Dr hL (by omega) hp
    refine⟨by have:=p4.trc;omega,by have:=p4.lrn;omega,by rw[p4.room];have:=p4.lrn;omega,fun c ls b hc=>(p2.cls c ls b hc).1,?_⟩
    have:=hL.ci.phase
    unfold Ez at this
    rw[p1.phase]
    exact this
  · obtain ⟨hk, C, hL, he, hs⟩ := live hI hbr
    obtain⟨p1,p2,p3,p4,p5,p6⟩:=Dr hL (by omega) hp
    obtain⟨h,k1,_,l,k2,k3⟩:=p6 _ rfl
    have hbr1:=p1.broken.trans hbr
    refine .inl ⟨rfl,?_⟩
    rw[I3 hbr1]
    obtain⟨⟨⟨hz,hv,hli,hlm⟩,g2,g3,g4,g5⟩,t1,t2,t3⟩:=p3
    refine⟨rfl,⟨⟨⟨⟨hz.small,hz.w,hz.value,hz.level,hz.why,hz.heat,hz.phase,hz.trail,hz.limits⟩,hv,hli,hlm⟩,g2,g3,g4,g5⟩,t1,t2,t3⟩,hl,?_,?_,?_,fun σ hσ=>?_⟩
    · show(List.length (_++[_]))≤_
      rw[qn]
      have:=p4.trc
      simp;omega
    · show(List.length (_++[_]))≤_
      rw[qn]
      have:=p4.trc
      simp;omega
    · show Sv.many _≤_
      have:=p4.many
      dsimp only
      omega
    · obtain ⟨ls, b, q1, q2, q3, q4⟩ := k2
      obtain⟨y,hy,hs⟩:=k1.imp σ hσ _ ls b q1
      obtain⟨i,e⟩:=Cj.1 (q3 y hy)
      refine hs.neg (p2.zero (k1.imp σ hσ) i (-y) e ?_)
      have:=p2.lev i _ e
      unfold lv
      rw[this,hl];rfl
  · rename_i k v c v1
    obtain⟨hkm,C,hL,he,hs⟩:=live hI hbr
    obtain⟨p1,p2,p3,p4,p5,p6⟩:=Dr hL (by omega) hp
    obtain⟨h,k1,_,l,k2,k3⟩:=p6 _ rfl
    obtain⟨r,r1,r2⟩:=HE p2 hl k2 k3
    obtain⟨z1,z2,z3,z4⟩:=k1.zero fun q=>absurd q hl
    have hnew:C.length+1≤3 ^ n - 1:=by
      have hlist:=r2.list p2
      have hnd:(code (Al v1 r) n::C).Nodup:=by
        rw[sR]
        refine⟨fun q=>?_,p4.nd⟩
        obtain⟨_,_,c',ls,b,q1,q2⟩:=p4.mem _ q
        exact r2.fresh k1 hl q1 q2
      have:=DL hnd (n:=3 ^ n - 1) fun x hx=>by
        rcases rI.1 hx with e | e
        · rw[e]
          have hm:r.hd∈Al v1 r:=(hlist.mem _).2 (.inl rfl)
          have:=Px hm (hlist.ok.1 _ hm)
          have:=Iw (Al v1 r) n
          omega
        · obtain ⟨q1, q2, _⟩ := p4.mem x e
          omega
      simpa using this
    refine .inr (.inr ⟨rfl,C,⟨?_,z1,z3,z4,p4.back 0⟩,z2,by omega,by omega⟩)
    obtain⟨ph,va,wh,tr,li,hd,e,_⟩:=Cv v1 0
    rw[e]
    exact p1.broken.trans hbr
  · rename_i k v c v1
    obtain⟨hkm,C,hL,he,hs⟩:=live hI hbr
    obtain⟨p1,p2,p3,p4,p5,p6⟩:=Dr hL (by omega) hp
    obtain⟨h,k1,_,l,k2,k3⟩:=p6 _ rfl
    obtain⟨r,r1,r2⟩:=HE p2 hl k2 k3
    have hlist:=r2.list p2
    have hsm:=p2.inv.fit.siz
    have hlevb:0≤r.lev∧r.lev<(v1.limits.length:Int):=by
      have hpos:0<v1.limits.length:=List.length_pos_iff.2 hl
      rcases r2.lev.2 with⟨_,e⟩ | ⟨q,hq,e⟩
      · omega
      · have:=r2.lits q hq;omega
    refine⟨r,r1,hlist.ok,hlevb.1,by have:=hsm.limits;have:=hsm.small;omega,fun hh cn hhl hcn=>?_⟩
    have hiw:BO n (Cn (DW v1) hh):=p2.inv.many.heat (v:=DW v1) hhl
    have kw:CI n F h (Cn (DW v1) hh):=k1.of hiw rfl rfl rfl rfl rfl rfl rfl
    have hLw:Ex (Cn (DW v1) hh) r:=⟨r2.uip,r2.lits,r2.nd,r2.lev,r2.imp⟩
    have eL:Al (Cn (DW v1) hh) r=Al v1 r:=rfl
    obtain⟨g1,g2,g3,g4,g5⟩:=eO kw hl hLw (c:=cn) hcn
    rw[eL]at g1 g2 g3
    obtain⟨ph,va,wh,tr,li,hd,e,_⟩:=Cv (Cn (DW v1) hh) r.lev.toNat
    have hcodnew:code (Al v1 r) n ∉ C:=fun q=>by
      obtain⟨_,_,c',ls,b,q1,q2⟩:=p4.mem _ q
      exact r2.fresh k1 hl q1 q2
    have hm:r.hd∈Al v1 r:=(hlist.mem _).2 (.inl rfl)
    generalize hvb:Ax (Cn (DW v1) hh) r.lev.toNat=vb at *
    have ecl:vb.cl=v1.cl:=by rw[e];rfl
    have emany:vb.many=EB .i64 (v1.many+1):=by rw[e];rfl
    have elrn:vb.learned=v1.learned:=by rw[e];rfl
    have etrc:vb.trace=v1.trace:=by rw[e];rfl
    have ewat:vb.watches=v1.watches:=by rw[e];rfl
    have eroom:vb.room=v1.room:=by rw[e];rfl
    have ebrk:vb.broken=v1.broken:=by rw[e];rfl
    have kcl:(Bx vb cn (Al v1 r)).cl=Aj vb.cl cn (Al v1 r,(true,false)):=by unfold Bx;split<;>rfl
    have kmany:(Bx vb cn (Al v1 r)).many=vb.many:=by unfold Bx;split<;>rfl
    have klrn:(Bx vb cn (Al v1 r)).learned.length≤vb.learned.length+1:=by
      unfold Bx
      split
      · show(vb.learned++[cn]).length≤_
        rw[qn];simp
      · show vb.learned.length≤_
        omega
    have ktrc:(Bx vb cn (Al v1 r)).trace.length=vb.trace.length+1:=by
      unfold Bx
      split<;>(show(vb.trace++[_]).length=_;rw[qn];rfl)
    have kwat:(Bx vb cn (Al v1 r)).watches=F1 vb.watches cn (Al v1 r):=by unfold Bx F1;split<;>rfl
    have kroom:(Bx vb cn (Al v1 r)).room=vb.room:=by unfold Bx;split<;>rfl
    have kbrk:(Bx vb cn (Al v1 r)).broken=vb.broken:=by unfold Bx;split<;>rfl
    refine⟨by omega,.inl ⟨code (Al v1 r) n::C,⟨by rw[kbrk,ebrk];exact p1.broken.trans hbr,g1,g2,g3,?_⟩,by rw[qx];omega⟩⟩
    refine⟨by rw[sR];exact⟨hcodnew,p4.nd⟩,fun x hx=>?_,?_,?_,?_,?_,by rw[kroom,eroom];exact p4.room⟩
    · rcases rI.1            hx with q | q
      · rw[q]
        exact⟨Px hm (hlist.ok.1 _ hm),Iw _ n,cn,Al v1 r,(true,false),by rw[kcl];exact BJ _ _ _,rfl⟩
      · obtain⟨q1,q2,c',ls,b,q3,q4⟩:=p4.mem x q
        refine⟨q1,q2,c',ls,b,?_,q4⟩
        rw[kcl,ecl]
        unfold Aj
        rw[if_neg fun z=>by rw[z,hcn]at q3;cases q3]
        exact q3
    · rw[kmany,emany,qx,p4.many,Ff ⟨by omega,by omega⟩]
      omega
    · rw[qx]
      have:=p4.lrn
      rw[elrn]at klrn
      omega
    · rw[ktrc,etrc,qx]
      have:=p4.trc
      omega
    · rw[kwat,qx,ewat]
      have:=Q4 v1.watches cn (Al v1 r)
      have:=p4.tot
      omega
  · rename_i k v v1
    obtain⟨hkm,C,hL,he,hs⟩:=live hI hbr
    obtain⟨p1,p2,p3,p4,p5,p6⟩:=Dr hL (by omega) hp
    obtain⟨k1,k2⟩:=p5 rfl
    have kw:CI n F v1.trail.length (Cn v1 h):=k1.of (p2.inv.heat hh) rfl rfl rfl rfl rfl rfl rfl
    obtain⟨z1,z2,z3,z4⟩:=kw.zero fun _=>⟨by show v1.trail.length=v1.head.toNat;omega,by show 0≤v1.head;omega,by show v1.head≤(v1.trail.length:Int);omega⟩
    obtain⟨ph,va,wh,tr,li,hd,e,_⟩:=Cv (Cn v1 h) 0
    have hc:Ry n A (Cn v1 h) C:=p4.of rfl rfl rfl rfl rfl rfl
    refine⟨⟨hkm,.inl ⟨C,⟨?_,z1,z3,z4,hc.back 0⟩,he⟩⟩,by rw[e];rfl⟩
    rw[e]
    exact p1.broken.trans hbr
  · rename_i k v v1
    obtain⟨hkm,C,hL,he,hs⟩:=live hI hbr
    obtain⟨p1,p2,p3,p4,p5,p6⟩:=Dr hL (by omega) hp
    obtain⟨k1,k2⟩:=p5 rfl
    have kw:CI n F v1.trail.length { v1 with model:=v1.value }:=k1.of (p2.inv.model _) rfl rfl rfl rfl rfl rfl rfl
    obtain⟨z1,z2,z3,z4⟩:=kw.zero fun _=>⟨by show v1.trail.length=v1.head.toNat;omega,by show 0≤v1.head;omega,by show v1.head≤(v1.trail.length:Int);omega⟩
    obtain⟨ph,va,wh,tr,li,hd,e,_⟩:=Cv { v1 with model:=v1.value } 0
    have hc:Ry n A { v1 with model:=v1.value } C:=p4.of rfl rfl rfl rfl rfl rfl
    have em:(HH v1).model=v1.value:=by unfold HH;rw[e]
    refine .inr (.inl ⟨rfl,C,⟨?_,z1,z3,z4,hc.back 0⟩,z2,by omega,?_,?_⟩)
    · unfold HH
      rw[e]
      exact p1.broken.trans hbr
    · rw[em];exact p2.inv.fit.siz.value
    · rw[em];exact k1.models hF hall
  · rename_i k v v1 b
    obtain⟨hkm,C,hL,he,hs⟩:=live hI hbr
    obtain⟨p1,p2,p3,p4,p5,p6⟩:=Dr hL (by omega) hp
    obtain⟨k1,k2⟩:=p5 rfl
    obtain⟨g1,g2⟩:=k1.guess h1 h2 h3
    have ehd:(Fw v1 b).head=v1.head:=rfl
    refine⟨hkm,.inl ⟨C,⟨p1.broken.trans hbr,?_,by rw[ehd];omega,by rw[ehd,g2];omega,p4.of rfl rfl rfl rfl rfl rfl⟩,he⟩⟩
    rw[ehd,show v1.head.toNat=v1.trail.length by omega]
    exact g1
def SI(n A:Nat)(F:List (List Int))(M:Nat)(v:Sv):Prop:=(∃C,Live n A F C v∧v.limits=[]∧C.length≤M)∨VK n F M v
def Bd(n A M:Nat):Prop:=n≤1000∧A≤10000∧(3 ^ n≤1900∨M≤1900)
theorem Live.few{n A:Nat}{F:List (List Int)}{C:List Nat}{v:Sv}{M:Nat}(h:Live n A F C v)(hM:C.length≤M)(hb:Bd n A M):C.length≤1900:=by
 rcases hb.2.2 with q | q
 ·have:=h.cod.len;omega
 ·omega
theorem SI.inv{n A:Nat}{F:List (List Int)}{M:Nat}{v:Sv}(h:SI n A F M v)(hb:Bd n A M):BO n v∧v.limits=[]∧v.trace.length≤1000000∧C9 v.watches≤50000000:=by
  rcases h with⟨C,h1,h2,h3⟩ | h
  · have := h1.few h3 hb
    have:=h1.cod.trc
    have:=h1.cod.tot
    have:=hb.2.1
    exact⟨h1.ci.ct.inv,h2,by omega,by omega⟩
  · exact⟨h.inv.inv,h.lim,h.trc,h.inv.tot⟩
theorem SI.trc{n A:Nat}{F:List (List Int)}{M:Nat}{v:Sv}(h:SI n A F M v):v.trace.length≤M+1:=by
 rcases h with⟨C,h1,h2,h3⟩ | h
 ·have:=h1.cod.trc
  omega
 ·exact h.few
theorem PW{v:Sv}(h:v.limits=[]):Ax v 0=v:=NF (by rw[h];exact qg _)
theorem VK.mono{n:Nat}{F F':List (List Int)}{M M':Nat}{v:Sv}(h:VK n F M v)(hM:M≤M')(hF:∀σ,DR σ F'→DR σ F):VK n F' M' v:=
 ⟨h.brk,h.inv,h.lim,h.trc,by have:=h.few;omega,by have:=h.many;omega,fun σ hσ=>h.no σ (hF σ hσ)⟩
structure Gn(k:Nat)(v:Sv):Prop where
 w:v.watches=List.replicate (2 * k) []
 value:v.value=List.replicate k 0
 level:v.level=List.replicate k 0
 why:v.why=List.replicate k none
 heat:v.heat=List.replicate k 0
 phase:v.phase=List.replicate k (-1)
 rest:v.learned=[]∧v.trail=[]∧v.limits=[]∧v.head=0∧v.broken=false∧v.model=[]∧v.trace=[]∧v.many=0∧v.room=2000∧v.cl=fun _=>none
theorem Gn.one{k:Nat}{v:Sv}(h:Gn k v):Gn (k+1) (QC v):=by
 have e:∀ {α:Type} (a:α),List.replicate (k+1) a=List.replicate k a++[a]:=fun a=>List.replicate_succ'
 refine⟨?_,?_,?_,?_,?_,?_,h.rest⟩
 ·show v.watches++[[],[]]=_
  rw[h.w,show 2 * (k+1)=2 * k+2 by omega,← List.replicate_append_replicate]
  rfl
 ·show v.value++[0]=_;rw[h.value,e]
 ·show v.level++[0]=_;rw[h.level,e]
 ·show v.why++[none]=_;rw[h.why,e]
 ·show v.heat++[0]=_;rw[h.heat,e]
 ·show v.phase++[-1]=_;rw[h.phase,e]
theorem Gn.grow:∀ (m:Nat){k:Nat}{v:Sv},Gn k v→Gn (k+m) (Ux m v)
 | 0,k,v,h=>h
 | m+1,k,v,h=>by
  have:=Gn.grow m h.one
  rw[show k+(m+1)=k+1+m by omega]
  exact this
theorem Hf(n:Nat):Gn (n+1) (Uy Tn n):=by
 have h0:Gn 0 Tn:=⟨rfl,rfl,rfl,rfl,rfl,rfl,rfl,rfl,rfl,rfl,rfl,rfl,rfl,rfl,rfl,rfl⟩
 have:=h0.grow (n+1)
 rw[qq]at this
 exact this
theorem QB{α:Type}(m k:Nat)(a:α):(List.replicate m a).getD k a=a:=by
 rw[rB,List.getElem?_replicate]
 split<;>rfl
theorem Gn.live    {n : Nat} (hn : n < 100000000) {v : Sv} (h : Gn    (n + 1) v) : Live n 0 [] [] v ∧ v.limits = [] := by
  obtain⟨r1,r2,r3,r4,r5,r6,r7,r8,r9,r10⟩:=h.rest
  have hw:∀k,v.watches.getD k []=[]:=fun k=>by rw[h.w];exact QB _ _ _
  have hi:BO n v:=by
    refine⟨⟨⟨hn,by rw[h.w,sS];omega,by rw[h.value,sS],by rw[h.level,sS],by rw[h.why,sS],by rw[h.heat,sS],by rw[h.phase,sS],by rw[r2];exact qm _,by rw[r3];exact qm _⟩,fun x hx=>?_,by rw[r2];simp,by rw[r3];simp⟩,by rw[r2];simp,by rw[r2];simp,fun k _=>by rw[h.value];exact QB _ _ _,fun L hL c hc=>?_⟩
    · rw[h.value]at hx
      have:=List.eq_of_mem_replicate hx
      exact .inr (.inl this)
    · rw [h.w] at hL
      rw[List.eq_of_mem_replicate hL]at hc
      cases hc
  have hcl:∀c l,v.cl c=some l→False:=fun c l hc=>by rw[r10]at hc;cases hc
  refine⟨⟨r5,⟨⟨hi,by rw[r3];exact List.Pairwise.nil,by rw[r3];simp,by rw[r2];simp,by rw[r2];simp,fun c ls b hc=>(hcl _ _ hc).elim⟩,⟨fun c ls b hc=>(hcl _ _ hc).elim,fun k c ls b _ hc=>(hcl _ _ hc).elim,fun k=>by rw[hw];exact List.Pairwise.nil,fun c ls b hc=>(hcl _ _ hc).elim⟩,by rw[r4];exact qm _,by rw[r3];simp,fun c ls b hc=>(hcl _ _ hc).elim,fun j t _ c ls b hc=>(hcl _ _ hc).elim,fun σ _ c ls b hc=>(hcl _ _ hc).elim,by simp,fun k h1 h2=>?_⟩,by rw[r4];exact re _,by rw[r4,r2];exact re _,⟨by simp,by simp,by rw[r8];rfl,by rw[r1];exact qg _,by rw[r7];exact qg _,?_,r9⟩⟩,r3⟩
  · rw[h.phase,rB,List.getElem?_replicate,if_pos (by omega)]
    exact .inr rfl
  · rw[h.w]
    have:∀m,C9 (List.replicate m [])=0:=fun m=>by
      induction m with
      | zero=>rfl
      | succ m ih =>
        rw[List.replicate_succ]
        show([]:List Nat).length+C9 (List.replicate m [])=0
        rw[ih];rfl
    rw[this]
    exact qm _
theorem SI.add {n A : Nat} {F : List (List Int)} {M : Nat} {v : Sv} (h : SI n A F M v) (hb : Bd n A M) {f : List Int} (hf : ∀ q ∈ f, VL n q) (hlen : f.length ≤ 12) {v' : Sv} (hr : Mv   v f v') : SI n (A + 1) (F ++ [f]) M v' ∧ v'.many = v.many := by
  rcases h with⟨C,h1,h2,h3⟩ | h
  · have hfew:=h1.few h3 hb
    rcases kL h1.ci h2 h1.brk hf hlen hr with⟨g1,g2,g3,g4,g5⟩ | ⟨g1,g2,g3,g4,g5,g6⟩
    · refine⟨.inl ⟨C,⟨g1,by rw[g3.head];exact g2,by rw[g3.head];exact h1.h0,by rw[g3.head];have:=h1.h1;omega,⟨h1.cod.nd,fun k hk=>?_,by rw[g3.many];exact h1.cod.many,by rw[g3.learned];exact h1.cod.lrn,by rw[g4];exact h1.cod.trc,by have:=g3.tot;have:=h1.cod.tot;omega,by rw[g3.room];exact h1.cod.room⟩⟩,by rw[g3.limits];exact h2,h3⟩,g3.many⟩
      obtain⟨q1,q2,c,ls,b,q3,q4⟩:=h1.cod.mem k hk
      exact⟨q1,q2,c,ls,b,g3.cl _ _ q3,q4⟩
    · refine ⟨.inr ⟨g1, ⟨g2, ?_, by rw [g3.head]; exact h1.h0, by rw [g3.head, g5]; exact h1.h1⟩, by rw [g3.limits]; exact h2, ?_, ?_, ?_, g6⟩, g3.many⟩
      · have := g3.tot
        have:=h1.cod.tot
        have:=hb.2.1
        omega
      · rw[g4]
        have:=h1.cod.trc
        omega
      · rw[g4]
        have:=h1.cod.trc
        omega
      · rw[g3.many,h1.cod.many]
        omega
  · have e:v'=v:=by
      cases hr with
      | none _=>rfl
      | nil _ hb' _=>rw[h.brk]at hb';cases hb'
      | put _ hb' _ _=>rw[h.brk]at hb';cases hb'
    rw[e]
    exact⟨.inr (h.mono (qg _) fun σ hσ g hg=>hσ g (qt _ hg)),rfl⟩
def Kl(V:Nat→Option Sv)(p:Nat)(v:Sv):Nat→Option Sv:=fun q=>if q=p then some v else V q
theorem GG(V:Nat→Option Sv)(p:Nat)(v:Sv):Kl V p v p=some v:=if_pos rfl
theorem K3{V:Nat→Option Sv}{p q:Nat}{v:Sv}(h:q≠p):Kl V p v q=V q:=if_neg h
theorem cD(V:Nat→Option Sv)(p:Nat)(v w:Sv):Kl (Kl V p v) p w=Kl V p w:=by
 funext q
 unfold Kl
 split<;>rfl
def Io(B:Nat→Prop)(s:AE)(V:Nat→Option Sv):Prop:=∃ow:Ow,(∀p v,V p=some v→∃x,Av ow s p x v)∧∀j,B j→j<s.next∧V (ow j).1=none
def Ij(B:Nat→Prop)(s s':AE):Prop:=s.next≤s'.next∧∀j,B j→s'.heap.get j=s.heap.get j
theorem Ij.refl(B:Nat→Prop)(s:AE):Ij B s s:=⟨qg _,fun _ _=>rfl⟩
theorem Ij.trans{B:Nat→Prop}{s s1 s2:AE}(h:Ij B s s1)(k:Ij B s1 s2):Ij B s s2:=⟨qs h.1 k.1,fun j hj=>(k.2 j hj).trans (h.2 j hj)⟩
theorem Io.used{B:Nat→Prop}{s s':AE}{V:Nat→Option Sv}{ow ow':Ow}{p:Nat}{v v':Sv}{x':Sf}(h1:∀p v,V p=some v→∃x,Av ow s p x v)(h2:∀j,B j→j<s.next∧V (ow j).1=none)(hp:V p=some v)(hs:Av ow' s' p x' v')(st:AM (Bs p) ow s ow' s'):Io B s' (Kl V p v')∧Ij B s s':=by
  have hn:=st.next
  have hB:∀j,B j→¬ Bs p (ow j):=fun j hj q=>by
    have q:(ow j).1=p:=q
    have:=(h2 j hj).2
    rw[q,hp]at this
    cases this
  refine⟨⟨ow',fun q w hq=>?_,fun j hj=>?_⟩,hn,fun j hj=>st.heap j (h2 j hj).1 (hB j hj)⟩
  · by_cases e : q = p
    · rw[e,GG]at hq
      injection hq with hq
      rw[← hq,e]
      exact⟨x',hs⟩
    · rw[K3 e]at hq
      obtain⟨x,hx⟩:=h1 q w hq
      exact⟨x,hx.keep st fun t ht e'=>by rw[show t.1=p from ht]at e';exact e e'.symm⟩
  · obtain⟨r1,r2⟩:=h2 j hj
    refine⟨by omega,?_⟩
    rw[st.tags j r1 (hB j hj)]
    have:(ow j).1≠p:=fun q=>hB j hj q
    rw[K3 this]
    exact r2
def pB(B:Nat→Prop)(u:AV):Prop:=∀j,slot u=some j→B j
theorem Wd(s:AE):Io (fun j=>j<s.next) s fun _=>none:=⟨fun _=>(0,0,0),fun p v hp=>(by cases hp),fun j hj=>⟨hj,rfl⟩⟩
def RowsIn(B:Nat→Prop)(s:AE)(v:AV)(cs:List (List Int)):Prop:=∃us:List AV,AJ s.next s v us∧pB B v∧Ag s.next s us cs∧∀u∈us,pB B u
theorem RowsIn.keep{B:Nat→Prop}{s s':AE}{v:AV}{cs:List (List Int)}(h:RowsIn B s v cs)(k:Ij B s s'):RowsIn B s' v cs:=by
 obtain⟨us,h1,h2,h3,h4⟩:=h
 exact⟨us,(h1.keep fun j hj=>k.2 j (h2 j hj)).mono k.1,h2,(h3.keep fun u hu j hj=>k.2 j (h4 u hu j hj)).mono k.1,h4⟩
theorem RowsIn.more{B B':Nat→Prop}{s:AE}{v:AV}{cs:List (List Int)}(h:RowsIn B s v cs)(k:∀j,B j→B' j):RowsIn B' s v cs:=by
 obtain⟨us,h1,h2,h3,h4⟩:=h
 exact⟨us,h1,fun j hj=>k j (h2 j hj),h3,fun u hu j hj=>k j (h4 u hu j hj)⟩
theorem RowsIn.len{B:Nat→Prop}{s:AE}{v:AV}{cs:List (List Int)}(h:RowsIn B s v cs)(s':AE):As Try.prog s' 22 v=some (iv (cs.length:Int)):=by
 obtain⟨us,h1,h2,h3,h4⟩:=h
 rw[← h3.1]
 exact h1.len Try.underlying22 s'
theorem RowsIn.row{B:Nat→Prop}{s:AE}{v:AV}{cs:List (List Int)}(h:RowsIn B s v cs){k:Nat}{L:List Int}(hk:cs[k]? = some L):∃a u,AD Try.prog 22 v (iv (k:Int))=some a∧AC Try.prog s 23 a=some u∧AJ s.next s u (A3 L)∧pB B u:=by
 obtain⟨us,h1,h2,h3,h4⟩:=h
 obtain⟨u,q1,q2⟩:=h3.2 k L hk
 obtain⟨a,cap,rfl,hc⟩:=h1
 obtain⟨i,o,rfl,hi,hl⟩:=hc k u q1
 refine⟨_,u,At Try.underlying22 Ba (by have:=AZ q1;exact this),A0 DA (by rw[rC];exact hl),q2,h4 u (qj q1)⟩
end
end Go.Proofs.Ytilhhmkdcoajnaa.Am
set_option linter.unusedVariables false
set_option linter.unusedSimpArgs false
namespace Go.Proofs.Ytilhhmkdcoajnaa.Am
open Go Go.Proofs
noncomputable section
def fU:List AA:=[
 ⟨none,.p1 some,[(.const (.bool false))],(.set 3),[]⟩]
def fV:List AA:=[
 ⟨none,.call 21,[],.push,[]⟩,
 ⟨none,.p1 (Hv Try.prog Go.UnOp.not),[.loc 0],(.set 16),[]⟩]
def ns:List AA:=[
 ⟨none,.p1 some,[(.const (.bool false))],(.set 3),[]⟩]
def fW:List AA:=[
 ⟨none,.call 22,[(.var 0),(.const (.int .i64 (6)))],.push,[]⟩,
 ⟨none,.call 23,[.var 2],.push,[]⟩,
 ⟨none,.p1 some,[.loc 1],(.set 4),[]⟩,
 ⟨none,.p1 some,[.loc 0],(.set 5),[]⟩]
def YD:List AA:=[
 ⟨none,.r (fun s l=>match l with | [x]=>As Try.prog s 31 x | _=>none),[.var 2],.push,[]⟩,
 ⟨none,.p2 (AN Try.prog .rem 3),[(.loc 0),(.const (.int .i64 (2)))],.push,[]⟩,
 ⟨none,.p2 (AN Try.prog .eql 3),[(.loc 0),(.const (.int .i64 (0)))],(.set 17),[]⟩]
def fX:List AA:=[
 ⟨none,.call 40,[(.const (.int .i64 (6)))],.push,[]⟩,
 ⟨none,.p1 some,[.loc 0],(.set 6),[]⟩]
def fY:List AA:=[
 ⟨none,.p1 some,[(.const (.int .i64 (0)))],(.set 7),[]⟩]
def YE:List AA:=[
 ⟨none,.p2 (AN Try.prog .neq 44),[(.var 6),(.const (.ptr none))],.push,[]⟩,
 ⟨(some ((.loc 0),true)),.p1 some,[.var 7],.push,[]⟩,
 ⟨(some ((.loc 1),true)),.p1 some,[.var 4],.push,[]⟩,
 ⟨(some ((.loc 2),true)),.r (fun s l=>match l with | [x]=>As Try.prog s 22 x | _=>none),[.loc 0],.push,[]⟩,
 ⟨(some ((.loc 3),true)),.p2 (AN Try.prog .lss 3),[.loc 2,.loc 0],.push,[]⟩,
 ⟨none,.p Rn,[(.loc 4),(.loc 0),(.const (.bool false))],(.set 18),[]⟩]
def fZ:List AA:=[
 ⟨none,.p2 (AD Try.prog 22),[.var 4,.var 7],.push,[]⟩,
 ⟨none,.r1 (fun s a=>AC Try.prog s 23 a),[.loc 0],.push,[]⟩,
 ⟨none,.call 36,[.var 6,.loc 0],.push,[]⟩]
def fa:List AA:=[
 ⟨none,.p1 some,[.var 7],.push,[]⟩,
 ⟨none,.p2 (AN Try.prog .add 3),[(.loc 0),(.const (.int .i64 (1)))],.push,[]⟩,
 ⟨none,.p1 some,[.loc 0],(.set 7),[]⟩]
def LP:Ac:=(.seq (.seq (.ops YE) (.cond (.var 18)
 .skip
 (.exit 0))) (.seq (.block 1 (.ops fZ)) (.ops fa)))
def ST:List AA:=[
 ⟨none,.call 34,[(.var 6),(.const (.int .i64 (729)))],.push,[]⟩,
 ⟨none,.p2 (AN Try.prog .eql 3),[(.loc 0),(.const (.int .i64 (0)))],(.set 19),[]⟩]
def SU:List AA:=[
 ⟨none,.call 43,[.var 6],.push,[]⟩,
 ⟨none,.p1 some,[.loc 0],(.set 5),[]⟩]
def LR:List AA:=[
 ⟨none,.call 24,[.var 4,.var 5],.push,[]⟩,
 ⟨none,.p1 (fun x=>Rp x 0),[.loc 0],.push,[]⟩,
 ⟨none,.p1 (fun x=>Rp x 1),[.loc 1],.push,[]⟩,
 ⟨none,.p1 some,[.loc 1],(.set 8),[]⟩,
 ⟨none,.p1 some,[.loc 0],(.set 9),[]⟩]
def LS:List AA:=[
 ⟨none,.call 22,[(.var 1),(.const (.int .i64 (6)))],.push,[]⟩,
 ⟨none,.p1 some,[.loc 0],(.set 10),[]⟩]
def LT:List AA:=[
 ⟨none,.p1 some,[(.const (.int .i64 (0)))],(.set 11),[]⟩]
def SV:List AA:=[
 ⟨none,.r (fun s l=>match l with | [x]=>As Try.prog s 22 x | _=>none),[.var 4],.push,[]⟩,
 ⟨none,.p2 (AN Try.prog .lss 3),[.var 11,.loc 0],(.set 20),[]⟩]
def X9:List AA:=[
 ⟨none,.p1 some,[(.const (.slice none 0 (some 0)))],(.set 12),[]⟩]
def YA:List AA:=[
 ⟨none,.p2 (AD Try.prog 22),[.var 4,.var 11],.push,[]⟩,
 ⟨none,.r1 (fun s a=>AC Try.prog s 23 a),[.loc 0],.push,[]⟩,
 ⟨none,.r (fun s l=>match l with | [x]=>As Try.prog s 23 x | _=>none),[.loc 0],.push,[]⟩,
 ⟨none,.p2 (AN Try.prog .sub 3),[(.loc 0),(.const (.int .i64 (1)))],.push,[]⟩,
 ⟨none,.p1 some,[.loc 0],(.set 13),[]⟩]
def SW:List AA:=[
 ⟨none,.p2 (AN Try.prog .geq 3),[(.var 13),(.const (.int .i64 (0)))],(.set 21),[]⟩]
def YB:List AA:=[
 ⟨none,.p1 some,[.var 12],.push,[]⟩,
 ⟨none,.p2 (AD Try.prog 22),[.var 4,.var 11],.push,[]⟩,
 ⟨none,.r1 (fun s a=>AC Try.prog s 23 a),[.loc 0],.push,[]⟩,
 ⟨none,.p2 (AD Try.prog 23),[.loc 0,.var 13],.push,[]⟩,
 ⟨none,.r1 (fun s a=>AC Try.prog s 3 a),[.loc 0],.push,[]⟩,
 ⟨none,.p2 (AD Try.prog 22),[.var 4,.var 11],.push,[]⟩,
 ⟨none,.r1 (fun s a=>AC Try.prog s 23 a),[.loc 0],.push,[]⟩,
 ⟨none,.p2 (AD Try.prog 23),[.loc 0,.var 13],.push,[]⟩,
 ⟨none,.r1 (fun s a=>AC Try.prog s 3 a),[.loc 0],.push,[]⟩,
 ⟨none,.mk (fun l=>(Ab Try.prog 23 2 (zipIdx [0,1] l)).bind fun r=>some (r,.slice 2)),[.loc 4,.loc 0],.push,[]⟩,
 ⟨none,.e (fun s l=>AY Try.prog s [23,23] l),[.loc 9,.loc 0],.push,[]⟩,
 ⟨none,.p1 some,[.loc 0],(.set 12),[]⟩]
def YC:List AA:=[
 ⟨none,.p1 some,[.var 13],.push,[]⟩,
 ⟨none,.p2 (AN Try.prog .sub 3),[(.loc 0),(.const (.int .i64 (1)))],.push,[]⟩,
 ⟨none,.p1 some,[.loc 0],(.set 13),[]⟩]
def LQ:Ac:=(.seq (.seq (.ops SW) (.cond (.var 21)
 .skip
 (.exit 4))) (.seq (.block 5 (.ops YB)) (.ops YC)))
def SX:List AA:=[
 ⟨none,.mk (fun l=>(Ab Try.prog 22 1 (zipIdx [0] l)).bind fun r=>some (r,.slice 1)),[.var 12],.push,[]⟩,
 ⟨none,.p1 some,[.var 10],.push,[]⟩,
 ⟨none,.e (fun s l=>AY Try.prog s [22,22] l),[.loc 1,.loc 0],.push,[]⟩,
 ⟨none,.p1 some,[.loc 0],(.set 10),[]⟩]
def ON:List AA:=[
 ⟨none,.p1 some,[.var 11],.push,[]⟩,
 ⟨none,.p2 (AN Try.prog .add 3),[(.loc 0),(.const (.int .i64 (1)))],.push,[]⟩,
 ⟨none,.p1 some,[.loc 0],(.set 11),[]⟩]
def Eh:Ac:=(.seq (.seq (.ops SV) (.cond (.var 20)
 .skip
 (.exit 2))) (.seq (.block 3 (.seq (.ops X9) (.seq (.seq (.ops YA) (.block 4 (.loop LQ))) (.ops SX)))) (.ops ON)))
def Jl:List AA:=[
 ⟨none,.r (fun s l=>match l with | [x]=>As Try.prog s 33 x | _=>none),[.var 5],.push,[]⟩,
 ⟨none,.r (fun s l=>match l with | [x]=>As Try.prog s 33 x | _=>none),[.var 5],.push,[]⟩,
 ⟨none,.r (AU Try.prog 33 false true true),[.var 5,.loc 1,.loc 0],.push,[]⟩,
 ⟨none,.mk (fun l=>(Ab Try.prog 23 1 (zipIdx [0] l)).bind fun r=>some (r,.slice 1)),[(.const (.int .i64 (1)))],.push,[]⟩,
 ⟨none,.call 19,[.loc 0],.push,[⟨none,.r (AU Try.prog 33 false true true),[.var 5,.loc 4,.loc 3],(.loc 2)⟩,⟨none,.r (fun s l=>match l with | [x]=>As Try.prog s 33 x | _=>none),[.var 5],(.loc 3)⟩,⟨none,.r (fun s l=>match l with | [x]=>As Try.prog s 33 x | _=>none),[.var 5],(.loc 4)⟩]⟩,
 ⟨none,.call 19,[(.const (.slice none 0 (some 0)))],.push,[⟨none,.r (AU Try.prog 33 false true true),[.var 5,.loc 5,.loc 4],(.loc 3)⟩,⟨none,.r (fun s l=>match l with | [x]=>As Try.prog s 33 x | _=>none),[.var 5],(.loc 4)⟩,⟨none,.r (fun s l=>match l with | [x]=>As Try.prog s 33 x | _=>none),[.var 5],(.loc 5)⟩]⟩,
 ⟨none,.mk (fun l=>(Ab Try.prog 33 2 (zipIdx [0,1] l)).bind fun r=>some (r,.slice 2)),[.loc 1,.loc 0],.push,[]⟩,
 ⟨none,.e (fun s l=>AY Try.prog s [33,33] l),[.loc 4,.loc 0],.push,[]⟩,
 ⟨none,.call 24,[.var 10,.loc 0],.push,[]⟩,
 ⟨none,.p1 (fun x=>Rp x 0),[.loc 0],.push,[]⟩,
 ⟨none,.p1 (fun x=>Rp x 1),[.loc 1],.push,[]⟩,
 ⟨none,.p1 some,[.loc 1],(.set 14),[]⟩,
 ⟨none,.p1 some,[.loc 0],(.set 15),[]⟩]
def Gu:List AA:=[
 ⟨none,.p1 some,[.var 9],(.set 22),[]⟩]
def Jm:List AA:=[
 ⟨(some ((.var 15),true)),.p1 some,[.var 14],.push,[]⟩,
 ⟨(some ((.var 15),true)),.p1 some,[.var 8],.push,[]⟩,
 ⟨(some ((.var 15),true)),.p2 (AN Try.prog .leq 3),[.loc 1,.loc 0],.push,[]⟩,
 ⟨none,.p Rn,[(.var 15),(.loc 0),(.const (.bool false))],.push,[]⟩,
 ⟨none,.p1 some,[.loc 0],(.set 3),[]⟩]
def IN:List AA:=[
 ⟨(some ((.var 15),false)),.p1 some,[.var 14],.push,[]⟩,
 ⟨(some ((.var 15),false)),.p1 some,[.var 8],.push,[]⟩,
 ⟨(some ((.var 15),false)),.p2 (AN Try.prog .geq 3),[.loc 1,.loc 0],.push,[]⟩,
 ⟨none,.p Rn,[(.var 15),(.const (.bool true)),(.loc 0)],.push,[]⟩,
 ⟨none,.p1 some,[.loc 0],(.set 3),[]⟩]
def OM:Aw:=⟨3,23,(.seq (.ops fU) (.seq (.seq (.ops fV) (.cond (.var 16)
 (.seq (.ops ns) .ret)
 .skip)) (.seq (.ops fW) (.seq (.seq (.ops YD) (.cond (.var 17)
 (.seq (.ops fX) (.seq (.seq (.ops fY) (.block 0 (.loop LP))) (.seq (.ops ST) (.cond (.var 19)
 (.ops SU)
 .skip))))
 .skip)) (.seq (.ops LR) (.seq (.ops LS) (.seq (.seq (.ops LT) (.block 2 (.loop Eh))) (.seq (.ops Jl) (.seq (.seq (.ops Gu) (.cond (.var 22)
 (.seq (.ops Jm) .ret)
 .skip)) (.seq (.ops IN) .ret)))))))))),[((.var 3),none)]⟩
theorem lE:AQ Try.prog 16=some OM:=by kernel_rfl
end
end Go.Proofs.Ytilhhmkdcoajnaa.Am
set_option linter.unusedVariables false
set_option linter.unusedSimpArgs false
set_option maxRecDepth 16000
namespace Go.Proofs.Ytilhhmkdcoajnaa.Am
open Go Go.Proofs
noncomputable section
theorem LA.rowsIn{lo:Nat}{s:AE}{v:AV}{us:List AV}{cs:List (List Int)}{O:List Nat}(h:LA lo s v us cs O):RowsIn (fun j=>j<s.next) s v cs:=
 ⟨us,h.dest.slice,fun j hj=>h.dest.slot_lt j hj,h.rows,fun u hu j hj=>(h.slots u hu j hj).2.1⟩
theorem W7(x y:Int):Ab Try.prog 23 2 (zipIdx [0,1] [iv x,iv y])=some (AL 3 1 [iv x,iv y]):=by
 simp[Ab,Try.underlying23,Br,AG,RZ,zipIdx,DO,AV.cells,Ht]
 rfl
theorem bz{s:AE}{L:List Int}(hL:L≠[]):AJ (s.next+1) (newObj s (AL 3 1 (A3 L))) (.slice (some (s.next,0)) L.length (some L.length)) (A3 L)∧∀j,slot (.slice (some (s.next,0)) L.length (some L.length))=some j→j=s.next:=by
 obtain⟨r,h1,h2,h3,h4,h5,h6⟩:=BN 3 1 (A3 L)
 refine⟨⟨some (s.next,0),some L.length,by simp,fun k u hk=>⟨s.next,0,rfl,rP _,?_⟩⟩,fun j hj=>?_⟩
 ·rw[qq]
  exact BX (by rw[AK,if_pos rfl,h1]) (by rw[h2.1];exact AZ hk) (h2.2 k u hk)
 ·simp[slot]at hj
  exact hj.symm
def u16(n:Int):Prop:=0≤n∧n≤65535
theorem Nu{α:Type}{l:List α}{k:Nat}{x:α}(h:l[k]? = some x):l.take (k+1)=l.take k++[x]:=by
 have hlt:=AZ h
 rw[sG hlt]
 rw[qp hlt]at h
 injection h with h
 rw[h]
def Fs(lo:Nat)(s:AE)(O:List Nat)(u:AV):Prop:=(∃d,u=.bool d)∨(∃a c,u=.slice a 0 c)∨∃ (L:List Int)(i:Nat),u=.slice (some (i,0)) L.length none∧BG s i (A3 L)∧lo≤i∧i<s.next∧i ∉ O
structure Gd(lo:Nat)(s:AE)(v:AV)(us:List AV)(T:Aa)(O:List Nat):Prop where
 dest:Bz s v T.length 2 us O
 rows:BH s.next s us T
 cell:∀u∈us,Fs lo s O u
 own:∀j∈O,lo≤j
theorem Fs.keep{lo:Nat}{s s':AE}{O O':List Nat}{u:AV}(h:Fs lo s O u)(hn:s.next≤s'.next)(k:∀j,j<s.next→j ∉ O→s'.heap.get j=s.heap.get j∧j ∉ O'):Fs lo s' O' u:=by
 rcases h with h | h | ⟨L,i,h1,h2,h3,h4,h5⟩
 ·exact .inl h
 ·exact .inr (.inl h)
 ·exact .inr (.inr ⟨L,i,h1,h2.keep (k i h4 h5).1,h3,by omega,(k i h4 h5).2⟩)
theorem Fs.reads{lo:Nat}{s s':AE}{O:List Nat}{u:AV}(h:Fs lo s O u){b:Nat}{L:List Int}(hu:AJ b s u (A3 L))(k:∀j,j<s.next→j ∉ O→s'.heap.get j=s.heap.get j):AJ b s' u (A3 L):=by
 rcases h with⟨d,rfl⟩ | ⟨a,c,rfl⟩ | ⟨L',i,rfl,h2,h3,h4,h5⟩
 ·obtain⟨_,_,e,_⟩:=hu
  cases e
 ·obtain⟨a',c',e,_⟩:=hu
  injection e with e1 e2 e3
  have:L=[]:=by
   rw[qi]at e2
   exact List.length_eq_zero_iff.1 e2.symm
  subst this
  exact⟨a,c,rfl,BA.nil⟩
 ·exact hu.keep fun j hj=>by
   simp[slot]at hj
   subst hj
   exact k _ h4 h5
theorem BH.via{lo b:Nat}{s s':AE}{us:List AV}{T:Aa}{O:List Nat}(h:BH b s us T)(hc:∀u∈us,Fs lo s O u)(k:∀j,j<s.next→j ∉ O→s'.heap.get j=s.heap.get j):BH b s' us T:=
 ⟨h.1,fun j d L hj=>let ⟨h0,u,h1,h2⟩:=h.2 j d L hj;⟨h0,u,h1,(hc u (qj h1)).reads h2 k⟩⟩
theorem CR.cell{lo:Nat}{s:AE}{v:AV}{L:List Int}(h:CR lo s v L){O:List Nat}(hO:∀j∈O,j<lo){lo':Nat}(hl:lo'≤lo):Fs lo' s O v:=by
 rcases h with⟨a,e,_⟩ | ⟨i,e,h1,h2,h3⟩
 ·exact .inr (.inl ⟨a,_,e⟩)
 ·exact .inr (.inr ⟨L,i,e,h3,by omega,h2,fun q=>by have:=hO i q;omega⟩)
theorem Gd.old    {lo : Nat} {s s' : AE}  {v : AV} {us : List AV} {T : Aa}      {O : List Nat} (h : Gd    lo s v us T O) (ho : Ao  s.next s s') : Gd    lo s' v us T O :=
  ⟨h.dest.frame ho.1 fun j hj=>ho.2 j (by
      rcases h.dest with⟨a,rfl,_,_,_,h5⟩ | ⟨i,p,rfl,h6,h7⟩
      · cases a with
        | none=>cases hj
        | some io =>
          obtain⟨i,o⟩:=io
          simp[slot]at hj
          subst hj
          exact(h5 _ _ rfl).1
      · simp [slot] at hj
        subst hj
        exact h.dest.lt _ (by rw[h7];simp)),(h.rows.mono ho.1).via (fun u hu=>h.cell u hu) fun j hj _=>ho.2 j hj,fun u hu=>(h.cell u hu).keep ho.1 fun j hj hO=>⟨ho.2 j hj,hO⟩,h.own⟩
theorem Tv         {lo : Nat} {s : AE}  {v : AV} {us : List AV} {T : Aa}      {O : List Nat} (hm : Gd    lo s v us T O) (hT : T.length ≤ 1000000) {d : Bool} {u : AV} {L : List Int} (hu : AJ      s.next s u (A3  L)) (hcell : Fs     lo s O u) (hlo : lo ≤ s.next) :
    ∃v' s' O',AY Try.prog (newObj s (AL 27 2 [.bool d,u])) [33,33] [v,.slice (some (s.next,0)) 1 (some 1)]=some (v',s')∧Gd lo s' v' (us++[.bool d,u]) (T++[(d,L)]) O'∧Ao lo s s':=by
  have c1:=EU (P:=Try.prog) (e:=27) (s:=newObj s (AL 27 2 [.bool d,u])) (n:=1) (cap:=some 1) (sz:=2) 27 2 (by rw[AK,if_pos rfl]) rfl
  obtain⟨v',s',O',h1,h2,h3,h4,h5,h6,h7⟩:=(hm.dest.new (AL 27 2 [.bool d,u])).append (P:=Try.prog) (st:=33) (xt:=33) Try.underlying33 HS c7 (by decide) (HR 33 27 Try.underlying33) PL c1 rfl (by have:=hu.isCell.1;simp only[Ae,this];rfl) (by omega) (by omega)
  have hn:(newObj s (AL 27 2 [.bool d,u])).next=s.next+1:=rfl
  have keep:∀j,j<s.next→j ∉ O→s'.heap.get j=s.heap.get j:=fun j hj ho=>by rw[h5 j (by omega) ho,AK,if_neg (by omega)]
  have hO':∀j,j<s.next→j ∉ O→j ∉ O':=fun j h1 h2 h3=>(h6 j h3).elim h2 (fun h=>by omega)
  refine⟨v',s',O',h1,⟨?_,?_,?_,?_⟩,⟨by omega,fun j hj=>keep j (by omega) (fun h=>by have:=hm.own j h;omega)⟩⟩
  · rw[qn];exact h2
  · exact((hm.rows.via hm.cell keep).mono (by omega)).snoc ((hcell.reads hu keep).mono (by omega))
  · intro x hx
    rcases sE.1 hx with hx | hx
    · exact(hm.cell x hx).keep (by omega) fun j hj ho=>⟨keep j hj ho,hO' j hj ho⟩
    · rcases rI.1            hx with rfl | hx
      · exact .inl ⟨d,rfl⟩
      · have:x=u:=by simpa using hx
        subst this
        exact hcell.keep (by omega) fun j hj ho=>⟨keep j hj ho,hO' j hj ho⟩
  · intro j hj
    exact(h6 j hj).elim (hm.own j) (fun h=>by omega)
theorem UH{E:BI}(hE:Aq E){s0:AE}{v4:AV}{T:Aa}{b:Nat}(hT:Cq b s0 v4 T)(hb:b≤s0.next)(hlen:T.length≤1000000)(hL:∀x∈T,x.2.length≤1000000)(v0 v3:AV){Q:A9→Prop}
  (hq:∀s' v' us' O' y2 y6 y7,Gd s0.next s' v' us' T O'→Ao s0.next s0 s'→Q ⟨.exit 0,[v0,v',y2,v3,v4,iv (T.length:Int),y6,y7],[],s'⟩):
  ∀ (t:Aa) (k:Nat) (s:AE) (v:AV) (us:List AV) (O:List Nat) (x2 x7:AV),T.drop k=t→k≤T.length→Gd s0.next s v us (T.take k) O→Ao s0.next s0 s →
   WC E none (.loop Pb) Q [v0,v,x2,v3,v4,iv (T.length:Int),iv (k:Int),x7] [] s:=by
 intro t
 induction t with
 | nil =>
  intro k s v us O x2 x7 hd hk hm ho
  have:=Cw hd hk
  subst this
  rw[rR]at hm
  refine WC.loop' ?_
  simp only[Pb,Yz,rG,decide_false,Qa,Qb,Qc,Qd,Qe,Qf,Qg,Qh,Qi,Qj,Qk,Ql,Qm,Qn,true_and,and_true,Qo,Qp,Qq,Qr,Qs,Qt,Qu,Qv,Qw,Qx,Qy,Qz,Ra,Rb,Rc,Rd,Re,Rf,Rg,Rh,Ri,Rj,Rk,Rl,Rm,Ya,Yb,Yc,Rn,Ro,Rp,Yd,Ye,Rq,Rs,Rt,Ru,Rv,Rw,Rx]
  exact hq s v us O _ _ _ hm ho
 | cons x t ih =>
  intro k s v us O x2 x7 hd hk hm ho
  obtain⟨d,L⟩:=x
  obtain⟨hlt,hx,hd'⟩:=B0 hd
  have hkk:decide ((k:Int)<(T.length:Int))=true:=decide_eq_true (by omega)
  have e3:=Ay Try.prog 3 (k:Int) 1 ⟨by omega,by omega⟩
  have hcast:((k:Int)+1)=((k+1:Nat):Int):=by omega
  obtain⟨a,cap,hv,hc⟩:=hT.old ho hb
  obtain⟨i,o,u,ha,hi,hl1,hl2,hu⟩:=hc k d L hx
  have e1:AD Try.prog 33 v4 (iv (k:Int))=some (.ptr (some (i,o+k * 2))):=by rw[hv,ha];exact At Try.underlying33 HS hlt
  have e2:AC Try.prog s 27 (.ptr (some (i,o+k * 2)))=some (.agg [.bool d,u]):=by simp[AC,kN,HS,QN hl1 hl2]
  have hal:BF Try.prog 27=some (AL 27 0 [.bool false,.slice none 0 (some 0)],.ptr):=N9
  have hmv:∀i,Made.val i .ptr=.ptr (some (i,0)):=fun _=>rfl
  have hms:∀ (m:Nat) (i:Nat),Made.val i (.slice m)=.slice (some (i,0)) m (some m):=fun _ _=>rfl
  generalize hs1:newObj s (AL 27 0 [.bool false,.slice none 0 (some 0)])=s1
  have n1:s1.next=s.next+1:=by rw[← hs1];rfl
  have o1:Ao s.next s s1:=by rw[← hs1];exact Ao.new s _
  have bx1:FJ s1 s.next (.bool false) (.slice none 0 (some 0)):=by
   obtain⟨r,h1,h2,h3,h4,h5,h6⟩:=BN 27 0 [.bool false,.slice none 0 (some 0)]
   exact⟨r,by rw[← hs1,AK,if_pos rfl,h1],h2,h5,h6⟩
  obtain⟨s2,g1,g2,g3,g4⟩:=bx1.store (d0:=.bool d) (d1:=u) rfl hu.isCell.1
  have o2:Ao s.next s s2:=⟨by omega,fun x hx=>by rw[g4 x (by omega),o1.2 x hx]⟩
  have hns:=ho.1
  have hu2:AJ b s2 u (A3 L):=hu.old (o2.mono (by omega)) (qg _)
  have ld0:AC Try.prog s2 4 (.ptr (some (s.next,0)))=some (.bool d):=A0 Wy g2.load0
  have ld1:AC Try.prog s2 23 (.ptr (some (s.next,0+1)))=some u:=A0 DA g2.load1
  refine WC.loop' ?_
  generalize hW:WC E none (Ac.loop Pb) Q=W at ih ⊢
  simp only[Pb,Yz,hkk,gZ,e1,e2,hal,hmv,hs1,BW,g1,AS,gc,GR,ld0,IS,ld1,Qa,Qb,Qc,Qd,Qe,Qf,Qg,Qh,Qi,Qj,Qk,Ql,Qm,Qn,true_and,and_true,Qo,Qp,Qq,Qr,Qs,Qt,Qu,Qv,Qw,Qx,Qy,Qz,Ra,Rb,Rc,Rd,Re,Rf,Rg,Rh,Ri,Rj,Rk,Rl,Rm,Ya,Yb,Yc,Rn,Ro,Rp,Yd,Ye,Rq,Rs,Rt,Ru,Rv,Rw,Rx]
  refine(G3 hE (by omega) hu2 (hL _ (qj hx))).mono ?_
  rintro r s3 ⟨hr,ho3⟩
  have hn3:=ho3.1
  have ld0':AC Try.prog s3 4 (.ptr (some (s.next,0)))=some (.bool d):=A0 Wy (g2.keep (ho3.2 s.next (by omega))).load0
  have hsame:E8 (.bool d) (.bool d)=true:=by cases d<;>rfl
  have hrc:=hr.slice
  have o23:Ao s.next s s3:=o2.trans (ho3.mono (by omega))
  have hm3:Gd s0.next s3 v us (T.take k) O:=hm.old o23
  have hOlt:∀j∈O,j<s2.next:=fun j hj=>by have:=hm.dest.lt j hj;omega
  have hcell:Fs s0.next s3 O r:=hr.cell hOlt (by omega)
  have hb27:Bu Try.prog 27 (zipIdx [0,1] [.bool d,r])=some (.agg [.bool d,r]):=by
   have KP:(AV.bool d).cells=[.bool d]:=rfl
   simp[Bu,PN,Try.underlying27,B1,JX,Ba,zipIdx,DO,Dp,AG,KP,hrc.isCell.2]
   rfl
  obtain⟨v',s4,O',p1,p2,p3⟩:=Tv hm3 (by rw[rK];omega) (d:=d) (hrc) hcell (by omega)
  simp only[BZ,ld0',Az,hsame,hb27,Iq,hms,p1,ge,e3,hcast,Qa,Qb,Qc,Qd,Qe,Qf,Qg,Qh,Qi,Qj,Qk,Ql,Qm,Qn,true_and,and_true,Qo,Qp,Qq,Qr,Qs,Qt,Qu,Qv,Qw,Qx,Qy,Qz,Ra,Rb,Rc,Rd,Re,Rf,Rg,Rh,Ri,Rj,Rk,Rl,Rm,Ya,Yb,Yc,Rn,Ro,Rp,Yd,Ye,Rq,Rs,Rt,Ru,Rv,Rw,Rx]
  refine ih (k+1) s4 v' (us++[.bool d,r]) O' _ _ hd' hlt ?_ ((ho.trans (o23.mono hns)).trans p3)
  have et:T.take (k+1)=T.take k++[(d,L)]:=by
   rw[sG hlt]
   rw[qp hlt]at hx
   injection hx with hx
   rw[hx]
  rw[et]
  exact p2
theorem N4.at_{ow:Ow}{s:AE}{p:Nat}{v:AV}{T:Aa}(h:N4 ow s p v T):Cq s.next s v T:=by
 obtain⟨us,O,h1,h2,h3,h4,h5⟩:=h
 obtain⟨a,cap,hv,hc⟩:=h1.cells
 refine⟨a,cap,hv,fun k d L hk=>?_⟩
 obtain⟨h0,u,q1,q2⟩:=h4.2 k d L hk
 obtain⟨i,o,e,hi,hl⟩:=hc _ _ h0
 obtain⟨i',o',e',hi',hl'⟩:=hc _ _ q1
 rw[e]at e'
 injection e' with e'
 injection e' with e1 e2
 subst e1 e2
 exact⟨i,o,u,e,hi,hl,by rw[rU];exact hl',q2⟩
theorem UG{E:BI}(hE:Aq E){ow:Ow}{s:AE}{p:Nat}{x:Sf}{v:Sv}(h:Av ow s p x v)(hlen:v.trace.length≤1000000)(hL:∀x∈v.trace,x.2.length≤1000000):
    WF E 43 [AR p] (fun r s'=>∃us O,Gd s.next s' r us v.trace O∧Ao s.next s s') s:=by
  have q:=G7 p
  simp only[AR]at q
  have hT:=h.trace.at_
  have hln:∀s',As Try.prog s' 33 x.trc=some (iv (v.trace.length:Int)):=fun s'=>by
    obtain⟨a,cap,e,_⟩:=hT
    rw[e]
    exact AW Try.underlying33
  refine hE.go lM (by decide) rfl ?_
  have:=UH hE hT (qg _) hlen hL (AR p) (.bool false) (Q:=CS 0 (D7 (Qa E none (.seq (.ops Y0) .ret) (Ends Try.prog mq.results (fun r s'=>∃us O,Gd s.next s' r us v.trace O∧Ao s.next s s'))) (Ends Try.prog mq.results (fun r s'=>∃us O,Gd s.next s' r us v.trace O∧Ao s.next s s')))) ?_ v.trace 0 s (.slice none 0 (some 0)) [] [] Ar Ar rfl (qm _)
    ⟨by simpa using Bz.nil s 2,by simpa using BH.nil _ _,(fun u hu=>by cases hu),(fun j hj=>by cases hj)⟩ (Ao.refl _ _)
  · simp only [AR,   mq,  Qa, Qb, Qc, Qd, Qe, Qf, Qg, Qh, Qi, Qj, Qk, Ql, Qm, Qn, true_and, and_true, Qo, Qp, Qq, Qr, Qs, Qt, Qu, Qv, Qw, Qx, Qy, Qz, Ra, Rb, Rc, Rd, Re, Rf, Rg, Rh, Ri, Rj, Rk, Rl, Rm, Ya, Yb, Yc, Rn, Ro, Rp, Yd, Ye, Rq, Rs, Rt, Ru, Rv, Rw, Rx] at this
    simp only[mq,gW,gX,AR,q,gY,AH,Kv,h.ld_trc,hln,Qa,Qb,Qc,Qd,Qe,Qf,Qg,Qh,Qi,Qj,Qk,Ql,Qm,Qn,true_and,and_true,Qo,Qp,Qq,Qr,Qs,Qt,Qu,Qv,Qw,Qx,Qy,Qz,Ra,Rb,Rc,Rd,Re,Rf,Rg,Rh,Ri,Rj,Rk,Rl,Rm,Ya,Yb,Yc,Rn,Ro,Rp,Yd,Ye,Rq,Rs,Rt,Ru,Rv,Rw,Rx]
    exact this
  · intro s' v' us' O' y2 y6 y7 h1 h2
    simp only[if_true,mq,Y0,Qa,Qb,Qc,Qd,Qe,Qf,Qg,Qh,Qi,Qj,Qk,Ql,Qm,Qn,true_and,and_true,Qo,Qp,Qq,Qr,Qs,Qt,Qu,Qv,Qw,Qx,Qy,Qz,Ra,Rb,Rc,Rd,Re,Rf,Rg,Rh,Ri,Rj,Rk,Rl,Rm,Ya,Yb,Yc,Rn,Ro,Rp,Yd,Ye,Rq,Rs,Rt,Ru,Rv,Rw,Rx]
    exact⟨us',O',h1,h2⟩
theorem T4{E:BI}(hE:Aq E){B:Nat→Prop}{s:AE}{V:Nat→Option Sv}(h:Io B s V){p:Nat}{v:Sv}(hp:V p=some v)(hlen:v.trace.length≤1000000)(hL:∀x∈v.trace,x.2.length≤1000000):
  WF E 43 [AR p] (fun r s'=>∃us O,Gd s.next s' r us v.trace O∧Ao s.next s s') s:=by
 obtain⟨ow,g1,g2⟩:=h
 obtain⟨x,hx⟩:=g1 p v hp
 exact UG hE hx hlen hL
structure UU(n:Nat)(F:List (List Int))(J:Sv→Prop):Prop where
 same:∀ {v v':Sv},J v→CQ v.cl v'.cl→v'.trace=v.trace→v'.broken=v.broken→J v'
 fail:∀ {v:Sv} {h d:Nat} {l:Int},J v→CT n v→CI n F h v→v.limits=[]→F3 v d l→lv v l=(v.limits.length:Int)→J (EZ v)
 lrn:∀ {v:Sv} {h d:Nat} {l:Int} {r:EI} {cn:Nat},J v→CT n v→CI n F h v→v.limits≠[]→F3 v d l→lv v l=(v.limits.length:Int)→CJ v d Gj v.trail.length 0 r→Ex v r→v.cl cn=none→J (Hz { v with trace:=v.trace++[(false,Al v r)] } cn (Al v r,true,false))
theorem MG(v:Sv)(c:Nat)(L:List Int):(Bx v c L).cl=Aj v.cl c (L,true,false)∧(Bx v c L).trace=v.trace++[(false,L)]∧(Bx v c L).broken=v.broken:=by
 unfold Bx
 dsimp only
 split<;>exact⟨rfl,rfl,rfl⟩
theorem Cu(v:Sv)(k:Nat):(Ax v k).cl=v.cl∧(Ax v k).trace=v.trace∧(Ax v k).broken=v.broken:=by
 obtain⟨ph,va,wh,tr,li,hd,e,_⟩:=Cv v k
 rw[e]
 exact⟨rfl,rfl,rfl⟩
theorem K1{a b:Nat→Option B3}(h:a=b):CQ b a:=by rw[h];exact CQ.refl _
theorem CJ.det{v:Sv}{c at_:Nat}{a r r':EI}{l:Int}(h:CJ v c a at_ l r)(k:CJ v c a at_ l r'):r=r':=by
 induction h with
 | last hc ha hs ho =>
  cases k with
  | last hc' ha' hs' ho' =>
   rw[hc]at hc'
   injection hc' with e
   injection e with e1 e2
   subst e1
   rw[ha]at ha'
   subst ha'
   rw[hs]at hs'
   injection hs' with e3
   subst e3
   rfl
  | more hc' ha' hs' ho' hw' hr' =>
   rw[hc]at hc'
   injection hc' with e
   injection e with e1 e2
   subst e1
   rw[ha]at ha'
   subst ha'
   omega
 | more hc ha hs ho hw hr ih =>
  cases k with
  | last hc' ha' hs' ho' =>
   rw[hc]at hc'
   injection hc' with e
   injection e with e1 e2
   subst e1
   rw[ha]at ha'
   subst ha'
   omega
  | more hc' ha' hs' ho' hw' hr' =>
   rw[hc]at hc'
   injection hc' with e
   injection e with e1 e2
   subst e1
   rw[ha]at ha'
   subst ha'
   rw[hs]at hs'
   injection hs' with e3
   subst e3
   rw[hw]at hw'
   injection hw' with e4
   subst e4
   exact ih hr'
theorem T5         {n A : Nat} {F : List (List Int)} {c0 most : Nat} {J : Sv → Prop} (S : UU    n F J) (hF : ∀ f ∈ F, ∀ y ∈ f, VL n y) (hA : A ≤ 1000000) (hb : 3 ^ n ≤ 1900 ∨ c0 + most ≤ 1900) :
    Gs n most (fun k v=>NC n A F c0 most k v∧J v) (fun r v=>fR n A F c0 most r v∧J v):=by
  have h:=We (n:=n) (A:=A) (F:=F) (c0:=c0) (most:=most) hF hA hb
  have pro:∀ {k v c v1},NC n A F c0 most k v→v.broken=false→C4 v c v1→FM v v1∧CT n v1∧∀d,c=some d→∃h,CI n F h v1∧∃l,F3 v1 d l∧lv v1 l=(v1.limits.length:Int):=by
    intro k v c v1 hI hbr hp
    obtain⟨hk,⟨C,hL,he⟩ | hD⟩:=hI
    · have hs:C.length≤1900:=by
        rcases hb with q | q
        · have:=hL.cod.len;omega
        · omega
      obtain⟨p1,p2,p3,p4,p5,p6⟩:=Dr hL (by omega) hp
      exact⟨p1,p2,fun d hd=>let ⟨h,k1,_,l,k2,k3⟩:=p6 d hd;⟨h,k1,l,k2,k3⟩⟩
    · rw[hD.brk]at hbr;cases hbr
  have J1:∀ {k v c v1},NC n A F c0 most k v→J v→v.broken=false→C4 v c v1→J v1:=fun hI hJ hbr hp=>by
    obtain⟨p1,_,_⟩:=pro hI hbr hp
    exact S.same hJ p1.cl p1.trace p1.broken
  refine⟨fun hI=>h.ok hI.1,fun hI hbr=>⟨h.brk hI.1 hbr,hI.2⟩,fun hI hbr hp=>h.mid hI.1 hbr hp,fun hI hbr hp hl=>⟨h.fail hI.1 hbr hp hl,?_⟩,fun hI hbr hp hl hk=>⟨h.unk hI.1 hbr hp hl hk,?_⟩,fun hI hbr hp hl hk=>?_,fun hI hbr hp hh hhl=>⟨⟨(h.cool hI.1 hbr hp hh hhl).1,?_⟩,(h.cool hI.1 hbr hp hh hhl).2⟩,fun hI hbr hp hall=>⟨h.maybe hI.1 hbr hp hall,?_⟩,fun hI hbr hp h1 h2 h3=>⟨h.dec hI.1 hbr hp h1 h2 h3,?_⟩⟩
  · obtain ⟨_, p2, p3⟩ := pro hI.1 hbr hp
    obtain⟨hh,k1,l,k2,k3⟩:=p3 _ rfl
    exact S.fail (J1 hI.1 hI.2 hbr hp) p2 k1 hl k2 k3
  · exact S.same (J1 hI.1 hI.2 hbr hp) (K1 (Cu _ _).1) (Cu _ _).2.1 (Cu _ _).2.2
  · obtain ⟨_, p2, p3⟩ := pro hI.1 hbr hp
    obtain⟨hh,k1,l,k2,k3⟩:=p3 _ rfl
    obtain⟨r',q1,q2⟩:=HE p2 hl k2 k3
    obtain⟨r,r1,r2,r3,r4,r5⟩:=h.lrn hI.1 hbr hp hl hk
    refine⟨r,r1,r2,r3,r4,fun ht cn htl hcn=>⟨r5 ht cn htl hcn,?_⟩⟩
    refine S.same (S.lrn (cn:=cn) (J1 hI.1 hI.2 hbr hp) p2 k1 hl k2 k3 r1 (by rw[r1.det q1];exact q2) hcn) (K1 ?_) ?_ ?_
    · rw[(MG _ _ _).1,(Cu _ _).1];rfl
    · rw[(MG _ _ _).2.1,(Cu _ _).2.1];rfl
    · rw[(MG _ _ _).2.2,(Cu _ _).2.2];rfl
  · exact S.same (J1 hI.1 hI.2 hbr hp) (K1 (Cu _ _).1) (Cu _ _).2.1 (Cu _ _).2.2
  · exact S.same (J1 hI.1 hI.2 hbr hp) (K1 (by unfold HH;rw[(Cu _ _).1])) (by unfold HH;rw[(Cu _ _).2.1]) (by unfold HH;rw[(Cu _ _).2.2])
  · exact S.same (J1 hI.1 hI.2 hbr hp) (CQ.refl _) rfl rfl
theorem T8{E:BI}(hE:Aq E){ow:Ow}{s:AE}{p:Nat}{x:Sf}{v:Sv}(h:Av ow s p x v){n A:Nat}{F:List (List Int)}{M most:Nat}{J:Sv→Prop}(S:UU n F J)(hJ:J v)(hI:SI n A F M v)(hbd:Bd n A (M+most))(hmost:most≤100000)(hF:∀f∈F,∀y∈f,VL n y):
  WF E 34 [AR p,iv (most:Int)] (fun r s'=>∃ (c:Int) (v':Sv) (ow':Ow) (x':Sf),r=iv c∧SI n A F (M+most) v'∧J v'∧(c=0∧(∀σ,¬ DR σ F)∧v'.broken=true∨c=1∧DR (Mk v'.model) F∧v'.broken=false∨c=2∧(n≤6→most<729))∧Av ow' s' p x' v'∧AM (Bs p) ow s ow' s') s:=by
 obtain⟨h1,h2,h3⟩:=hbd
 have start:∃c0,c0≤M∧NC n A F c0 most 0 v∧(3 ^ n≤1900∨c0+most≤1900):=by
  rcases hI with⟨C,g1,g2,g3⟩ | g
  ·exact⟨C.length,g3,⟨qm _,.inl ⟨C,g1,rfl⟩⟩,h3.imp id fun q=>by omega⟩
  ·exact⟨M,qg _,⟨qm _,.inr (g.mono (by omega) fun σ hσ=>hσ)⟩,h3⟩
 obtain⟨c0,s1,s2,s3⟩:=start
 obtain⟨i1,i2,_,_⟩:=hI.inv ⟨h1,h2,h3.imp id fun q=>by omega⟩
 have hbk:=PW i2
 refine(cH hE (T5 (A:=A) (c0:=c0) (most:=most) S hF (by omega) s3) (by omega) (by omega) h i1.fit (by rw[hbk];exact⟨s2,hJ⟩)).mono ?_
 rintro _ s' ⟨c,v',ow',x',rfl,⟨g1,gJ⟩,g2,g3⟩
 rcases g1 with⟨rfl,k⟩ | ⟨rfl,C,k1,k2,k3,k4,k5⟩ | ⟨rfl,C,k1,k2,k3,k4⟩
 ·exact⟨0,v',ow',x',rfl,.inr (k.mono (by omega) fun σ hσ=>hσ),gJ,.inl ⟨rfl,k.no,k.brk⟩,g2,g3⟩
 ·exact⟨1,v',ow',x',rfl,.inl ⟨C,k1,k2,by omega⟩,gJ,.inr (.inl ⟨rfl,k5,k1.brk⟩),g2,g3⟩
 ·refine⟨2,v',ow',x',rfl,.inl ⟨C,k1,k2,by omega⟩,gJ,.inr (.inr ⟨rfl,fun hn=>?_⟩),g2,g3⟩
  have:3 ^ n≤3 ^ 6:=Nat.pow_le_pow_right (by decide) hn
  have e:(3:Nat) ^ 6=729:=rfl
  omega
theorem RI{E:BI}(hE:Aq E){B:Nat→Prop}{s:AE}{V:Nat→Option Sv}(h:Io B s V){p:Nat}{v:Sv}(hp:V p=some v){n A:Nat}{F:List (List Int)}{M most:Nat}{J:Sv→Prop}(S:UU n F J)(hJ:J v)(hI:SI n A F M v)(hbd:Bd n A (M+most))(hmost:most≤100000)(hF:∀f∈F,∀y∈f,VL n y):
  WF E 34 [AR p,iv (most:Int)] (fun r s'=>∃ (c:Int) (v':Sv),r=iv c∧SI n A F (M+most) v'∧J v'∧(c=0∧(∀σ,¬ DR σ F)∧v'.broken=true∨c=1∧DR (Mk v'.model) F∧v'.broken=false∨c=2∧(n≤6→most<729))∧Io B s' (Kl V p v')∧Ij B s s') s:=by
 obtain⟨ow,h1,h2⟩:=h
 obtain⟨x,hx⟩:=h1 p v hp
 refine(T8 hE hx S hJ hI hbd hmost hF).mono ?_
 rintro _ s' ⟨c,v',ow',x',rfl,g1,g2,g3,g4,g5⟩
 obtain⟨k1,k2⟩:=Io.used h1 h2 hp g4 g5
 exact⟨c,v',rfl,g1,g2,g3,k1,k2⟩
theorem Wb{E:BI}(hE:Aq E){B:Nat→Prop}{s:AE}{V:Nat→Option Sv}(h:Io B s V){p:Nat}{v:Sv}(hp:V p=some v){n A:Nat}{F:List (List Int)}{M:Nat}{J:Sv→Prop}(hI:SI n A F M v)(hbd:Bd n A M){f:List Int}(hf:∀q∈f,VL n q)(hlen:f.length≤12)(hJ:∀v',Mv v f v'→J v'){b:Nat}{u:AV}(hb:b≤s.next)(hu:AJ b s u (A3 f))(hus:pB B u):
  WF E 36 [AR p,u] (fun r s'=>r=iv 0∧∃v',SI n (A+1) (F++[f]) M v'∧J v'∧Io B s' (Kl V p v')∧Ij B s s') s:=by
 obtain⟨ow,h1,h2⟩:=h
 obtain⟨x,hx⟩:=h1 p v hp
 obtain⟨i1,i2,i3,i4⟩:=hI.inv hbd
 have hbk:=PW i2
 have hn:=hbd.1
 refine(kM hE hx i1.fit (by rw[hbk];exact i1.fit.val) i3 (by omega) hlen hf hb hu fun j hj=>?_).mono ?_
 ·obtain⟨r1,r2⟩:=h2 j (hus j hj)
  exact⟨fun q=>(by rw[q,hp]at r2;cases r2),r1⟩
 rintro _ s' ⟨rfl,v',ow',x',g1,g2,g3⟩
 rw[hbk]at g1
 obtain⟨k1,k2⟩:=hI.add hbd hf hlen g1
 obtain⟨k3,k4⟩:=Io.used h1 h2 hp g2 g3
 exact⟨rfl,v',k1,hJ v' g1,k3,k4⟩
def VO(n:Nat)(T:Aa):Prop:=∀x∈T,x.1=false∧(∀y∈x.2,VL n y)∧x.2.length≤n
theorem VO.snoc{n:Nat}{T:Aa}(h:VO n T){L:List Int}(h1:∀y∈L,VL n y)(h2:L.length≤n):VO n (T++[(false,L)]):=fun x hx=>by
 rcases sE.1 hx with q | q
 ·exact h x q
 ·rw[si.1 q];exact⟨rfl,h1,h2⟩
theorem di{n:Nat}{L:List Int}(h:BR n L)(hn:(L.map Int.natAbs).Nodup):L.length≤n:=by
 have:=DL (l:=L.map Int.natAbs) (n:=n) hn fun x hx=>by
  obtain⟨y,hy,rfl⟩:=List.mem_map.1 hx
  obtain⟨h1,h2⟩:=h.1 y hy
  omega
 rw[qi]at this
 exact this
theorem fA(v:Sv)(c:Nat)(O:List Int):(GE v c O).trace=v.trace:=by
 obtain⟨ws,e,_⟩:=JO v c O
 rw[e]
theorem bQ{E:BI}(hE:Aq E)(ow:Ow){s:AE}{n:Nat}(hn:n≤1000):
  WF E 40 [iv (n:Int)] (fun r s'=>∃v ow' x',r=AR s.next∧Av ow' s' s.next x' v∧SI n 0 [] 0 v∧(v.trace=[]∧v.cl=(fun _=>none)∧v.broken=false)∧AM (Bs s.next) ow s ow' s') s:=by
 refine(mX hE ow (n:=n) (by omega)).mono ?_
 rintro _ s' ⟨ow',x',rfl,g1,g2⟩
 obtain⟨h1,h2⟩:=(Hf n).live (by omega)
 exact⟨_,ow',x',rfl,g1,.inl ⟨[],h1,h2,qg _⟩,⟨(Hf n).rest.2.2.2.2.2.2.1,(Hf n).rest.2.2.2.2.2.2.2.2.2,(Hf n).rest.2.2.2.2.1⟩,g2⟩
theorem Wc{E:BI}(hE:Aq E){B:Nat→Prop}{s:AE}{V:Nat→Option Sv}(h:Io B s V){n:Nat}(hn:n≤1000):
    WF E 40 [iv (n:Int)] (fun r s'=>∃v,r=AR s.next∧V s.next=none∧Io B s' (Kl V s.next v)∧Ij B s s'∧SI n 0 [] 0 v∧v.trace=[]∧v.cl=(fun _=>none)∧v.broken=false) s:=by
  obtain⟨ow,h1,h2⟩:=h
  have hV:∀q,s.next≤q→V q=none:=fun q hq=>by
    cases hv:V q with
    | none=>rfl
    | some v =>
      obtain⟨x,hx⟩:=h1 _ v hv
      have:=hx.lt
      omega
  have st1:AM (fun t=>V t.1=none) ow s (fun j=>match V (ow j).1 with | none=>(s.next+1,0,0) | some _=>ow j) s:=⟨qg _,fun x hx hm=>by
    cases hv:V (ow x).1 with
    | none=>exact absurd hv hm
    | some v=>simp only[hv],fun _ _ _=>rfl⟩
  have h1':∀p v,V p=some v→∃x,Av (fun j=>match V (ow j).1 with | none=>(s.next+1,0,0) | some _=>ow j) s p x v:=fun p v hp=>by
    obtain⟨x,hx⟩:=h1 p v hp
    exact⟨x,hx.keep st1 fun t ht e=>by rw[e,hp]at ht;cases ht⟩
  have h2':∀j,B j→j<s.next∧((fun j=>match V (ow j).1 with | none=>(s.next+1,0,0) | some _=>ow j:Ow) j)=(s.next+1,0,0):=fun j hj=>by
    obtain⟨r1,r2⟩:=h2 j hj
    exact⟨r1,by simp only[r2]⟩
  generalize (fun j=>match V (ow j).1 with | none=>(s.next+1,0,0) | some _=>ow j:Ow)=ow1 at *
  refine(bQ hE ow1 hn).mono ?_
  rintro _ s' ⟨v,ow',x',rfl,g1,g2,g3,g4⟩
  have hB:∀j,B j→¬ Bs s.next (ow1 j):=fun j hj q=>by
    have q:(ow1 j).1=s.next:=q
    rw[(h2' j hj).2]at q
    exact absurd q (by show s.next+1≠s.next;omega)
  have hnx:=g4.next
  refine⟨v,rfl,hV _ (qg _),⟨ow',fun q w hq=>?_,fun j hj=>?_⟩,⟨hnx,fun j hj=>g4.heap j (h2' j hj).1 (hB j hj)⟩,g2,g3⟩
  · by_cases e : q = s.next
    · rw[e,GG]at hq
      injection hq with hq
      rw[← hq,e]
      exact⟨x',g1⟩
    · rw[K3 e]at hq
      obtain⟨x,hx⟩:=h1' q w hq
      exact⟨x,hx.keep g4 fun t ht e'=>by rw[show t.1=s.next from ht]at e';exact e e'.symm⟩
  · obtain⟨r1,r2⟩:=h2' j hj
    refine⟨by omega,?_⟩
    rw[g4.tags j r1 (hB j hj),r2,K3 (by show s.next+1≠s.next;omega)]
    exact hV _ (by omega)
end
end Go.Proofs.Ytilhhmkdcoajnaa.Am
set_option linter.unusedVariables false
set_option linter.unusedSimpArgs false
namespace Go.Proofs.Ytilhhmkdcoajnaa.Am
open Go Go.Proofs
noncomputable section
inductive UP (cs:List (List Int)) (c:List Int):Int→Prop
 | ass {x:Int} (h:x∈c):UP cs c (-x)
 | unit {L:List Int} {x:Int} (h:L∈cs) (hx:x∈L) (hy:∀y∈L,y≠x→UP cs c (-y)):UP cs c x
def Jg(cs:List (List Int))(c:List Int):Prop:=(∃x∈c,-x∈c)∨∃L∈cs,∀y∈L,UP cs c (-y)
def Dz(cs ds:List (List Int)):Prop:=∀L∈cs,∃M∈ds,∀x,x∈L↔x∈M
theorem UP.mono{cs ds:List (List Int)}{c d:List Int}(h:Dz cs ds)(hc:∀x,x∈c→x∈d){x:Int}(k:UP cs c x):UP ds d x:=by
 induction k with
 | ass h1=>exact .ass (hc _ h1)
 | unit h1 h2 h3 ih =>
  obtain⟨M,q1,q2⟩:=h _ h1
  exact .unit q1 ((q2 _).1 h2) fun y hy hne=>ih y ((q2 y).2 hy) hne
theorem Jg.mono{cs ds:List (List Int)}{c d:List Int}(h:Dz cs ds)(hc:∀x,x∈c→x∈d)(k:Jg cs c):Jg ds d:=by
 rcases k with⟨x,h1,h2⟩ | ⟨L,h1,h2⟩
 ·exact .inl ⟨x,hc _ h1,hc _ h2⟩
 ·obtain⟨M,q1,q2⟩:=h _ h1
  exact .inr ⟨M,q1,fun y hy=>(h2 y ((q2 y).2 hy)).mono h hc⟩
theorem Dz.refl(cs:List (List Int)):Dz cs cs:=fun L hL=>⟨L,hL,fun _=>Iff.rfl⟩
theorem Dz.app{a b c d:List (List Int)}(h:Dz a c)(k:Dz b d):Dz (a++b) (c++d):=fun L hL=>by
 rcases sE.1 hL with q | q
 ·obtain⟨M,h1,h2⟩:=h L q;exact⟨M,qt _ h1,h2⟩
 ·obtain⟨M,h1,h2⟩:=k L q;exact⟨M,rH _ h1,h2⟩
def CK(L:List Int):Prop:=∀x∈L,Lit x
theorem CK.i64{L:List Int}(h:CK L):DF L:=fun x hx=>by obtain⟨_,h2,h3⟩:=h x hx;exact⟨by omega,by omega⟩
theorem FO{L:List Int}(h:CK L)(z:Int):z∈Ah [] L↔z∈L:=by rw[Cy h.i64];exact⟨fun q=>q.1,fun q=>⟨q,h z q⟩⟩
theorem EO{K L:List Int}(h:CK L)(z:Int):z∈Ed K (Ah [] L)↔z∈L∧-z ∉ K:=by rw[Ee h.i64];exact⟨fun q=>⟨q.1,q.2.2⟩,fun q=>⟨q.1,h z q.1,q.2⟩⟩
theorem MA{K L:List Int}(h:CK L):FV K (Ah [] L)=true↔∃x∈L,x∈K:=by
 rw[Hg h.i64]
 exact⟨fun⟨x,h1,_,h2⟩=>⟨x,h1,h2⟩,fun⟨x,h1,h2⟩=>⟨x,h1,h x h1,h2⟩⟩
theorem eq      {A : List (List Int)} {c : List Int} : ∀ (cs : List (List Int)) (K : List Int) (more : Bool), (∀ L ∈ cs, CK    L) → (∀ L ∈ cs, L ∈ A) → (∀ z ∈ K, UP A c z) →
    (CE K cs more=none→∃L∈A,∀y∈L,UP A c (-y))∧∀K' m,CE K cs more=some (K',m)→∀z∈K',UP A c z:=by
  intro cs
  induction cs with
  | nil =>
    intro K more _ _ hK
    refine⟨fun h=>(by cases h),fun K' m h=>?_⟩
    simp only[CE]at h
    injection h with h
    injection h with h1 h2
    rw[← h1];exact hK
  | cons L cs ih =>
    intro K more hl hA hK
    have hL:=hl L ql
    have hl':∀M∈cs,CK M:=fun M hM=>hl M (qo _ hM)
    have hA':∀M∈cs,M∈A:=fun M hM=>hA M (qo _ hM)
    simp only[CE]
    split
    · rename_i e
      refine⟨fun _=>⟨L,hA L ql,fun y hy=>?_⟩,fun K' m h=>(by cases h)⟩
      have hn:y ∉ Ed K (Ah [] L):=by rw[e];simp
      rw[EO hL]at hn
      have:-y∈K:=by
        by_cases q:-y∈K
        · exact q
        · exact absurd ⟨hy,q⟩ hn
      exact hK _ this
    · rename_i y e
      cases hh:FV K (Ah [] L)with
      | true=>exact ih K more hl' hA' hK
      | false =>
        refine ih (K++[y]) true hl' hA' fun z hz=>?_
        rcases sE.1 hz with q | q
        · exact hK z q
        · rw[si.1 q]
          have hyo:y∈Ed K (Ah [] L):=by rw[e];simp
          obtain⟨hyL,_⟩:=(EO hL y).1 hyo
          refine .unit (hA L ql) hyL fun w hw hne=>?_
          have hn:w ∉ Ed K (Ah [] L):=by rw[e];simpa using hne
          rw[EO hL]at hn
          have:-w∈K:=by
            by_cases q:-w∈K
            · exact q
            · exact absurd ⟨hw,q⟩ hn
          exact hK _ this
    · exact ih K more hl' hA' hK
theorem WP:∀ (cs:List (List Int))(K K':List Int)(m:Bool),CE K cs true=some (K',m)→m=true:=by
 intro cs
 induction cs with
 | nil =>
  intro K K' m h
  simp only[CE]at h
  injection h with h
  injection h with h1 h2
  exact h2.symm
 | cons L cs ih =>
  intro K K' m h
  simp only[CE]at h
  split at h
  ·cases h
  ·cases hh:FV K (Ah [] L)with
   | true=>rw[hh]at h;exact ih _ _ _ h
   | false=>rw[hh]at h;exact ih _ _ _ h
  ·exact ih _ _ _ h
theorem bZ       : ∀ (cs : List (List Int)) (K K' : List Int) (more m : Bool), (∀ L ∈ cs, CK    L) → CK    K → (∀ z ∈ K, -z ∉ K) → CE    K cs more = some (K', m) → CK    K' ∧ (∀ z ∈ K', -z ∉ K') ∧ ∀ z ∈ K, z ∈ K' := by
  intro cs
  induction cs with
  | nil =>
    intro K K' more m _ hl hK h
    simp only[CE]at h
    injection h with h
    injection h with h1 h2
    rw[← h1];exact⟨hl,hK,fun z hz=>hz⟩
  | cons L cs ih =>
    intro K K' more m hl hlK hK h
    have hL:=hl L ql
    have hl':∀M∈cs,CK M:=fun M hM=>hl M (qo _ hM)
    simp only[CE]at h
    split at h
    · cases h
    · rename_i y e
      have hyo:y∈Ed K (Ah [] L):=by rw[e];simp
      obtain⟨hy1,hy2⟩:=(EO hL y).1 hyo
      cases hh:FV K (Ah [] L)with
      | true=>rw[hh]at h;exact ih _ _ _ _ hl' hlK hK h
      | false =>
        rw[hh]at h
        have hyK:y ∉ K:=fun q=>by rw[(MA hL).2 ⟨y,hy1,q⟩]at hh;cases hh
        have hy0:=(hL y hy1).1
        obtain⟨g1,g2,g3⟩:=ih (K++[y]) K' true m hl' (fun z hz=>by
          rcases sE.1 hz with q | q
          · exact hlK z q
          · rw[si.1 q];exact hL y hy1) (fun z hz q=>by
          rcases sE.1 hz with z1 | z1<;>rcases sE.1 q with z2 | z2
          · exact hK z z1 z2
          · have:=si.1 z2
            exact hy2 (by rw[← this,rD];exact z1)
          · rw[si.1 z1]at z2;exact hy2 z2
          · have a := si.1                 z1
            have b:=si.1 z2
            omega) h
        exact⟨g1,g2,fun z hz=>g3 z (qt _ hz)⟩
    · exact ih _ _ _ _ hl' hlK hK h
theorem bd       : ∀ (cs : List (List Int)) (K K' : List Int), (∀ L ∈ cs, CK    L) → (∀ z ∈ K, -z ∉ K) → CE    K cs false = some (K', false) → ∀ L ∈ cs, (∃ y ∈ L, -y ∉ K) ∧ ∀ x ∈ L, (∀ y ∈ L, y ≠ x → -y ∈ K) → x ∈ K := by
  intro cs
  induction cs with
  | nil=>intro K K' _ _ _ L hL;cases hL
  | cons L cs ih =>
    intro K K' hl hK h
    have hL:=hl L ql
    have hl':∀M∈cs,CK M:=fun M hM=>hl M (qo _ hM)
    simp only[CE]at h
    split at h
    · cases h
    · rename_i y e
      have hyo:y∈Ed K (Ah [] L):=by rw[e];simp
      obtain⟨hy1,hy2⟩:=(EO hL y).1 hyo
      cases hh:FV K (Ah [] L)with
      | false =>
        rw[hh]at h
        have:=WP _ _ _ _ h
        cases this
      | true =>
        rw[hh]at h
        intro M hM
        rcases rI.1 hM with rfl | hM
        · refine⟨⟨y,hy1,hy2⟩,fun x hx hne=>?_⟩
          have hyx:y=x:=by
            by_cases q:y=x
            · exact q
            · exact absurd (hne y hy1 q) hy2
          subst hyx
          obtain⟨w,hw1,hw2⟩:=(MA hL).1 hh
          by_cases q:w=y
          · rw[← q];exact hw2
          · exact absurd (hne w hw1 q) (hK w hw2)
        · exact ih K K' hl' hK h M hM
    · rename_i e1 e2
      intro M hM
      rcases rI.1 hM with rfl | hM
      · have hs:(Ed K (Ah [] M)).Pairwise (·<·):=(EY M List.Pairwise.nil).filter _
        cases ho:Ed K (Ah [] M)with
        | nil=>exact absurd ho e1
        | cons y l =>
          cases l with
          | nil=>exact absurd ho (e2 y)
          | cons z l =>
            rw[ho]at hs
            have hlt:y<z:=(sj.1 hs).1 z (by simp)
            obtain⟨y1,y2⟩:=(EO hL y).1 (by rw[ho];simp)
            obtain⟨z1,z2⟩:=(EO hL z).1 (by rw[ho];simp)
            refine⟨⟨y,y1,y2⟩,fun x hx hne=>?_⟩
            by_cases q:y=x
            · exact absurd (hne z z1 (by omega)) z2
            · exact absurd (hne y y1 q) y2
      · exact ih K K' hl' hK h M hM
theorem eV      {cs : List (List Int)} {c : List Int} (hl : ∀ L ∈ cs, CK    L) : ∀ (n : Nat) (K : List Int), CK    K → (∀ z ∈ K, -z ∉ K) → (∀ z ∈ K, UP cs c z) →
    (JI cs n K=some true→∃L∈cs,∀y∈L,UP cs c (-y))∧(JI cs n K=some false→∃K':List Int,(∀z∈K,z∈K')∧∀L∈cs,(∃y∈L,-y ∉ K')∧∀x∈L,(∀y∈L,y≠x→-y∈K')→x∈K'):=by
  intro n
  induction n with
  | zero=>intro K _ _ _;exact⟨fun h=>(by cases h),fun h=>(by cases h)⟩
  | succ n ih =>
    intro K hlK hK hU
    obtain⟨u1,u2⟩:=eq (c:=c) cs K false hl (fun L hL=>hL) hU
    simp only[JI]
    cases hp:CE K cs false with
    | none=>exact⟨fun _=>u1 hp,fun h=>(by cases h)⟩
    | some r =>
      obtain⟨K',m⟩:=r
      obtain⟨c1,c2,c3⟩:=bZ cs K K' false m hl hlK hK hp
      cases m with
      | true =>
        obtain⟨i1,i2⟩:=ih K' c1 c2 (u2 K' true hp)
        exact⟨i1,fun h=>let ⟨K2,k1,k2⟩:=i2 h;⟨K2,fun z hz=>k1 z (c3 z hz),k2⟩⟩
      | false=>exact⟨fun h=>(by cases h),fun _=>⟨K,fun z hz=>hz,bd cs K K' hl hK hp⟩⟩
theorem ai     {cs : List (List Int)} (hl : ∀ L ∈ cs, CK    L) {c : List Int} (hc : CK    c) : fol cs c = true ↔ Jg   cs c := by
  have hR:=j9 (fun L hL=>(hl L hL).i64) c
  unfold FU at hR
  rcases IV (Ah [] c) (Ah [] c) []with⟨k1,x,k2,k3⟩ | ⟨k1,k2⟩
  · rw[k1]at hR
    injection hR with hR
    rw[← hR]
    rw[FO hc]at k2 k3
    exact⟨fun _=>.inl ⟨x,k2,k3⟩,fun _=>rfl⟩
  · rw[k2]at hR
    simp only[rL]at hR
    have hK:∀z,z∈(Ah [] c).map (fun x=>-x)↔-z∈c:=fun z=>by
      rw[List.mem_map]
      constructor
      · rintro ⟨x, hx, rfl⟩
        rw[rD]
        exact(FO hc x).1 hx
      · intro hz
        exact⟨-z,(FO hc _).2 hz,rD z⟩
    have hnt:∀x∈c,-x ∉ c:=fun x hx q=>k1 x ((FO hc x).2 hx) ((FO hc _).2 q)
    obtain⟨i1,i2⟩:=eV (c:=c) hl (cs.flatten.length+1) ((Ah [] c).map fun x=>-x) (fun z hz=>by
      have:=(hc _ ((hK z).1 hz)).neg
      rw[rD]at this
      exact this) (fun z hz q=>by
      rw[hK]at hz q
      exact hnt _ hz q) (fun z hz=>by
      rw[hK]at hz
      have:=UP.ass (cs:=cs) hz
      rw[rD]at this
      exact this)
    cases hf:fol cs c with
    | true =>
      rw[hf]at hR
      exact⟨fun _=>.inr (i1 hR),fun _=>rfl⟩
    | false =>
      rw[hf]at hR
      refine⟨fun h=>(by cases h),fun h=>?_⟩
      exfalso
      obtain⟨K',q1,q2⟩:=i2 hR
      have up:∀ {x:Int},UP cs c x→x∈K':=fun {x} hx=>by
        induction hx with
        | ass h1=>exact q1 _ ((hK _).2 (by rw[rD];exact h1))
        | unit h1 h2 h3 ih=>exact(q2 _ h1).2 _ h2 ih
      rcases h with⟨x,h1,h2⟩ | ⟨L,h1,h2⟩
      · exact hnt x h1 h2
      · obtain⟨y,y1,y2⟩:=(q2 L h1).1
        exact y2 (up (h2 y y1))
end
end Go.Proofs.Ytilhhmkdcoajnaa.Am
