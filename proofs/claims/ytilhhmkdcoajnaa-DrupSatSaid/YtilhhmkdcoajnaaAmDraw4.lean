/- A region that draws its order: each of its operations, and all of them; conditions: none. -/
import Derived.Test.YtilhhmkdcoajnaaAmDraw3
set_option linter.unusedVariables false
set_option linter.unusedSimpArgs false
namespace Go.Proofs.Ytilhhmkdcoajnaa.Am
open Go
noncomputable section
section
variable{P:Program}{F:Fns}{ops:Array Oper}{nt:Nat}{b:Array Nat}{π:List Nat}{D:MP}{ρ0 ρ ρ1:Rho}{w0 w w1:World}{a0 a:Act}{listed:Array Bool}{k:Nat}{rnd:Option Nat}{Q:Exit→Act→World→Prop}
theorem DJ.ahead(hp:It P ops (Region.before ops) π)(J:DJ P ops (Region.before ops) π D ρ0 w0 a0 listed k ρ a w){p i:Nat}(hi:π[p]? = some i){o:Oper}(ho:ops[i]? = some o)
    (hr:∀e∈o.after,Region.binds .any e=true→listed.getD e.on false=true):∀j:Nat,j<ops.size→((Region.before ops).getD i 0).testBit j=true→listed[j]? = some true:=by
  intro j hj ht
  have lst:∀x:Nat,listed.getD x false=true→listed[x]? = some true:=by
    intro x hx
    rw[Array.getD_eq_getD_getElem?]at hx
    cases h:listed[x]? with
    | none=>rw[h]at hx;cases hx
    | some v=>rw[h]at hx;simp at hx;rw[hx]
  obtain⟨o',ho',e,he,hb,h'⟩:=OW ops i j ht
  rw[ho]at ho'
  injection ho' with ho'
  subst ho'
  have hl:=lst _ (hr e he hb)
  rcases h' with rfl | h'
  · exact hl
  · obtain⟨q,_,hq⟩:=hp.edge p i o hi ho e he hb
    exact J.anc q e.on hq ⟨e.on,hq,hl⟩ j hj h'
def PW(P:Program)(ops:Array Oper)(o:Oper)(t:Tmp):Prop:=t∈F5 P o∨∃ (j:Nat)(want:Bool)(u:Oper),o.guard=some (j,want)∧ops[j]? = some u∧u.dst=some t
open Classical in
def Jt (P:Program) (ops:Array Oper) (o:Oper) (R:CA):CA:=fun t=>if PW P ops o t then R t else none
theorem P2{o:Oper}{R:CA}{t:Tmp}(h:PW P ops o t):Jt P ops o R t=R t:=by unfold Jt;rw[if_pos h]
theorem TA{o:Oper}{R:CA}:In ops (Jt P ops o R) o=In ops R o:=by
  unfold In
  cases hg:o.guard with
  | none=>rfl
  | some g =>
    obtain⟨j,want⟩:=g
    simp only
    cases hj:ops[j]? with
    | none=>rfl
    | some u =>
      cases hd:u.dst with
      | none=>simp[hd]
      | some d=>simp only[Option.bind_some,hd];rw[P2 (.inr ⟨j,want,u,hg,hj,hd⟩)]
theorem DJ.view (ht : PT P F ops nt (Region.before ops) π D) (hpl : FA     P ops (Region.before ops) [] π = true) (hr0 : Ew   ρ0 (D.R 0) a0.tmps) (hnt : nt ≤ a0.tmps.size)
    (J:DJ P ops (Region.before ops) π D ρ0 w0 a0 listed k ρ a w) {p i:Nat} (hi:π[p]? = some i) (hnd:¬ Dn π listed p)
    (hanc:∀j:Nat,j<ops.size→((Region.before ops).getD i 0).testBit j=true→listed[j]? = some true):Ew ρ (Jt P ops (D.o p) (D.R p)) a.tmps:=by
  have hp:=JM hpl
  have hlt:=hp.lt p i hi
  have hpn:p<π.length:=by
    rcases oI p π.length with h' | h'
    · exact h'
    · rw[oe h']at hi;cases hi
  have hoi:=ht.op p i hi
  have place:∀ (q:Nat) (h:q<π.length),π[q]? = some π[q]:=fun q hq=>oM hq
  have uniq:∀q r d,q<π.length→r<π.length→(D.o q).dst=some d→(D.o r).dst=some d→q=r:=by
    have one:∀q r d,q<r→r<π.length→(D.o q).dst=some d→(D.o r).dst=some d→False:=by
      intro q r d hqr hr h1 h2
      exact(hp.wdst r q _ _ _ _ d (place r hr) (place q (by omega)) hqr (ht.op r _ (place r hr)) (ht.op q _ (place q (by omega))) h2).1 h1
    intro q r d hq hr h1 h2
    rcases pY q r with h' | h' | h'
    · exact(one q r d h' hr h1 h2).elim
    · exact h'
    · exact(one r q d h' hq h2 h1).elim
  intro t x hx
  unfold Jt at hx
  split at hx
  · rename_i hn
    have gd:∀ (j:Nat) (want:Bool) (u:Oper),(D.o p).guard=some (j,want)→ops[j]? = some u→u.dst=some t→∃q,q<p∧Dn π listed q∧(D.o q).dst=some t:=by
      intro j want u h1 h2 h3
      have hj:j<ops.size:=by
        rcases oI j ops.size with h' | h'
        · exact h'
        · rw[Array.getElem?_eq_none h']at h2;cases h2
      have hb:=hp.guard p i (D.o p) j want hi hoi h1
      obtain⟨q,hqp,hq⟩:=So hpl p i j hi hj hb
      refine⟨q,hqp,⟨j,hq,hanc j hj hb⟩,?_⟩
      have:=ht.op q j hq
      rw[h2]at this
      injection this with this
      rw[← this];exact h3
    have fin:∀ {y:AV},Aa ρ y (a.tmps.getD t undef)→t<a0.tmps.size→t<a.tmps.size∧Aa ρ y (a.tmps.getD t undef):=fun h1 h2=>⟨by rw[J.sz];exact h2,h1⟩
    rcases ht.regs_at p (Nat.le_of_lt hpn) t x hx with⟨q,hq,hd,rfl⟩ | ⟨hno,h0⟩
    · have hqn : q < π.length := by omega
      have dq:Dn π listed q:=by
        rcases hn with hn | ⟨j,want,u,h1,h2,h3⟩
        · have hb:=hp.rdst p q i _ _ _ t hi (place q hqn) hq hoi (ht.op q _ (place q hqn)) hd hn
          exact⟨π[q],place q hqn,hanc _ (hp.lt q _ (place q hqn)) hb⟩
        · obtain⟨r,hr1,hr2,hr3⟩:=gd j want u h1 h2 h3
          have:=uniq q r t hqn (by omega) hd hr3
          subst this;exact hr2
      exact fin (J.rw q dq t hd) (oh ((ht.step q hqn).lt t hd) hnt)
    · refine fin (J.ri t ?_ x h0) (hr0 t x h0).1
      intro q dq hd
      have hqn:q<π.length:=oh (J.dlt q dq) J.kle
      have hpq:p<q:=by
        rcases pY q p with h' | h' | h'
        · exact absurd hd (hno q h')
        · subst h';exact absurd dq hnd
        · exact h'
      rcases hn with hn | ⟨j,want,u,h1,h2,h3⟩
      · have hb:=(hp.wdst q p _ i _ _ t (place q hqn) hi hpq (ht.op q _ (place q hqn)) hoi hd).2 hn
        exact hnd ⟨i,hi,J.anc q _ (place q hqn) dq i hlt hb⟩
      · obtain⟨r,hr1,hr2,hr3⟩:=gd j want u h1 h2 h3
        exact absurd hr3 (hno r hr1)
  · cases hx
theorem Nj{o:Oper}{sh:Sh}{xs:List Operand}(h:BZ P o.op=some (sh,xs)):O6 P o=sh.isEff:=by unfold O6;rw[h]
theorem DJ.run (hF : FOk P F) (ht : PT P F ops nt (Region.before ops) π D) (hpl : FA     P ops (Region.before ops) [] π = true) (hr0 : Ew   ρ0 (D.R 0) a0.tmps) (hnt : nt ≤ a0.tmps.size)
    (J:DJ P ops (Region.before ops) π D ρ0 w0 a0 listed k ρ a w) (htop:k=π.length∨(D.sh k).isEff=true) {p i:Nat} (hi:π[p]? = some i) (hnd:¬ Dn π listed p)
    (hanc:∀j:Nat,j<ops.size→((Region.before ops).getD i 0).testBit j=true→listed[j]? = some true) {K:Act→World→Prop}
    (hK:∀k' ρ' a' w',DJ P ops (Region.before ops) π D ρ0 w0 a0 (listed.setIfInBounds i true) k' ρ' a' w'→K a' w'):wpOpIn (fen rnd) 0 P ops Q i K a w:=by
  have hp:=JM hpl
  have hpn:p<π.length:=by
    rcases oI p π.length with h' | h'
    · exact h'
    · rw[oe h']at hi;cases hi
  have place:∀ (q:Nat) (h:q<π.length),π[q]? = some π[q]:=fun q hq=>oM hq
  have hoi:=ht.op p i hi
  have hs:=ht.step p hpn
  obtain⟨xs,hsh,has⟩:=hs.shape
  have hv:=J.view ht hpl hr0 hnt hi hnd hanc
  have hkp:p≤k:=by
    rcases oI k p with h' | h'
    · have hkn : k < π.length := by omega
      have he:(D.sh k).isEff=true:=htop.resolve_left (by omega)
      obtain⟨xk,hk1,_⟩:=(ht.step k hkn).shape
      have hb:=hp.eff p k i _ _ hi (place k hkn) h' (ht.op k _ (place k hkn)) (by rw[Nj hk1];exact he)
      have:=J.dlt k ⟨π[k],place k hkn,hanc _ (hp.lt k _ (place k hkn)) hb⟩
      omega
    · exact h'
  have hno:p<k→(D.sh p).isEff=false:=fun h'=>by
    cases he:(D.sh p).isEff with
    | false=>rfl
    | true=>exact absurd (J.eff p h' he) hnd
  have hnt':nt≤a.tmps.size:=by rw[J.sz];exact hnt
  have has':D8 (Jt P ops (D.o p) (D.R p)) xs=some (D.as p):=by
    rw[Ig fun t htx=>P2 (.inl (Uv hsh htx))];exact has
  have sok:∀ {s s1:ASt},(D.want p=true→shF F (D.sh p) (D.as p) s=some (D.v p,s1))→(D.want p=false→s1=s) →
      KT P F ops nt (Jt P ops (D.o p) (D.R p)) s (D.o p) (D.sh p) (D.want p) (D.as p) (D.v p) ((Jt P ops (D.o p) (D.R p)).put (D.o p).dst (D.v p)) s1:=fun h1 h2 =>
    ⟨⟨xs,hsh,has'⟩,by rw[TA];exact hs.wants,rfl,hs.lt,h1,fun hw=>⟨(hs.no hw).1,h2 hw⟩⟩
  rcases oI p k with hlt | hge
  ·
    have hne:=hno hlt
    have same:∀ {v':Value} {w':World} {ρ':Rho},Aa ρ' (D.v p) v'→Inv P ρ' (D.st k) w'→Fr ρ (D.st k) w ρ' (D.st k) w'→K (a.put (D.o p).dst v') w':=by
      intro v' w' ρ' h1 h2 h3
      refine hK k ρ' _ w' (J.put ht hp hnt hi hnd hlt (oD k) (fun q hq=>.inr hq) J.kle hanc h1 h3.le h2 (J.fresh.step h3) (J.fr.trans h3) ?_ ?_)
      · intro q hq _ hd hw f hf
        obtain⟨ob,m,g1,g2,g3,g4,g5,g6⟩:=J.unb q hq hd hw f hf
        exact⟨h3.fresh _ g3 (.inl g6),rfl,g6⟩
      · intro q hq _ hd hw hr
        exact J.rds q hq hd hw hr
    have quiet:(D.want p=true→shF F (D.sh p) (D.as p) (D.st k)=some (D.v p,D.st k))→wpOpIn (fen rnd) 0 P ops Q i K a w:=fun hy =>
      Lt J.inv (J.fresh _ (oD _)).1 hoi (sok hy fun _=>rfl) hne hv hnt' fun v' w' ρ' h1 h2 h3=>same h1 h2 h3
    cases hw:D.want p with
    | false=>exact quiet (fun e=>by rw[hw]at e;cases e)
    | true =>
      have hy:=hs.yes hw
      cases he:D.sh p with
      | p1 f =>
        refine quiet fun _=>?_
        rw[he]at hy ⊢
        simp only[shF,shL]at hy ⊢
        split at hy<;>first | (cases hy;done) | (rw[(CK hy).1];rfl)
      | p2 f =>
        refine quiet fun _=>?_
        rw[he]at hy ⊢
        simp only[shF,shL]at hy ⊢
        split at hy<;>first | (cases hy;done) | (rw[(CK hy).1];rfl)
      | p f =>
        refine quiet fun _=>?_
        rw[he]at hy ⊢
        simp only[shF,shL]at hy ⊢
        rw[(CK hy).1];rfl
      | r1 f =>
        refine quiet fun _=>?_
        have:=Jp (J.rds p hlt hnd hw (by rw[he];rfl))
        rw[he]at this ⊢
        exact this
      | r f =>
        refine quiet fun _=>?_
        have:=Jp (J.rds p hlt hnd hw (by rw[he];rfl))
        rw[he]at this ⊢
        exact this
      | mk f =>
        obtain⟨ob,m,g1,g2,g3,g4,g5,g6⟩:=J.unb p hlt hnd hw f he
        let s':ASt:={ next:=(D.st p).next,heap:=(D.st k).heap }
        have hinv:Inv P ρ s' w:=J.inv.same fun _ _ _=>rfl
        have hsame:∀x,(AH s' ob).heap.get x=(D.st k).heap.get x:=by
          intro x
          rw[CH]
          by_cases e:x=s'.next
          · rw[if_pos e,e];exact g4.symm
          · rw[if_neg e]
        refine Lt hinv g3 hoi (sok (s1:=AH s' ob) (fun _=>?_) (fun e=>by rw[hw]at e;cases e)) hne hv hnt' ?_
        · rw[he]
          simp only[shF,shL,g1,PR,g2]
          rfl
        · intro v' w' ρ' h1 h2 h3
          have h2':Inv P ρ' (D.st k) w':=h2.same fun x _ _=>(hsame x).symm
          have hid:(D.st p).next+1≤(D.st k).next:=g6
          refine hK k ρ' _ w' (J.put ht hp hnt hi hnd hlt (oD k) (fun q hq=>.inr hq) J.kle hanc h1 h3.le h2' ?_ ?_ ?_ ?_)
          · intro x hx
            have:=J.fresh x hx
            exact⟨h3.fresh x this.1 (.inr (show(D.st p).next+1≤x by omega)),this.2⟩
          · refine ⟨Rho.le_trans J.fr.le h3.le, ?_, J.fr.next, oS           J.fr.size h3.size, h3.os.trans J.fr.os, h3.tape.trans J.fr.tape, h3.output.trans J.fr.output, ?_, ?_, J.fr.unborn⟩
            · intro x hx h'
              refine h3.fresh x (J.fr.fresh x hx h') ?_
              rcases h' with h' | h'
              · exact .inl (show x<(D.st p).next by omega)
              · exact .inr (show(D.st p).next+1≤x by omega)
            · intro bb hb ho
              have hb':bb<w.heap.size:=oh hb J.fr.size
              refine(h3.keep bb hb' ?_).trans (J.fr.keep bb hb ho)
              intro ho'
              have ho'':GQ ρ (D.st k) bb:=ho'
              exact(J.fr.own bb ho'').elim ho (fun hge=>by omega)
            · intro bb hb
              have hb':GQ ρ' (AH s' ob) bb:=hb.same fun x _ _=>(hsame x).symm
              rcases h3.own bb hb' with h' | h'
              · exact J.fr.own bb h'
              · exact .inr (oS J.fr.size h')
          · intro q hq hqp hd hwq fq hfq
            obtain⟨_,_,_,_,u3,_,_,u6⟩:=J.unb q hq hd hwq fq hfq
            have hne':(D.st q).next≠(D.st p).next:=by
              rcases pY q p with h' | h' | h'
              · exact J.dis q p h' hlt hd hnd hwq hw (by rw[hfq];rfl) (by rw[he];rfl)
              · exact absurd h' hqp
              · exact(J.dis p q h' hq hnd hd hw hwq (by rw[he];rfl) (by rw[hfq];rfl)).symm
            refine⟨h3.fresh _ u3 ?_,rfl,u6⟩
            rcases Nat.lt_or_gt_of_ne hne' with h' | h'
            · exact .inl h'
            · exact .inr h'
          · intro q hq _ hd hwq hr
            exact J.rds q hq hd hwq hr
      | e f=>rw[he]at hne;cases hne
      | call f=>rw[he]at hne;cases hne
      | callv=>rw[he]at hne;cases hne
  ·
    have hpk:p=k:=by omega
    subst hpk
    have hkn:p<π.length:=hpn
    have he:(D.sh p).isEff=true:=htop.resolve_left (by omega)
    refine T9 hF J.inv J.fresh hoi (sok (s1:=D.st (p+1)) hs.yes (fun e=>(hs.no e).2)) hv hnt' ?_
    intro v' w' ρ' h1 h2 h3
    refine hK (p+1) ρ' _ w' (J.put ht hp hnt hi hnd (pF p) (Nat.le_succ p) (fun q hq=>by omega) hkn hanc h1 h3.le h2 (J.fresh.step h3) (J.fr.trans h3) ?_ ?_)
    · intro q hq _ hd hw f hf
      obtain⟨ob,m,g1,g2,g3,g4,g5,g6⟩:=J.unb q hq hd hw f hf
      exact⟨h3.fresh _ g3 (.inl g6),h3.unborn _ g3 (.inl g6),oh g6 h3.next⟩
    · intro q hq _ hd hw hr
      have hqn:q<π.length:=by omega
      cases hwp:D.want p with
      | false=>rw[(hs.no hwp).2];exact J.rds q hq hd hw hr
      | true =>
        refine ht.ag p q i _ hi (place q hqn) hq he hwp hr ?_ hw
        cases hb:((Region.before ops).getD i 0).testBit π[q]with
        | false=>rfl
        | true=>exact absurd ⟨π[q],place q hqn,hanc _ (hp.lt q _ (place q hqn)) hb⟩ hd
theorem DJ.any (hF : FOk P F) (ht : PT P F ops nt (Region.before ops) π D) (hpl : FA     P ops (Region.before ops) [] π = true) (hr0 : Ew   ρ0 (D.R 0) a0.tmps) (hnt : nt ≤ a0.tmps.size)
    (hq:∀a' w' ρ',Inv P ρ' (D.st π.length) w'→Bb ρ' (D.st π.length)→Fr ρ0 (D.st 0) w0 ρ' (D.st π.length) w'→Ew ρ' (D.R π.length) a'.tmps→a'.tmps.size=a0.tmps.size→a'.defers=a0.defers→Q .normal a' w'):
    ∀ (fuel:Nat) (listed:Array Bool) (k:Nat) (ρ:Rho) (a:Act) (w:World),DJ P ops (Region.before ops) π D ρ0 w0 a0 listed k ρ a w→(∀l:List Nat,l.Nodup→(∀i∈l,listed[i]? = some false)→l.length≤fuel) →
      wpAnyIn (fen rnd) 0 P .any ops Q fuel listed a w:=by
  have hp:=JM hpl
  have place:∀ (q:Nat) (h:q<π.length),π[q]? = some π[q]:=fun q hq=>oM hq
  have bool:∀ {listed:Array Bool} {i:Nat},i<listed.size→listed[i]?≠some true→listed[i]? = some false:=by
    intro listed i hi h
    rw[Array.getElem?_eq_getElem hi]at h ⊢
    cases hb:listed[i]with
    | true=>rw[hb]at h;exact absurd rfl h
    | false=>rfl
  have all:∀ {listed:Array Bool} {k:Nat} {ρ:Rho} {a:Act} {w:World},DJ P ops (Region.before ops) π D ρ0 w0 a0 listed k ρ a w→Region.ready .any ops listed=[]→∀p,p<π.length→Dn π listed p:=by
    intro listed k ρ a w J hr p
    induction p using Nat.strongRecOn with
    | ind p ih =>
      intro hpn
      refine Classical.byContradiction fun hnd=>?_
      have hi:=place p hpn
      have hlt:=hp.lt p _ hi
      have hoi:=ht.op p _ hi
      have hf:listed[π[p]]? = some false:=bool (by rw[J.lsz];exact hlt) fun h=>hnd ⟨_,hi,h⟩
      have hm:π[p]∈Region.ready .any ops listed:=by
        refine mem_ready.2 ⟨by simp[Array.getD_eq_getD_getElem?,hf],D.o p,hoi,?_⟩
        intro e he hb
        obtain⟨q,hqp,hq'⟩:=hp.edge p _ _ hi hoi e he hb
        obtain⟨j,hj,hl⟩:=ih q hqp (by omega)
        rw[hq']at hj
        injection hj with hj
        subst hj
        simp[Array.getD_eq_getD_getElem?,hl]
      rw[hr]at hm
      cases hm
  have done:∀ {listed:Array Bool} {k:Nat} {ρ:Rho} {a:Act} {w:World},DJ P ops (Region.before ops) π D ρ0 w0 a0 listed k ρ a w→Region.ready .any ops listed=[]→Q .normal a w:=by
    intro listed k ρ a w J hr
    have hall:=all J hr
    have hk:k=π.length:=by
      rcases oI k π.length with h' | h'
      · have:=J.dlt k (hall k h');omega
      · have:=J.kle;omega
    subst hk
    refine hq a w ρ J.inv J.fresh J.fr ?_ J.sz J.dfr
    intro t x hx
    rcases ht.regs_at π.length (oD _) t x hx with⟨q,hqn,hd,rfl⟩ | ⟨hno,h0⟩
    · exact⟨by rw[J.sz];exact oh ((ht.step q hqn).lt t hd) hnt,J.rw q (hall q hqn) t hd⟩
    · exact⟨by rw[J.sz];exact(hr0 t x h0).1,J.ri t (fun q dq=>hno q (J.dlt q dq)) x h0⟩
  intro fuel
  induction fuel with
  | zero =>
    intro listed k ρ a w J hfu
    have hr:Region.ready .any ops listed=[]:=by
      cases hr:Region.ready .any ops listed with
      | nil=>rfl
      | cons i l =>
        have hm:i∈Region.ready .any ops listed:=by rw[hr];exact oH
        obtain⟨h1,o,ho,_⟩:=mem_ready.1 hm
        have hlt:i<ops.size:=by
          rcases oI i ops.size with h' | h'
          · exact h'
          · rw[Array.getElem?_eq_none h']at ho;cases ho
        have:=hfu [i] (by simp) (fun j hj=>by
          have:j=i:=by simpa using hj
          subst this
          refine bool (by rw[J.lsz];exact hlt) fun h=>?_
          simp[Array.getD_eq_getD_getElem?,h]at h1)
        simp at this
    exact⟨hr,done J hr⟩
  | succ fuel ih =>
    intro listed k ρ a w J hfu
    obtain⟨k,J,htop⟩:=J.adv ht _ k rfl
    refine⟨done J,fun i hm=>?_⟩
    obtain⟨h1,o,ho,hr⟩:=mem_ready.1 hm
    have hlt:i<ops.size:=by
      rcases oI i ops.size with h' | h'
      · exact h'
      · rw[Array.getElem?_eq_none h']at ho;cases ho
    obtain⟨p,hi⟩:=hp.onto hlt
    have hf:listed[i]?≠some true:=fun h=>by simp[Array.getD_eq_getD_getElem?,h]at h1
    have hnd:¬ Dn π listed p:=fun⟨j,hj,hl⟩=>by
      rw[hi]at hj
      injection hj with hj
      subst hj
      exact hf hl
    refine J.run hF ht hpl hr0 hnt htop hi hnd (J.ahead hp hi ho hr) ?_
    intro k' ρ' a' w' J'
    refine ih _ k' ρ' a' w' J' ?_
    intro l hn hl
    have hil:i ∉ l:=fun h=>by
      have:=hl i h
      simp[J.lsz,hlt]at this
    have:=hfu (i::l) (pt.2 ⟨hil,hn⟩) (fun j hj=>by
      rcases ov.1 hj with rfl | hj
      · exact bool (by rw[J.lsz];exact hlt) hf
      · have:=hl j hj
        rw[Array.getElem?_setIfInBounds_ne (fun e=>hil (by rw[e];exact hj))]at this
        exact this)
    simpa using this
theorem ZL(hF:FOk P F){R R2:CA}{s s2:ASt}(htr:H9 P F ops nt (Region.before ops) true π [] R s R2 s2)(hpl:FA P ops (Region.before ops) [] π=true)
    (h:Inv P ρ s w) (hf:Bb ρ s) (hr:Ew ρ R a.tmps) (hnt:nt≤a.tmps.size)
    (hq:∀a' w' ρ',Inv P ρ' s2 w'→Bb ρ' s2→Fr ρ s w ρ' s2 w'→Ew ρ' R2 a'.tmps→a'.tmps.size=a.tmps.size→a'.defers=a.defers→Q .normal a' w'):
    wpAnyIn (fen rnd) 0 P .any ops Q ops.size (Array.replicate ops.size false) a w:=by
  obtain⟨D,ht,e1,e2,e3,e4,_⟩:=ab htr
  subst e1;subst e2;subst e3;subst e4
  have nodn:∀p,¬ Dn π (Array.replicate ops.size false) p:=by
    rintro p ⟨i,_,h⟩
    rw[Array.getElem?_replicate]at h
    split at h<;>cases h
  refine DJ.any hF ht hpl hr hnt hq ops.size _ 0 ρ a w ⟨by simp,oK _,fun p h=>(nodn p h).elim,fun p h=>by omega,fun p i _ h=>(nodn p h).elim,h,hf,Fr.refl _ _ _,fun p h=>by omega,fun p q _ h=>by omega,fun p h=>by omega,rfl,rfl,fun p h=>(nodn p h).elim,?_⟩ ?_
  · intro t _ x hx
    exact(hr t x hx).2
  · intro l hn hl
    refine PY ops.size l hn fun i hi=>?_
    have:=hl i hi
    rw[Array.getElem?_replicate]at this
    split at this
    · assumption
    · cases this
end
end
end Go.Proofs.Ytilhhmkdcoajnaa.Am
