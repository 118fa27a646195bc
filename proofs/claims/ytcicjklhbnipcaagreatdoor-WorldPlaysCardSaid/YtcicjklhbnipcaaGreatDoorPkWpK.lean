/-
  Laid texts.
-/
import Derived.Test.YtcicjklhbnipcaaGreatDoorPkWpJ
set_option maxHeartbeats 16000000
set_option maxRecDepth 1000000
set_option linter.unusedVariables false
set_option linter.unusedSimpArgs false
namespace Go.Proofs.YtcicjklhbnipcaaGreatDoor
section
namespace In
section
variable {N:Nat}{t:TabD}
theorem gv{dir:Int}{s:ByteArray}{b:Bool}(h:(make t dir s b).2.1≠0):(make t dir s b).2.2=t:=by
 unfold make at h ⊢
 split
 ·rename_i e
  rw[if_pos e] at h
  exact absurd rfl h
 ·rfl
theorem YA{c:Bool}{a:TabD}{e:Int}(h:(if c then((0:Int),a) else(e,t)).1≠0):(if c then((0:Int),a) else(e,t)).2=t:=by
 cases c with
 |true=>exact absurd rfl h
 |false=>rfl
theorem cU{id:Int}(h:(hold t id).1≠0):(hold t id).2=t:=YA h
theorem jh{id a:Int}{s:ByteArray}(h:(write t id a s).1≠0):(write t id a s).2=t:=YA h
theorem ji{id n:Int}(h:(trunc t id n).1≠0):(trunc t id n).2=t:=YA h
theorem bL{id:Int}{s:ByteArray}(h:(remove t id s).1≠0):(remove t id s).2=t:=YA h
theorem im{id:Int}{s:ByteArray}(h:(unlink t id s).1≠0):(unlink t id s).2=t:=YA h
theorem j_{id dir:Int}{s:ByteArray}(h:(link t id dir s).1≠0):(link t id dir s).2=t:=YA h
theorem iq{dir tod:Int}{s as_:ByteArray}(h:(rename t dir s tod as_).1≠0):(rename t dir s tod as_).2=t:=YA h
theorem ka(I:Inv N t){dir:Int}{s:ByteArray}(h:(make t dir s false).2.1=0):(hold (make t dir s false).2.2 (make t dir s false).1).1=0:=by
 unfold make at h ⊢
 cases he:makeE t dir s==0 with
 |false=>rw[he] at h;have h':makeE t dir s=0:=h;rw[h'] at he;cases he
 |true=>
  show(hold (makeT t dir s false) (t.last+1)).1=0
  have hne: ∀ m∈(nameIn t dir s (t.last+1)).nodes,m.id≠(⟨t.last+1,false,1,0,ByteArray.empty,[]⟩:NodeD).id:=fun m hm=>by
   have hm':m∈set t.nodes ((at_ t dir).setNames (with_ (at_ t dir).names s (t.last+1))):=hm
   unfold set at hm'
   obtain⟨y,hy,e⟩:=laKz.1 hm'
   have hp:=(I.pos y hy).2
   have:m.id=y.id:=by
    rw[←e]
    split
    ·rename_i hh
     exact(by simpa using hh:y.id=_).symm
    ·rfl
   show m.id≠t.last+1
   omega
  have hf:find (makeT t dir s false).nodes (t.last+1)=some ⟨t.last+1,false,1,0,ByteArray.empty,[]⟩:=by
   show find ((nameIn t dir s (t.last+1)).nodes++[⟨t.last+1,false,1,0,ByteArray.empty,[]⟩]) (t.last+1)=_
   rw[yD hne,if_pos rfl]
  have hE:holdE (makeT t dir s false) (t.last+1)=0:=by
   unfold holdE getE
   rw[at_some hf]
   simp only[hf]
   rfl
  unfold hold
  rw[hE]
  rfl
end
end In
namespace Fs
variable {N:Nat}{d:FsD}
theorem Eg{o id:Int}(h:(gives d o id).1.err≠0):(gives d o id).2=d:=by
 unfold gives at h ⊢
 split
 ·rename_i e
  rw[if_pos e] at h
  exact absurd rfl h
 ·rename_i e
  rw[In.cU e]
theorem stays(I:Inv N d)(o:Int)(p:OpD)(h:¬Ol.eo (do_ d o p).1 p):(do_ d o p).2=d:=by
 have hk:(p.kind≠6∧p.kind≠9∧p.kind≠13)→(do_ d o p).1.err≠0:=fun hk he=>h ⟨he,hk⟩
 clear h
 unfold do_ at hk ⊢
 split
 ·rfl
 rename_i h1
 rw[if_neg h1] at hk
 split
 ·rename_i h2
  rw[if_pos h2] at hk
  have hk:=hk (by omega)
  unfold opens at hk ⊢
  split
  ·rfl
  rename_i h3
  rw[if_neg h3] at hk
  split
  ·rfl
  rename_i h4
  rw[if_neg h4] at hk
  split
  ·rename_i h5
   rw[if_pos h5] at hk
   split
   ·rename_i h6
    rw[In.gv h6]
   ·rename_i h6
    rw[if_neg h6] at hk
    refine absurd ?_ hk
    unfold gives
    rw[if_pos (In.ka I.tbl (Decidable.not_not.1 h6))]
  ·rename_i h5
   rw[if_neg h5] at hk
   split
   ·rfl
   ·rename_i h6
    rw[if_neg h6] at hk
    exact Eg hk
 rename_i h2
 rw[if_neg h2] at hk
 split
 ·rename_i h3
  rw[if_pos h3] at hk
  unfold handled at hk ⊢
  split
  ·rfl
  rename_i h4
  rw[if_neg h4] at hk
  split
  ·rename_i h5
   rw[if_pos h5] at hk
   exact absurd rfl (hk (by omega))
  rename_i h5
  rw[if_neg h5] at hk
  split
  ·rfl
  rename_i h6
  rw[if_neg h6] at hk
  split
  ·rename_i h7
   rw[if_pos h7] at hk
   have hw:(In.write d.t (held d o p.h) p.at_ p.data).1≠0:=hk (by omega)
   rw[In.jh hw]
  rename_i h7
  rw[if_neg h7] at hk
  split
  ·rename_i h8
   rw[if_pos h8] at hk
   have hw:(In.trunc d.t (held d o p.h) p.n).1≠0:=hk (by omega)
   rw[In.ji hw]
  ·rfl
 rename_i h3
 rw[if_neg h3] at hk
 split
 ·rfl
 rename_i h4
 rw[if_neg h4] at hk
 have hn:(named d p).1≠0:=hk (by omega)
 have key:(named d p).2=d.t:=by
  unfold named namedAt at hn ⊢
  split
  ·rfl
  rename_i h5
  rw[if_neg h5] at hn
  split
  ·rename_i h6
   rw[if_pos h6] at hn
   exact In.gv hn
  rename_i h6
  rw[if_neg h6] at hn
  split
  ·rename_i h7
   rw[if_pos h7] at hn
   exact In.bL hn
  rename_i h7
  rw[if_neg h7] at hn
  split
  ·rename_i h8
   rw[if_pos h8] at hn
   exact In.im hn
  rename_i h8
  rw[if_neg h8] at hn
  split
  ·rename_i h9
   rw[if_pos h9] at hn
   split
   ·rfl
   rename_i jD
   rw[if_neg jD] at hn
   split
   ·rfl
   rename_i kx
   rw[if_neg kx] at hn
   exact In.j_ hn
  rename_i h9
  rw[if_neg h9] at hn
  split
  ·rfl
  rename_i jD
  rw[if_neg jD] at hn
  exact In.iq hn
 rw[key]
end Fs
namespace Ol
theorem cX(d:FsD)(l:List a_)(x:a_):replay d (l++[x])=again (replay d l) x:=by
 unfold replay
 rw[ldIz]
 rfl
structure IY (k:Nat) (D E:ar):Prop where
 now:D.now=replay D.base D.log
 base:E.base=D.base
 log:E.log=D.log.take k
 Eh:E.now=replay E.base E.log
section
variable {k N:Nat}{D E:ar}{o:Int}{p:OpD}
theorem Ei(h:¬eo (Fs.do_ D.now o p).1 p):(aO D o p).log=D.log:=by
 show(if eo (Fs.do_ D.now o p).1 p then D.log++[(o,some p)] else D.log)=D.log
 exact if_neg h
theorem Ej(h:eo (Fs.do_ D.now o p).1 p):(aO D o p).log=D.log++[(o,some p)]:=by
 show(if eo (Fs.do_ D.now o p).1 p then D.log++[(o,some p)] else D.log)=_
 exact if_pos h
end
end Ol
end
section
namespace Fs
def Full(d:FsD):Prop:= ∀ p∈d.h,p.2≠z9
section
variable {N:Nat}{d:FsD}{o:Int}
theorem ir(hF:Full d)(ho:o∈af d):hOf d.h o≠z9:=by
 obtain⟨p,hp,rfl⟩:=laKz.1 ho
 unfold hOf
 cases hf:d.h.find? fun q=>q.1==p.1 with
 |some q=>exact hF q (laUz hf)
 |none=>
  rw[lcNz] at hf
  exact absurd (beq_self_eq_true p.1) (hf p hp)
theorem jK(ho:o∉af d):hOf d.h o=z9:=by
 unfold hOf
 cases hf:d.h.find? fun q=>q.1==o with
 |some q=>
  have h1:=lcOz hf
  have e:q.1=o:=by simpa using h1
  exact absurd (laKz.2 ⟨q,laUz hf,e⟩) ho
 |none=>rfl
theorem fH{h:List (Int×List Int)}(hF: ∀ p∈h,p.2≠z9){l:List Int}(hl:l≠z9): ∀ p∈put h o l,p.2≠z9:=fun p hp=>by
 rcases mem_ins.1 hp with rfl|hp
 ·exact hl
 ·exact hF p (lbHz.1 hp).1
theorem ew{h:List (Int×List Int)}(hF: ∀ p∈h,p.2≠z9){l:List Int}: ∀ p∈shut h o l,p.2≠z9:=fun p hp=>by
 unfold shut at hp
 split at hp
 ·have h1:=(lbHz.1 hp)
  have h2:p.1≠o:=by simpa using h1.2
  rcases mem_ins.1 h1.1 with rfl|h3
  ·exact absurd rfl h2
  ·exact hF p (lbHz.1 h3).1
 ·rename_i hl
  exact fH hF hl p hp
theorem kZ{l:List Int}{k:Nat}{v:Int}(hk:k<l.length)(hv:v≠0):l.set k v≠z9:=fun e=>by
 have h1:v∈l.set k v:=List.mem_set hk v
 rw[e] at h1
 unfold z9 at h1
 simp at h1
 exact hv h1
theorem Ek(I:In.Inv N d.t){id:Int}(h:(In.hold d.t id).1=0):id≠0:=by
 have hE:In.holdE d.t id=0:=by
  unfold In.hold at h
  split at h
  ·rename_i e;simpa using e
  ·exact h
 unfold In.holdE at hE
 split at hE
 ·rename_i e
  obtain⟨n,hn,-⟩:=In.getE_ok (show In.getE d.t id false=0 by simpa using e)
  obtain⟨hm,rfl⟩:=In.find_some hn
  have:=I.pos n hm
  omega
 ·rename_i e
  exact absurd (by simpa using hE) e
theorem vY(I:Inv N d)(hF:Full d)(o id:Int):Full (gives d o id).2:=by
 unfold gives
 split
 ·rename_i h
  refine fH hF (kZ ?_ (Ek I.tbl h))
  have h1:=(hOf_row I o).1
  have h2:=free_le I o
  omega
 ·exact hF
theorem El(I:Inv N d)(hF:Full d)(o:Int)(p:OpD):Full (opens d o p).2:=by
 unfold opens
 split
 ·exact hF
 split
 ·exact hF
 split
 ·split
  ·exact hF
  ·exact vY (d:=⟨(In.make d.t (at_ d p.path).1.1 (at_ d p.path).1.2 false).2.2,d.h⟩) (inv_tbl I (In.inv_make I.tbl _ _ false) (by omega:N≤N+2)|>.more (Nat.le_refl _)) hF o _
 split
 ·exact hF
 ·exact vY I hF o _
theorem jL(I:Inv N d)(hF:Full d)(o:Int)(p:OpD):Full (do_ d o p).2:=by
 unfold do_
 split
 ·exact hF
 split
 ·exact El I hF o p
 split
 ·unfold handled
  split
  ·exact hF
  split
  ·exact ew hF
  split
  ·exact hF
  split
  ·exact hF
  split
  ·exact hF
  ·exact hF
 split
 ·exact hF
 ·exact hF
theorem sU{P:Int→Prop}{h:List (Int×List Int)}{l:List Int}(hh: ∀ p∈h,P p.1)(ho:P o): ∀ p∈put h o l,P p.1:=fun p hp=>by
 rcases mem_ins.1 hp with rfl|hp
 ·exact ho
 ·exact hh p (lbHz.1 hp).1
theorem vZ{P:Int→Prop}{h:List (Int×List Int)}{l:List Int}(hh: ∀ p∈h,P p.1)(ho:P o): ∀ p∈shut h o l,P p.1:=fun p hp=>by
 unfold shut at hp
 split at hp
 ·exact sU hh ho p (lbHz.1 hp).1
 ·exact sU hh ho p hp
theorem v7{P:Int→Prop}(hh: ∀ p∈d.h,P p.1)(ho:P o)(id:Int): ∀ p∈(gives d o id).2.h,P p.1:=by
 unfold gives
 split
 ·exact sU hh ho
 ·exact hh
theorem nz{P:Int→Prop}(hh: ∀ p∈d.h,P p.1)(ho:P o)(q:OpD): ∀ p∈(do_ d o q).2.h,P p.1:=by
 unfold do_
 split
 ·exact hh
 split
 ·unfold opens
  split
  ·exact hh
  split
  ·exact hh
  split
  ·split
   ·exact hh
   ·exact v7 (d:=⟨(In.make d.t (at_ d q.path).1.1 (at_ d q.path).1.2 false).2.2,d.h⟩) hh ho _
  split
  ·exact hh
  ·exact v7 hh ho _
 split
 ·unfold handled
  split
  ·exact hh
  split
  ·exact vZ hh ho
  split
  ·exact hh
  split
  ·exact hh
  split
  ·exact hh
  ·exact hh
 split
 ·exact hh
 ·exact hh
theorem v8{P:Int→Prop}(ho:P o): ∀ (l:List Int) (n:Nat) (d:FsD),(∀ p∈d.h,P p.1)→ ∀ p∈(exitL o l n d).h,P p.1
 |[],_,_,h=>h
 |i::r,n,d,h=>by
  unfold exitL
  refine v8 ho r (n+1) _ ?_
  split
  ·exact vZ h ho
  ·exact h
theorem v_(o:Int): ∀ (l:List Int) (n:Nat) (d:FsD),(∀ i∈l,i=0)→exitL o l n d=d
 |[],_,_,_=>rfl
 |i::r,n,d,h=>by
  unfold exitL
  rw[if_neg (by rw[h i (.head _)];simp)]
  exact v_ o r (n+1) d fun j hj=>h j (.tail _ hj)
theorem Em(ho:o∉af d):exit d o=d:=by
 unfold exit
 rw[jK ho]
 exact v_ o _ 0 d (by decide)
theorem wb(o:Int): ∀ (l:List Int) (n:Nat) (d:FsD),Full d→Full (exitL o l n d)
 |[],_,_,h=>h
 |i::r,n,d,h=>by
  unfold exitL
  refine wb o r (n+1) _ ?_
  split
  ·exact ew h
  ·exact h
theorem cr(hF:Full d)(o:Int):Full (exit d o):=wb o _ 0 d hF
theorem we(o:Int): ∀ (l:List Int) (n:Nat) (d:FsD),n+l.length=9→hOf d.h o=List.replicate n 0++l→hOf (exitL o l n d).h o=z9
 |[],n,d,hn,h=>by
  unfold exitL
  rw[h]
  simp only[lcGz] at hn
  obtain rfl:n=9:=by omega
  rfl
 |i::r,n,d,hn,h=>by
  rw[laPz] at hn
  have hs:List.replicate (n+1) (0:Int)++r=(List.replicate n 0++i::r).set n 0:=by
   rw[List.set_append_right _ _ (by simp)]
   simp[List.replicate_succ']
  unfold exitL
  refine we o r (n+1) _ (by omega) ?_
  split
  ·unfold closes
   simp only
   rw[bA,if_pos rfl,h,hs]
  ·rename_i hi
   have:i=0:=Decidable.not_not.1 hi
   rw[h,this]
   simp[List.replicate_succ']
theorem iu(I:Inv N d)(o:Int):hOf (exit d o).h o=z9:=we o _ 0 d (by rw[(hOf_row I o).1]) (by simp)
theorem En(I:Inv N d)(hF:Full d)(o:Int):o∉af (exit d o):=fun h=>ir (cr hF o) h (iu I o)
theorem eS{q:Int}(h:q∈af (exit d o)):q∈af d:=by
 by_cases ho:o∈af d
 ·obtain⟨p,hp,rfl⟩:=laKz.1 h
  exact v8 (P:=fun q=>q∈af d) ho _ 0 d (fun p hp=>laKz.2 ⟨p,hp,rfl⟩) p hp
 ·rwa [Em ho] at h
theorem Eo(h: ∀ q,q∉af d):af d=[]:=List.eq_nil_iff_forall_not_mem.2 h
theorem gw: ∀ (l:List Int) (d:FsD),Inv N d→Full d→(∀ q∈af d,q∈l)→af (l.foldl exit d)=[]
 |[],d,_,_,h=>Eo fun q hq=>by cases h q hq
 |o::r,d,I,hF,h=>by
  rw[ldKz]
  refine gw r _ (bP I o) (cr hF o) fun q hq=> ?_
  rcases laBz.1 (h q (eS hq)) with rfl|h1
  ·exact absurd hq (En I hF q)
  ·exact h1
theorem pH{o:Int}{p:OpD}(hk:p.kind=2∨p.kind=11):(do_ d o p).2.h=d.h:=by
 unfold do_
 split
 ·rfl
 split
 ·exfalso;omega
 split
 ·exfalso;omega
 split
 ·rfl
 ·rfl
end
end Fs
namespace Ol
section
variable {N:Nat}{d:FsD}{D:ar}{o:Int}{p:OpD}
theorem cF(I:Fs.Inv N d)(hF:Fs.Full d):Fs.af (aY d)=[]:=Fs.gw _ d I hF fun _ h=>h
theorem Ep(d:FsD)(x:ah):(aw d x).h=d.h:=by
 unfold aw
 split
 ·refine Fs.pH ?_
  show(if x.dir then(2:Int) else 11)=2∨(if x.dir then(2:Int) else 11)=11
  split<;> simp
 ·rfl
theorem ey(d:FsD):(ay d).h=d.h:=by
 unfold ay
 generalize (Fs.files d).reverse=l
 induction l generalizing d with
 |nil=>rfl
 |cons x r ih=>rw[ldKz,ih,Ep]
theorem zip(I:aH N d)(hF:Fs.Full d)(l:a_):Fs.Full (again d l):=by
 obtain⟨o,_|p⟩:=l
 ·exact Fs.cr hF o
 ·exact Fs.jL I.inv hF o p
theorem xp: ∀ (l:List a_) {N:Nat} {d:FsD},(∀ x∈l,fF x)→aH N d→N+3*l.length≤999999990→Fs.Full d→Fs.Full (replay d l)
 |[],_,_,_,_,_,h=>h
 |x::r,N,d,hl,I,hN,h=>by
  rw[laPz] at hN
  exact xp r (fun y hy=>hl y (.tail _ hy)) (cE I (by omega) (hl x (.head _))) (by omega) (zip I h x)
structure Good (D:ar):Prop where
 now:Fs.Full D.now
 base:Fs.Full D.base
 is:D.now=replay D.base D.log
theorem k_(q:Int):Good (new q):=⟨nofun,nofun,rfl⟩
theorem Er(h:Good D):Good (sync D):=⟨h.now,h.now,rfl⟩
theorem Es(I:Inv N D)(h:Good D):Good (aO D o p):=by
 refine⟨Fs.jL I.now.inv h.now o p,h.base, ?_⟩
 by_cases hl:eo (Fs.do_ D.now o p).1 p
 ·show(Fs.do_ D.now o p).2=replay D.base (aO D o p).log
  rw[Ej hl,cX,←h.is]
  rfl
 ·show(Fs.do_ D.now o p).2=replay D.base (aO D o p).log
  rw[Ei hl,Fs.stays I.now.inv o p hl]
  exact h.is
theorem lZ(I:Inv N D)(h:Good D):Good (do_ D o p).2:=by
 unfold do_
 split
 ·exact Er h
 ·exact Es I h
theorem gx(h:Good D):Good (exit D o):=by
 unfold exit
 split
 ·exact⟨Fs.cr h.now o,h.base,by show Fs.exit D.now o=replay D.base (D.log++[(o,none)]);rw[cX,←h.is];rfl⟩
 ·exact h
theorem wg(I:Inv N D)(h:Good D)(hN:N≤999999990)(k:Int):Fs.Full (aW D k):=by
 obtain⟨K,h1,h2⟩:=I.base
 have h3:=rD D k
 have hr:=xp (D.log.take (max 0 (min k D.log.length)).toNat) (fun x hx=>I.ok x (lcIz hx)) h1 (by omega) h.base
 have hf:=yB (D.log.take (max 0 (min k D.log.length)).toNat) (fun x hx=>I.ok x (lcIz hx)) h1 (by omega)
 unfold Fs.Full aW
 rw[ey]
 have:Fs.af (aY (replay D.base (D.log.take (max 0 (min k D.log.length)).toNat)))=[]:=cF hf.inv hr
 intro p hp
 have h4:p.1∈Fs.af (aY (replay D.base (D.log.take (max 0 (min k D.log.length)).toNat))):=laKz.2 ⟨p,hp,rfl⟩
 rw[this] at h4
 cases h4
theorem jj(I:Inv N D)(h:Good D)(hN:N≤999999990)(k:Int):Fs.af (aW D k)=[]:=by
 obtain⟨K,h1,h2⟩:=I.base
 have h3:=rD D k
 have hr:=xp (D.log.take (max 0 (min k D.log.length)).toNat) (fun x hx=>I.ok x (lcIz hx)) h1 (by omega) h.base
 have hf:=yB (D.log.take (max 0 (min k D.log.length)).toNat) (fun x hx=>I.ok x (lcIz hx)) h1 (by omega)
 have:Fs.af (aY (replay D.base (D.log.take (max 0 (min k D.log.length)).toNat)))=[]:=cF hf.inv hr
 unfold Fs.af aW at*
 rw[ey]
 exact this
theorem lb(I:Inv N D)(h:Good D)(hN:N≤999999990)(k:Int):Good (cut D k):=⟨wg I h hN k,wg I h hN k,rfl⟩
theorem kb{q:Int}(h:q∈Fs.af (do_ D o p).2.now):q∈Fs.af D.now∨q=o:=by
 unfold do_ at h
 split at h
 ·exact .inl h
 ·obtain⟨x,hx,rfl⟩:=laKz.1 h
  exact Fs.nz (P:=fun q=>q∈Fs.af D.now∨q=o) (fun x hx=> .inl (laKz.2 ⟨x,hx,rfl⟩)) (.inr rfl) p x hx
theorem dP{q:Int}(h:q∈Fs.af (exit D o).now):q∈Fs.af D.now:=by
 unfold exit at h
 split at h
 ·exact Fs.eS h
 ·exact h
end
end Ol
end
section
theorem yt{α β:Type}{f g:α→List β}: ∀ {l:List α},(∀ a∈l,f a=g a)→l.flatMap f=l.flatMap g
 |[],_=>rfl
 |a::r,h=>by rw[laOz,laOz,h a (.head _),yt fun b hb=>h b (.tail _ hb)]
theorem YM{α β:Type}(p:α→Bool)(f:α→List β): ∀ l:List α,(l.filter p).flatMap f=l.flatMap fun a=>if p a=true then f a else []
 |[]=>rfl
 |a::r=>by
  rw[lbNz,laOz]
  split
  ·rw[laOz,YM p f r]
  ·rw[YM p f r];rfl
namespace In
def go(t:TabD):Int→List ByteArray→Int
 |id,[]=>id
 |id,s::r=>go t (leads (at_ t id).names s) r
section
variable {N:Nat}{t t' jF:TabD}
theorem dq(I:Inv N t){c:Int}{n:NodeD}(h:find t.nodes c=some n):1≤c∧c≤t.last:=by
 obtain⟨h1,rfl⟩:=find_some h
 exact I.pos n h1
theorem Et(I:Inv N t):(at_ t 0).names=[]:=by
 cases h:(at_ t 0).names with
 |nil=>rfl
 |cons p r=>
  have:=dq I (an (t:=t) (id:=0) (p:=p) (by rw[h];exact .head _))
  omega
theorem go_zero(I:Inv N t): ∀ q,go t 0 q=0
 |[]=>rfl
 |s::r=>by
  unfold go
  rw[Et I]
  exact go_zero I r
theorem sV: ∀ (a:List ByteArray) (id:Int) (b:List ByteArray),go t id (a++b)=go t (go t id a) b
 |[],_,_=>rfl
 |s::r,id,b=>by
  show go t (leads (at_ t id).names s) (r++b)=go t (go t (leads (at_ t id).names s) r) b
  exact sV r _ b
theorem go_snoc(id:Int)(q:List ByteArray)(s:ByteArray):go t id (q++[s])=leads (at_ t (go t id q)).names s:=by
 rw[sV]
 rfl
theorem leads_mem{id:Int}{s:ByteArray}(h:leads (at_ t id).names s≠0):(s,leads (at_ t id).names s)∈(at_ t id).names:=leads_some h
theorem sW(I:Inv N t)(id:Int):nameSorted (at_ t id).names:=by
 by_cases h:(at_ t id).names=[]
 ·rw[h];exact List.Pairwise.nil
 ·obtain⟨p,hp⟩:=List.exists_mem_of_ne_nil _ h
  exact I.sorted _ (find_some (an hp)).1
theorem bB(I:Inv N t){id:Int}{p:ByteArray×Int}(hp:p∈(at_ t id).names):leads (at_ t id).names p.1=p.2:=leads_at (sW I id) hp
theorem dQ(I:Inv N t){id:Int}{p:ByteArray×Int}(hp:p∈(at_ t id).names):p.2≠0:=YH I (find_some (an hp)).1 p hp
theorem Eu(I:Inv N t){id:Int}{p:ByteArray×Int}(hp:p∈(at_ t id).names): ∃ n,find t.nodes p.2=some n:=I.leads _ (find_some (an hp)).1 p hp
theorem go_there(I:Inv N t){q:List ByteArray}(h:go t 1 q≠0): ∃ n,find t.nodes (go t 1 q)=some n:=by
 rcases lcDz q with rfl|⟨r,s,rfl⟩
 ·obtain⟨n,h1,-⟩:=I.root
  exact⟨n,h1⟩
 ·rw[lcEz] at h ⊢
  rw[go_snoc] at h ⊢
  exact Eu I (leads_mem h)
theorem go_front(I:Inv N t){a b:List ByteArray}(h:go t 1 (a++b)≠0):go t 1 a≠0:=fun e=>by
 rw[sV,e,go_zero I] at h
 exact h rfl
theorem cu(I:Inv N t){id:Int}(h:(at_ t id).names≠[]):(at_ t id).dir=true:=by
 obtain⟨p,hp⟩:=List.exists_mem_of_ne_nil _ h
 cases hd:(at_ t id).dir with
 |true=>rfl
 |false=>exact absurd (I.files _ (find_some (an hp)).1 hd) h
theorem iv(I:Inv N t){q:List ByteArray}{s:ByteArray}(h:go t 1 (q++[s])≠0):(at_ t (go t 1 q)).dir=true:=by
 rw[go_snoc] at h
 exact cu I fun e=>by rw[e] at h;exact h rfl
theorem wh(I:Inv N t)(a:Int)(s:ByteArray):leads (at_ t a).names s≠1:=fun e=>by
 obtain⟨r,h1,h2⟩:=I.root
 obtain⟨rm,ri⟩:=find_some h1
 have hl:=I.links r rm
 have ha:=(I.alive r rm (by omega)).2 h2
 have hm:=leads_mem (t:=t) (id:=a) (s:=s) (by omega)
 rw[e] at hm
 have hf:=(find_some (an hm)).1
 have k1:0<cntN (at_ t a).names 1:=ldAz.2 ⟨_,hm,by simp⟩
 have k2:cntN (at_ t a).names 1≤cnt t.nodes 1:=le_sum (f:=fun n=>cntN n.names 1) hf
 rw[ri] at hl
 have h3:rootI 1=1:=rfl
 omega
theorem Ev(I:Inv N t){a D:Int}{s s':ByteArray}(h1:leads (at_ t a).names s=D)(h2:leads (at_ t a).names s'=D)(h0:D≠0)(hd:(at_ t D).dir=true):s=s':=by
 by_cases he:s=s'
 ·exact he
 ·have k:=(YK (sW I a) (s:=s) (by omega) D).1
  rw[h1] at k
  have hm:=leads_mem (t:=t) (id:=a) (s:=s') (by omega)
  rw[h2] at hm
  have k1:0<cntN (without (at_ t a).names s) D:=ldAz.2 ⟨_,Zo.2 ⟨hm,fun e=>he e.symm⟩,by simp⟩
  have k2:cntN (at_ t a).names D≤cnt t.nodes D:=le_sum (f:=fun n=>cntN n.names D) (find_some (an hm)).1
  have k3:=sL I (bK hd) hd
  have k4:one (D==D)=1:=by simp[one]
  omega
theorem iw(I:Inv N t): ∀ (n:Nat) {q r:List ByteArray},q.length=n→go t 1 q=go t 1 r→go t 1 q≠0→(at_ t (go t 1 q)).dir=true→q=r:=by
 intro n
 induction n with
 |zero=>
  intro q r hn he h0 hd
  obtain rfl:=lbWz.1 hn
  rcases lcDz r with rfl|⟨r,s,rfl⟩
  ·rfl
  ·rw[lcEz,go_snoc] at he
   exact absurd he.symm (wh I _ _)
 |succ n ih=>
  intro q r hn he h0 hd
  rcases lcDz q with rfl|⟨q,s,rfl⟩
  ·cases hn
  rw[lcEz] at hn he h0 hd ⊢
  rcases lcDz r with rfl|⟨r,s',rfl⟩
  ·rw[go_snoc] at he
   exact absurd he (wh I _ _)
  rw[lcEz] at he ⊢
  have Ew:q.length=n:=by simpa using hn
  have h1:go t 1 q≠0:=go_front I h0
  rw[go_snoc] at h0 hd
  rw[go_snoc,go_snoc] at he
  have m1:=leads_mem h0
  have m2:=leads_mem (t:=t) (id:=go t 1 r) (s:=s') (by rw[←he];exact h0)
  rw[←he] at m2
  have p1:leads (at_ t (go t 1 q)).names s∈aM t (go t 1 q):=ZZ.2 ⟨_,m1,rfl,hd⟩
  have p2:leads (at_ t (go t 1 q)).names s∈aM t (go t 1 r):=ZZ.2 ⟨_,m2,rfl,hd⟩
  have e:=XD I p1 p2
  have hq:=ih Ew e h1 (cu I fun e=>by rw[e] at m1;cases m1)
  subst hq
  rw[Ev I (s:=s) (s':=s') rfl he.symm h0 hd]
theorem depth(I:Inv N t)(U:Up t): ∀ (n:Nat) {q:List ByteArray},q.length=n→go t 1 q≠0→(at_ t (go t 1 q)).dir=true→(n:Int)+1≤go t 1 q:=by
 intro n
 induction n with
 |zero=>
  intro q hn _ _
  obtain rfl:=lbWz.1 hn
  show((0:Nat):Int)+1≤1
  decide
 |succ n ih=>
  intro q hn h0 hd
  rcases lcDz q with rfl|⟨q,s,rfl⟩
  ·cases hn
  rw[lcEz] at hn h0 hd ⊢
  have h1:=ih (q:=q) (by simpa using hn) (go_front I h0) (iv I h0)
  rw[go_snoc] at h0 hd ⊢
  have:=rz U (ZZ.2 ⟨_,leads_mem h0,rfl,hd⟩)
  omega
/-! ### the tree -/
def tree(t:TabD):Nat→Int→List ByteArray→List (List ByteArray×Int)
 |0,_,_=>[]
 |k+1,id,pre=>(at_ t id).names.flatMap fun p=>(pre++[p.1],p.2)::tree t k p.2 (pre++[p.1])
theorem sX{id:Int}(h:(at_ t id).names=[])(k:Nat)(pre:List ByteArray):tree t k id pre=[]:=by
 cases k with
 |zero=>rfl
 |succ k=>unfold tree;rw[h];rfl
theorem dR(I:Inv N t): ∀ (k:Nat) (id:Int) (pre:List ByteArray) (e:List ByteArray×Int),e∈tree t k id pre→ ∃ nl,nl≠[]∧e.1=pre++nl∧go t id nl=e.2∧e.2≠0
 |0,_,_,_,h=>by cases h
 |k+1,id,pre,e,h=>by
  unfold tree at h
  obtain⟨p,hp,he⟩:=laZz.1 h
  have hl:=bB I hp
  rcases laBz.1 he with rfl|he
  ·exact⟨[p.1],by simp,rfl,hl,dQ I hp⟩
  ·obtain⟨nl,-,h2,h3,h4⟩:=dR I k _ _ e he
   refine⟨p.1::nl,by simp,by rw[h2];simp, ?_,h4⟩
   unfold go
   rw[hl]
   exact h3
theorem ix(I:Inv N t): ∀ (k:Nat) (id:Int) (pre nl:List ByteArray),nl≠[]→nl.length≤k→go t id nl≠0→(pre++nl,go t id nl)∈tree t k id pre
 |0,_,_,nl,h,hk,_=>absurd (lbWz.1 (Nat.le_zero.1 hk)) h
 |k+1,id,pre,nl,h,hk,h0=>by
  cases nl with
  |nil=>exact absurd rfl h
  |cons s r=>
   have hs:leads (at_ t id).names s≠0:=fun e=>by
    unfold go at h0
    rw[e,go_zero I] at h0
    exact h0 rfl
   unfold tree
   refine laZz.2 ⟨_,leads_mem hs, ?_⟩
   cases r with
   |nil=>exact .head _
   |cons s' r'=>
    refine .tail _ ?_
    have:=ix I k (leads (at_ t id).names s) (pre++[s]) (s'::r') (by simp) (by simpa using hk) h0
    rw[lcAz] at this
    exact this
theorem fI(I:Inv N t): ∀ (k:Nat) (id:Int) (pre:List ByteArray),(tree t k id pre).Pairwise fun a b=>¬b.1 <+: a.1
 |0,_,_=>List.Pairwise.nil
 |k+1,id,pre=>by
  unfold tree
  rw[List.pairwise_flatMap]
  refine⟨fun p hp=> ?_, ?_⟩
  ·rw[laVz]
   refine⟨fun b hb=> ?_,fI I k _ _⟩
   obtain⟨nl,h1,h2,-,-⟩:=dR I k _ _ b hb
   intro l3
   have:=l3.length_le
   rw[h2,laNz] at this
   simp only at this
   have:nl.length≠0:=fun e=>h1 (lbWz.1 e)
   omega
  ·refine List.Pairwise.imp_of_mem (R:=fun (p q:ByteArray×Int)=>before p.1 q.1=true) (fun {p q} hp hq wi a ha b hb=> ?_) (sW I id)
   have hne:q.1≠p.1:=fun e=>by rw[e,before_irrefl] at wi;cases wi
   have hf: ∀ (x:ByteArray×Int) (c:List ByteArray×Int),c∈((pre++[x.1],x.2)::tree t k x.2 (pre++[x.1]))→(pre++[x.1]) <+: c.1:=fun x c hc=>by
    rcases laBz.1 hc with rfl|hc
    ·exact List.prefix_refl _
    ·obtain⟨nl,-,h2,-,-⟩:=dR I k _ _ c hc
     rw[h2]
     exact List.prefix_append _ _
   intro rF
   obtain⟨r1,h1⟩:=hf p a ha
   obtain⟨r2,h2⟩:=(hf q b hb).trans rF
   rw[←h1,lcAz,lcAz] at h2
   have h3:=List.append_cancel_left h2
   simp only[lcSz,List.cons.injEq] at h3
   exact hne h3.1
theorem fJ(h: ∀ c,(at_ t' c).names=(at_ t c).names): ∀ (k:Nat) (id:Int) (pre:List ByteArray),tree t' k id pre=tree t k id pre
 |0,_,_=>rfl
 |k+1,id,pre=>by
  unfold tree
  rw[h]
  congr 1
  funext p
  rw[fJ h k]
theorem iy(I:Inv N t){D:Int}{s:ByteArray}{PD:List ByteArray}(hP:go t 1 PD=D)(h0:D≠0)(hd:(at_ t D).dir=true)(hc:(at_ t (leads (at_ t D).names s)).names=[])
  (hne: ∀ c,c≠D→(at_ t' c).names=(at_ t c).names) (hD:(at_ t' D).names=without (at_ t D).names s): ∀ (k:Nat) (id:Int) (pre:List ByteArray),go t 1 pre=id→id≠0→tree t' k id pre=(tree t k id pre).filter fun e=>decide (e.1≠PD++[s])
 |0,_,_,_,_=>rfl
 |k+1,id,pre,hid,hi0=>by
  have step: ∀ p∈(at_ t id).names,tree t' k p.2 (pre++[p.1])=(tree t k p.2 (pre++[p.1])).filter fun e=>decide (e.1≠PD++[s]):=fun p hp=>by
   refine iy I hP h0 hd hc hne hD k p.2 (pre++[p.1]) ?_ (dQ I hp)
   rw[go_snoc,hid]
   exact bB I hp
  by_cases nA:id=D
  ·have l3:pre=PD:=iw I _ rfl (by rw[hid,hP,nA]) (by rw[hid];exact hi0) (by rw[hid,nA];exact hd)
   unfold tree
   rw[List.filter_flatMap,nA,hD]
   unfold without
   rw[YM]
   refine yt fun p hp=> ?_
   rw[←nA] at hp
   by_cases hs:p.1=s
   ·have hsm:same p.1 s=true:=same_iff.2 hs
    rw[hsm]
    have e:p.2=leads (at_ t D).names s:=by rw[←hs,←nA];exact(bB I hp).symm
    rw[if_neg (by simp),lbNz,if_neg (by rw[hs,l3];simp),e,sX hc]
    rfl
   ·have hsm:same p.1 s=false:=by
     cases h:same p.1 s
     ·rfl
     ·exact absurd (same_iff.1 h) hs
    rw[hsm,if_pos (by simp),lbNz,if_pos,step p hp]
    simp only[ne_eq,decide_eq_true_eq]
    intro e
    rw[l3] at e
    have:=List.append_cancel_left e
    simp only[List.cons.injEq,and_true] at this
    exact hs this
  ·unfold tree
   rw[List.filter_flatMap,hne id nA]
   refine yt fun p hp=> ?_
   rw[lbNz,if_pos,step p hp]
   simp only[ne_eq,decide_eq_true_eq]
   intro e
   have e2:pre=PD:=(List.append_inj' e rfl).1
   exact nA (by rw[←hid,e2,hP])
/-! ### what is turned -/
def jM(t t':TabD):Prop:= ∀ c n',find t'.nodes c=some n'→ ∃ n,find t.nodes c=some n∧n'.dir=n.dir∧n'.data=n.data
theorem jM.refl(t:TabD):jM t t:=fun _ n h=>⟨n,h,rfl,rfl⟩
theorem jM.trans(h:jM t t')(h':jM t' jF):jM t jF:=fun c n hn=>by
 obtain⟨m,a1,a2,a3⟩:=h' c n hn
 obtain⟨o,b1,b2,b3⟩:=h c m a1
 exact⟨o,b1,a2.trans b2,a3.trans b3⟩
theorem sY(f:NodeD→NodeD)(hi: ∀ m,(f m).id=m.id)(hd: ∀ m,(f m).dir=m.dir)(hb: ∀ m,(f m).data=m.data)(k:Int):jM t (setN t (f (at_ t k))):=fun c n' h=>by
 have h':find (set t.nodes (f (at_ t k))) c=some n':=h
 rw[xC] at h'
 cases hf:find t.nodes c with
 |none=>rw[hf] at h';cases h'
 |some m=>
  rw[hf] at h'
  have h2:(if m.id==(f (at_ t k)).id then f (at_ t k) else m)=n':=by simpa using h'
  split at h2
  ·rename_i he
   subst h2
   have e1:m.id=k:=by
    have:m.id=(f (at_ t k)).id:=by simpa using he
    rw[this,hi,nr]
   have e2:c=k:=(find_some hf).2.symm.trans e1
   subst e2
   rw[at_some hf]
   exact⟨m,rfl,hd m,hb m⟩
  ·subst h2
   exact⟨m,rfl,rfl,rfl⟩
theorem wj(k:Int):jM t (gone t k):=fun c n' h=>by
 obtain⟨m,h1,-,-⟩:=sK k c n' h
 refine⟨m,h1, ?_⟩
 by_cases hc:c=k
 ·subst hc
  unfold gone at h
  split at h
  ·exfalso
   have h':find (del t.nodes c) c=some n':=h
   unfold find del at h'
   rw[lcZz] at h'
   have:=lcOz h'
   simp at this
  ·rw[h] at h1;cases h1;exact⟨rfl,rfl⟩
 ·rw[YQ hc,h1] at h
  cases h
  exact⟨rfl,rfl⟩
theorem kc(dir:Int)(s:ByteArray):jM t (loses t dir s):=((sY (fun m=>m.setNames (without m.names s)) (fun _=>rfl) (fun _=>rfl) (fun _=>rfl) dir).trans (sY (fun m=>m.setLinks (m.links - 1)) (fun _=>rfl) (fun _=>rfl) (fun _=>rfl) _)).trans (wj _)
theorem ld(k:Int):jM t (drop t k).2:=by
 unfold drop
 split
 ·exact(sY (fun m=>m.setHolds (m.holds - 1)) (fun _=>rfl) (fun _=>rfl) (fun _=>rfl) k).trans (wj k)
 ·exact jM.refl t
theorem jM.at_(h:jM t t'){c:Int}{n':NodeD}(hn:find t'.nodes c=some n'):(In.at_ t' c).dir=(In.at_ t c).dir∧(In.at_ t' c).data=(In.at_ t c).data:=by
 obtain⟨n,h1,h2,h3⟩:=h c n' hn
 rw[at_some hn,at_some h1]
 exact⟨h2,h3⟩
theorem go_less(I:Inv N t){M:Nat}(I':Inv M t')(hl:aD t t'): ∀ (q:List ByteArray) (id:Int),go t' id q≠0→go t id q=go t' id q
 |[],_,_=>rfl
 |s::r,id,h=>by
  unfold go at h ⊢
  have hs:leads (at_ t' id).names s≠0:=fun e=>by rw[e,go_zero I'] at h;exact h rfl
  have hm:=leads_mem hs
  obtain⟨m,h1,-,h2⟩:=hl id _ (an hm)
  have h3:=h2 _ hm
  have e:leads (at_ t id).names s=leads (at_ t' id).names s:=by
   have h4:(s,leads (at_ t' id).names s)∈(at_ t id).names:=by rw[at_some h1];exact h3
   exact bB I h4
  rw[e]
  exact go_less I I' hl r _ h
end
end In
namespace Fs
section
variable {N:Nat}{d:FsD}
theorem wk{t:TabD}: ∀ (l:List ByteArray) (id:Int),(walkL t id l).2=0→In.go t id l=(walkL t id l).1
 |[],_,_=>rfl
 |s::r,id,h=>by
  unfold walkL at h ⊢
  unfold In.go
  split
  ·rename_i h0
   rw[if_pos h0] at h
   obtain⟨d,h1,-,-,h2⟩:=In.findE_ok h0
   have e:In.leads (In.at_ t id).names s=In.findN t id s:=by rw[In.at_some h1,h2]
   rw[e]
   exact wk r _ h
  ·rename_i h0
   rw[if_neg h0] at h
   exact absurd h h0
theorem gy{s:ByteArray}(h:Pt.aA s):In.isName s=true:=by
 obtain⟨h1,h2⟩:=h
 unfold Pt.isName at h1
 simp only[Bool.and_eq_true,decide_eq_true_eq,Bool.not_eq_true'] at h1
 obtain⟨⟨⟨⟨a1,a2⟩,a3⟩,a4⟩,a5⟩:=h1
 have h0: ∀ l:List UInt8,Lib.indexByte l 0<0→(0:UInt8)∉l:=fun l=>by
  induction l with
  |nil=>intro _;simp
  |cons b l ih=>
   intro h hm
   unfold Lib.indexByte at h
   rcases laBz.1 hm with e|hm
   ·subst e;simp at h
   ·split at h
    ·omega
    ·split at h
     ·rename_i hz
      exact ih (by have:=Lib.indexByte_ge l 0;first|omega|(simp at hz;omega)) hm
     ·have:=Lib.indexByte_ge l 0
      first|omega|exact ih (by omega) hm
 have Ex:=h0 _ a5
 unfold In.isName
 rw[a1,a2,decide_eq_true a3,decide_eq_true a4]
 have:(s.data.toList.any fun c=>c==0||c==47)=false:=by
  rw[List.any_eq_false]
  intro c hc
  simp only[Bool.or_eq_true,beq_iff_eq,not_or]
  exact⟨fun e=>Ex (e▸hc),fun e=>h2 (e▸hc)⟩
 rw[this]
 rfl
theorem wm{t:TabD}(I:In.Inv N t){id:Int}{s:ByteArray}(hs:Pt.aA s)(h:In.leads (In.at_ t id).names s≠0):In.findE t id s=0∧In.findN t id s=In.leads (In.at_ t id).names s:=by
 have hm:=In.leads_mem h
 have hf:=In.an hm
 have hd:=In.cu I (id:=id) (fun e=>by rw[e] at hm;cases hm)
 have hg:In.getE t id true=0:=by
  unfold In.getE
  rw[hf]
  simp[hd]
 have hp:In.placeE t id s=0:=by
  unfold In.placeE
  rw[hg,gy hs]
  rfl
 have hE:In.findE t id s=0:=by
  unfold In.findE
  rw[hp]
  simp[h]
 refine⟨hE, ?_⟩
 unfold In.findN
 rw[hE]
 rfl
theorem wo{t:TabD}(I:In.Inv N t): ∀ (l:List ByteArray) (id:Int),(∀ s∈l,Pt.aA s)→In.go t id l≠0→walkL t id l=(In.go t id l,0)
 |[],_,_,_=>rfl
 |s::r,id,hn,h=>by
  unfold In.go at h ⊢
  have hs:In.leads (In.at_ t id).names s≠0:=fun e=>by rw[e,In.go_zero I] at h;exact h rfl
  obtain⟨h1,h2⟩:=wm I (hn s (.head _)) hs
  unfold walkL
  rw[if_pos h1,h2]
  exact wo I r _ (fun x hx=>hn x (.tail _ hx)) h
structure ao (t:TabD):Prop where
 names: ∀ d∈t.nodes,∀ p∈d.names,Pt.aA p.1
 paths: ∀ q:List ByteArray,q≠[]→In.go t 1 q≠0→Pt.oC q
theorem ao.at_{t:TabD}(h:ao t)(id:Int): ∀ p∈(In.at_ t id).names,Pt.aA p.1:=fun p hp=>h.names _ (In.find_some (In.an hp)).1 p hp
def fileOf(t:TabD)(e:List ByteArray×Int):ah:=⟨Pt.joined e.1,(In.at_ t e.2).dir,(In.at_ t e.2).data⟩
theorem YS{t:TabD}(L:ao t): ∀ (k:Nat) (id:Int) (pre:List ByteArray),(∀ s∈pre,Pt.aA s)→under t k id (Pt.joined pre)=(In.tree t k id pre).map (fileOf t)
 |0,_,_,_=>rfl
 |k+1,id,pre,hp=>by
  unfold under In.tree
  rw[List.map_flatMap]
  refine yt fun p hpm=> ?_
  have hn:=L.at_ id p hpm
  rw[laDz,Pt.ic hp hn,YS L k p.2 (pre++[p.1]) fun s hs=>by
   rcases laAz.1 hs with hs|hs
   ·exact hp s hs
   ·rcases laGz.1 hs with rfl;exact hn]
  rfl
def T(d:FsD):List (List ByteArray×Int):=In.tree d.t d.t.last.toNat 1 []
theorem dS(L:ao d.t):files d=(T d).map (fileOf d.t):=YS L _ 1 [] nofun
theorem iz(I:In.Inv N d.t){e:List ByteArray×Int}(h:e∈T d):e.1≠[]∧In.go d.t 1 e.1=e.2∧e.2≠0:=by
 obtain⟨nl,h1,h2,h3,h4⟩:=In.dR I _ _ _ e h
 rw[laJz] at h2
 rw[h2]
 exact⟨h1,h3,h4⟩
theorem wq{t t':TabD}(I:In.Inv N t')(hk:In.jM t t'){e:List ByteArray×Int}(h:In.go t' 1 e.1=e.2∧e.2≠0):fileOf t' e=fileOf t e:=by
 obtain⟨n,hn⟩:=In.go_there I (q:=e.1) (by rw[h.1];exact h.2)
 rw[h.1] at hn
 obtain⟨h1,h2⟩:=hk.at_ hn
 unfold fileOf
 rw[h1,h2]
end
end Fs
end
section
namespace In
def dT(k:Int)(s:ByteArray)(i:Int)(t t':TabD):Prop:= ∀ x m',find t'.nodes x=some m'→m'.names=[]∨ ∃ m,find t.nodes x=some m∧ ∀ p∈m'.names,p∈m.names∨(x=k∧p=(s,i))
section
variable {N:Nat}{t t' jF:TabD}{k i:Int}{s:ByteArray}
theorem dT.less(h:dT k s i t t')(h':aD t' jF):dT k s i t jF:=fun x m hm=>by
 obtain⟨m1,a1,-,a3⟩:=h' x m hm
 rcases h x m1 a1 with h1|⟨m2,b1,b2⟩
 ·left
  cases hn:m.names with
  |nil=>rfl
  |cons p r=>
   have:=a3 p (by rw[hn];exact .head _)
   rw[h1] at this
   cases this
 ·exact .inr ⟨m2,b1,fun p hp=>b2 p (a3 p hp)⟩
theorem aD.thenS(h:aD t t')(h':dT k s i t' jF):dT k s i t jF:=fun x m hm=>by
 rcases h' x m hm with h1|⟨m1,a1,a2⟩
 ·exact .inl h1
 ·obtain⟨m2,b1,-,b3⟩:=h x m1 a1
  exact .inr ⟨m2,b1,fun p hp=>(a2 p hp).imp (b3 p) fun h=>h⟩
theorem cG(dir:Int)(s:ByteArray)(id:Int):dT dir s id t (nameIn t dir s id):=fun x m' h=>by
 have h':find (set t.nodes ((at_ t dir).setNames (with_ (at_ t dir).names s id))) x=some m':=h
 rw[xC] at h'
 cases hf:find t.nodes x with
 |none=>rw[hf] at h';cases h'
 |some m=>
  rw[hf] at h'
  refine .inr ⟨m,rfl, ?_⟩
  have h2:(if m.id==((at_ t dir).setNames (with_ (at_ t dir).names s id)).id then(at_ t dir).setNames (with_ (at_ t dir).names s id) else m)=m':=by simpa using h'
  split at h2
  ·rename_i he
   have e1:m.id=dir:=by
    have:m.id=((at_ t dir).setNames (with_ (at_ t dir).names s id)).id:=by simpa using he
    exact this.trans (nr t dir)
   have e2:x=dir:=(find_some hf).2.symm.trans e1
   subst e2 h2
   intro p hp
   have hp':p∈with_ (at_ t x).names s id:=hp
   rcases Xq.1 hp' with rfl|hp'
   ·exact .inr ⟨rfl,rfl⟩
   ·rw[at_some hf] at hp'
    exact .inl (Zo.1 hp').1
  ·subst h2
   exact fun p hp=> .inl hp
theorem jk(I:Inv N t)(dir:Int)(s:ByteArray)(b:Bool):dT dir s (t.last+1) t (makeT t dir s b)∧(at_ (makeT t dir s b) (t.last+1)).names=[]:=by
 have hne: ∀ m∈(nameIn t dir s (t.last+1)).nodes,m.id≠(⟨t.last+1,b,1,0,ByteArray.empty,[]⟩:NodeD).id:=fun m hm=>by
  have hm':m∈set t.nodes ((at_ t dir).setNames (with_ (at_ t dir).names s (t.last+1))):=hm
  unfold set at hm'
  obtain⟨y,hy,e⟩:=laKz.1 hm'
  have hp:=(I.pos y hy).2
  have:m.id=y.id:=by
   rw[←e]
   split
   ·rename_i hh
    exact(by simpa using hh:y.id=_).symm
   ·rfl
  show m.id≠t.last+1
  omega
 have ry:=yD hne
 constructor
 ·intro x m hx
  have hx':find ((nameIn t dir s (t.last+1)).nodes++[⟨t.last+1,b,1,0,ByteArray.empty,[]⟩]) x=some m:=hx
  rw[ry] at hx'
  split at hx'
  ·cases hx'
   exact .inl rfl
  ·exact cG dir s (t.last+1) x m hx'
 ·have hx:find (makeT t dir s b).nodes (t.last+1)=some ⟨t.last+1,b,1,0,ByteArray.empty,[]⟩:=by
   show find ((nameIn t dir s (t.last+1)).nodes++[⟨t.last+1,b,1,0,ByteArray.empty,[]⟩]) (t.last+1)=_
   rw[ry,if_pos rfl]
  rw[at_some hx]
theorem go_come(I:Inv N t){M:Nat}(I':Inv M t')(h:dT k s i t t')(hi:(at_ t' i).names=[]): ∀ (n:Nat) (q:List ByteArray),q.length=n→go t' 1 q≠0→go t 1 q=go t' 1 q∨ ∃ r,q=r++[s]∧go t 1 r=k∧go t' 1 q=i:=by
 intro n
 induction n with
 |zero=>
  intro q hn _
  obtain rfl:=lbWz.1 hn
  exact .inl rfl
 |succ n ih=>
  intro q hn h0
  rcases lcDz q with rfl|⟨q,r,rfl⟩
  ·cases hn
  rw[lcEz] at hn h0 ⊢
  have hq:=ih q (by simpa using hn) (go_front I' h0)
  rw[go_snoc] at h0
  have hm:=leads_mem h0
  rcases hq with hq|⟨r',-,-,hq⟩
  ·rcases h _ _ (an hm) with h1|⟨m,h1,h2⟩
   ·rw[h1] at hm;cases hm
   ·rcases h2 _ hm with h3|⟨h3,h4⟩
    ·left
     rw[go_snoc,go_snoc,hq]
     have h5:(r,leads (at_ t' (go t' 1 q)).names r)∈(at_ t (go t' 1 q)).names:=by rw[at_some h1];exact h3
     exact bB I h5
    ·right
     simp only[Prod.mk.injEq] at h4
     exact⟨q,by rw[h4.1],by rw[hq,h3],by rw[go_snoc];exact h4.2⟩
  ·rw[hq,hi] at hm
   cases hm
end
end In
namespace Fs
section
variable {N M:Nat}{d:FsD}{t t':TabD}
theorem ZW(I:In.Inv N t)(I':In.Inv M t')(L:ao t)(h:In.aD t t'):ao t':=by
 refine⟨fun m hm p hp=> ?_,fun q hq h0=>L.paths q hq (by rw[In.go_less I I' h q 1 h0];exact h0)⟩
 obtain⟨m1,h1,-,h2⟩:=h m.id m (In.find_asc I'.asc hm)
 exact L.names m1 (In.find_some h1).1 p (h2 p hp)
theorem Xz(I:In.Inv N t)(I':In.Inv M t')(L:ao t){k i:Int}{s:ByteArray}(h:In.dT k s i t t')(hi:(In.at_ t' i).names=[])(hn: ∀ q,In.go t 1 q=k→Pt.oC (q++[s]))(hs:Pt.aA s):ao t':=by
 refine⟨fun m hm p hp=> ?_,fun q hq h0=> ?_⟩
 ·rcases h m.id m (In.find_asc I'.asc hm) with h1|⟨m1,h1,h2⟩
  ·rw[h1] at hp;cases hp
  ·rcases h2 p hp with h3|⟨-,rfl⟩
   ·exact L.names m1 (In.find_some h1).1 p h3
   ·exact hs
 ·rcases In.go_come I I' h hi _ q rfl h0 with h1|⟨r,rfl,h1,-⟩
  ·exact L.paths q hq (by rw[h1];exact h0)
  ·exact hn r h1
theorem sZ(I:In.Inv N d.t){p:ByteArray}(hp:Pt.isPath p=true)(hw:(at_ d p).2=0)(hd:(In.at_ d.t (at_ d p).1.1).dir=true):Pt.aA (at_ d p).1.2∧ ∀ q,In.go d.t 1 q=(at_ d p).1.1→Pt.oC (q++[(at_ d p).1.2]):=by
 obtain⟨q0,s0,-,h2,h3,h4,-⟩:=Pt.eP hp
 have hg:In.go d.t 1 q0=(at_ d p).1.1:=by
  have:=wk (t:=d.t) q0 1
  unfold at_ walk at hw ⊢
  rw[h2] at hw ⊢
  exact this hw
 have hs:(at_ d p).1.2=s0:=h3
 rw[hs]
 refine⟨h4.names s0 (by simp),fun q hq=> ?_⟩
 have h0:(at_ d p).1.1≠0:=fun e=>by
  rw[e] at hd
  have:=In.dq I (In.bK hd)
  omega
 have e:q=q0:=In.iw I _ rfl (by rw[hq,hg]) (by rw[hq];exact h0) (by rw[hq];exact hd)
 rw[e]
 exact h4
theorem wu(I:In.Inv N d.t)(L:ao d.t){p:ByteArray}(hp:Pt.isPath p=true)(hw:(at_ d p).2=0)(b:Bool):ao (In.make d.t (at_ d p).1.1 (at_ d p).1.2 b).2.2:=by
 have I':=In.inv_make I (at_ d p).1.1 (at_ d p).1.2 b
 unfold In.make at I' ⊢
 split
 ·rename_i he
  rw[if_pos he] at I'
  obtain⟨h1,-,-⟩:=In.makeE_ok (by simpa using he)
  obtain⟨D,hD,l4,-,-⟩:=In.emptyE_ok h1
  obtain⟨c1,c2⟩:=In.jk I (at_ d p).1.1 (at_ d p).1.2 b
  obtain⟨g1,g2⟩:=sZ I hp hw (by rw[In.at_some hD];exact l4)
  exact Xz I I' L c1 c2 g2 g1
 ·exact L
theorem wv(I':In.Inv M t'){k i:Int}(hc:In.eY k i t t'){c:Int}{n:NodeD}(hn:In.find t.nodes c=some n)(hd:n.dir=false):(In.at_ t' c).names=[]:=by
 cases hf:In.find t'.nodes c with
 |none=>unfold In.at_;rw[hf]
 |some m=>
  obtain⟨n1,h1,h2,-⟩:=hc c m hf
  rw[hn] at h1
  cases h1
  rw[In.at_some hf]
  exact I'.files m (In.find_some hf).1 (h2.trans hd)
theorem Ey(I:In.Inv N d.t)(L:ao d.t)(id:Int){p:ByteArray}(hp:Pt.isPath p=true)(hw:(at_ d p).2=0):ao (In.link d.t id (at_ d p).1.1 (at_ d p).1.2).2:=by
 have I':=In.inv_link I id (at_ d p).1.1 (at_ d p).1.2
 unfold In.link at I' ⊢
 split
 ·rename_i he
  rw[if_pos he] at I'
  have he':In.linkE d.t id (at_ d p).1.1 (at_ d p).1.2=0:=by simpa using he
  unfold In.linkE at he'
  split at he'
  ·rename_i h1
   obtain⟨n,hn,hnd⟩:=In.getE_ok (t:=d.t) (id:=id) (dir:=false) (by simpa using h1)
   obtain⟨D,hD,l4,-,-⟩:=In.emptyE_ok he'
   obtain⟨g1,g2⟩:=sZ I hp hw (by rw[In.at_some hD];exact l4)
   exact Xz I I' L ((In.cG _ _ id).less (In.cD id)) (wv I' (In.eY.less (In.bz (at_ d p).1.1 (at_ d p).1.2 id) (In.cD id)) hn hnd) g2 g1
  ·rename_i h1
   exact absurd (by simpa using he') h1
 ·exact L
theorem Ez(I:In.Inv N d.t)(L:ao d.t)(dir:Int)(s:ByteArray){p:ByteArray}(hp:Pt.isPath p=true)(hw:(at_ d p).2=0):ao (In.rename d.t dir s (at_ d p).1.1 (at_ d p).1.2).2:=by
 have I':=In.inv_rename I dir s (at_ d p).1.1 (at_ d p).1.2
 unfold In.rename at I' ⊢
 split
 ·rename_i he
  rw[if_pos he] at I'
  obtain⟨h1,h2,-⟩:=In.renameE_ok (t:=d.t) (dir:=dir) (s:=s) (tod:=(at_ d p).1.1) (as_:=(at_ d p).1.2) (by simpa using he)
  obtain⟨D,hD,l4,-⟩:=In.placeE_ok h2
  obtain⟨-,_,n,-,-,-,hN,hn,hnd⟩:=In.unlinkE_ok h1
  obtain⟨g1,g2⟩:=sZ I hp hw (by rw[In.at_some hD];exact l4)
  have key: ∀ t1,In.aD d.t t1→In.Inv (N+1) (In.renameIn t1 dir s (at_ d p).1.1 (at_ d p).1.2 (In.findN d.t dir s))→ao (In.renameIn t1 dir s (at_ d p).1.1 (at_ d p).1.2 (In.findN d.t dir s)):=fun t1 hl I2=>by
   refine Xz I I2 L ((hl.trans (In.bF dir s)).thenS (In.cG _ _ _)) ?_ g2 g1
   refine wv I2 ((hl.trans (In.bF dir s)).then (In.bz _ _ (In.findN d.t dir s))) (c:=In.findN d.t dir s) (n:=n) (by rw[hN];exact hn) hnd
  have I2:In.Inv (N+1) (In.renameT d.t dir s (at_ d p).1.1 (at_ d p).1.2):=I'
  show ao (In.renameT d.t dir s (at_ d p).1.1 (at_ d p).1.2)
  unfold In.renameT at I2 ⊢
  split
  ·exact L
  ·rename_i c1
   rw[if_neg c1] at I2
   split
   ·rename_i c2
    rw[if_pos c2] at I2
    exact key _ (In.aD.refl _) I2
   ·rename_i c2
    rw[if_neg c2] at I2
    exact key _ (In.bO _ _) I2
 ·exact L
theorem wD(I:Inv N d)(L:ao d.t)(o id:Int):ao (gives d o id).2.t:=by
 have:=ZW I.tbl (In.inv_hold I.tbl id) L (In.gr id)
 unfold gives
 split<;> exact this
theorem yO(I:Inv N d)(L:ao d.t)(o:Int)(n:Nat):ao (closes d o n).t:=ZW I.tbl (In.inv_drop I.tbl _) L (In.en _)
theorem iA (I : Inv N d) (L : ao d.t) (o : Int) (p : OpD) : ao (do_ d o p).2.t := by
  unfold do_
  split
  · exact L
  rename_i hr
  have hr : Pt.right p = true := by simpa using hr
  split
  · rename_i hk
    have hp : Pt.isPath p.path = true := by
      unfold Pt.right at hr
      rw [if_neg (by omega), if_pos (by omega)] at hr
      exact hr
    unfold opens
    split
    · exact L
    split
    · exact L
    rename_i hw
    have hw := Decidable.not_not.1 hw
    split
    · have hm := wu I.tbl L hp hw false
      split
      · exact hm
      · exact wD (d := ⟨(In.make d.t (at_ d p.path).1.1 (at_ d p.path).1.2 false).2.2, d.h⟩) (inv_tbl I (In.inv_make I.tbl _ _ false) (by omega : N ≤ N + 2)) hm o _
    split
    · exact L
    · exact wD I L o _
  split
  · unfold handled
    split
    · exact L
    split
    · exact yO I L o _
    split
    · exact L
    split
    · exact ZW I.tbl (In.inv_write I.tbl _ _ _) L (In.fD _ _ _)
    split
    · exact ZW I.tbl (In.inv_trunc I.tbl _ _) L (In.fE _ _)
    · exact L
  split
  · exact L
  rename_i n1 n2 n3
  show ao (named d p).2
  unfold named
  split
  · exact L
  rename_i hw
  have hw := Decidable.not_not.1 hw
  unfold namedAt
  split
  · rename_i hk
    have hp : Pt.isPath p.path = true := by
      unfold Pt.right at hr
      rw [if_neg (by omega), if_pos (by omega)] at hr
      exact hr
    exact wu I.tbl L hp hw true
  split
  · exact ZW I.tbl (In.inv_remove I.tbl _ _) L (In.eR _ _)
  split
  · exact ZW I.tbl (In.inv_unlink I.tbl _ _) L (In.eQ _ _)
  rename_i k1 k2 k3
  have hq : p.kind = 10 ∨ p.kind = 12 → Pt.isPath p.dest = true := fun hk => by
    unfold Pt.right at hr
    rw [if_neg (by omega), if_neg (by omega), if_pos (by omega)] at hr
    simp only [Bool.and_eq_true] at hr
    exact hr.2
  split
  · rename_i hk
    split
    · exact L
    split
    · exact L
    · rename_i hw2
      exact Ey I.tbl L _ (hq (.inl hk)) (Decidable.not_not.1 hw2)
  rename_i k4
  split
  · exact L
  · rename_i hw2
    have s6 : p.kind = 12 := by
      unfold Pt.right at hr
      rw [if_neg (by omega), if_neg (by omega)] at hr
      split at hr
      · omega
      · first
        | cases hr
        | (split at hr
           · omega
           · cases hr)
    exact Ez I.tbl L _ _ (hq (.inr s6)) (Decidable.not_not.1 hw2)
theorem xw(o:Int): ∀ (l:List Int) (n:Nat) (d:FsD) (N:Nat),Inv N d→ao d.t→(∀ j,l[j]? =(hOf d.h o)[n+j]?)→ao (exitL o l n d).t
 |[],_,_,_,_,L,_=>L
 |i::r,n,d,N,I,L,hl=>by
  unfold exitL
  have h0:=hl 0
  rw[lbPz,Nat.add_zero] at h0
  split
  ·rename_i hi
   refine xw o r (n+1) _ N (xA I (n:=n) (by rw[lbDz,←h0];exact hi)) (yO I L o n) fun j=> ?_
   have hj:=hl (j+1)
   rw[lbFz] at hj
   unfold closes
   simp only
   rw[bA,if_pos rfl,ldHz (by omega),hj]
   congr 1
   omega
  ·refine xw o r (n+1) _ N I L fun j=> ?_
   have hj:=hl (j+1)
   rw[lbFz] at hj
   rw[hj]
   congr 1
   omega
theorem cH(I:Inv N d)(L:ao d.t)(o:Int):ao (exit d o).t:=xw o _ 0 d N I L fun j=>by rw[Nat.zero_add]
theorem gz(q:Int):ao (new q).t:=by
 have h0: ∀ c,(In.at_ (new q).t c).names=[]:=fun c=>by
  unfold In.at_
  cases h:In.find (new q).t.nodes c with
  |none=>rfl
  |some n=>
   have:=(In.find_some h).1
   have e:n=⟨1,true,1,0,ByteArray.empty,[]⟩:=by simpa[new,In.new] using this
   rw[e]
 refine⟨fun m hm p hp=> ?_,fun l hl hg=> ?_⟩
 ·have e:m=⟨1,true,1,0,ByteArray.empty,[]⟩:=by simpa[new,In.new] using hm
  subst e
  cases hp
 ·rcases lcDz l with rfl|⟨l,s,rfl⟩
  ·exact absurd rfl hl
  ·rw[lcEz,In.go_snoc,h0] at hg
   exact absurd rfl hg
end
end Fs
end
section
namespace Pt
theorem EA{s:ByteArray}(h:In.isName s=true):aA s:=by
 unfold In.isName at h
 simp only[Bool.and_eq_true,decide_eq_true_eq,Bool.not_eq_true'] at h
 obtain⟨⟨⟨⟨a1,a2⟩,a3⟩,a4⟩,a5⟩:=h
 rw[List.any_eq_false] at a3
 have h0:(0:UInt8)∉s.data.toList:=fun hm=>by simpa using a3 _ hm
 refine⟨?_,fun hm=>by simpa using a3 _ hm⟩
 have hi:Lib.indexByte s.data.toList 0<0:=by
  refine Classical.byContradiction fun hc=> ?_
  obtain⟨k,hk⟩: ∃ k:Nat,Lib.indexByte s.data.toList 0=k:=⟨(Lib.indexByte s.data.toList 0).toNat,by omega⟩
  exact h0 (laQz (Lib.indexByte_some hk).1)
 unfold isName
 rw[a4,a5,decide_eq_true a1,decide_eq_true a2,decide_eq_true hi]
 rfl
theorem EB{p:ByteArray}(h:p.size≠0):joined (parts p)=p:=by
 refine ba_ext ?_
 rw[ZV,cV h,lbZz]
 have:((fun x:ByteArray=>x.data.toList)∘mk)=id:=rfl
 rw[this,List.map_id,vi]
theorem wE{p:ByteArray}(h:p.size≠0):gT p=isPath p:=by
 rw[Bool.eq_iff_iff]
 constructor
 ·intro hp
  unfold gT at hp
  simp only[Bool.and_eq_true,decide_eq_true_eq,ldRz] at hp
  obtain⟨⟨h1,h2⟩,h3⟩:=hp
  have hj:=EB h
  rw[←hj]
  refine dx ⟨fun e=> ?_,fun s hs=>EA (h1 s hs),h2,by rw[hj];exact h3⟩
  rw[cV h] at e
  obtain⟨x,r,hx⟩:=Xn p.data.toList
  rw[hx] at e
  cases e
 ·intro hp
  obtain⟨hk,hj⟩:=vm hp
  unfold gT
  simp only[Bool.and_eq_true,decide_eq_true_eq,ldRz]
  exact⟨⟨fun s hs=>Fs.gy (hk.names s hs),hk.few⟩,by have:=hk.short;rwa [hj] at this⟩
theorem wF(p:ByteArray):Hs.bS p=isPath p:=by
 unfold Hs.bS
 by_cases h:p.size=0
 ·have e:p.data.toList=[]:=ZE.1 h
  have e2:p.toList=[]:=by rw[←ByteArray.toList_eq] at e;exact e
  have:isPath p=false:=by unfold isPath;rw[e];simp
  rw[this,e2]
  rfl
 ·have e:p.toList≠[]:=fun e=>h (ZE.2 (by rw[←ByteArray.toList_eq];exact e))
  rw[wE h,qne.2 e]
  rfl
theorem right_eq(p:OpD):Hs.right p=right p:=by
 unfold Hs.right right
 rw[wF,wF]
 by_cases h1:p.kind=5∨p.kind=6∨p.kind=7∨p.kind=8∨p.kind=9
 ·rw[if_neg (by omega),if_neg (by omega),if_neg (by omega),if_pos h1,decide_eq_true (by omega),decide_eq_true (by omega)]
  rfl
 ·rw[if_neg h1]
  by_cases h2:p.kind=1∨p.kind=2∨p.kind=3∨p.kind=4∨p.kind=11
  ·rw[if_pos h2,if_pos h2]
  ·rw[if_neg h2,if_neg h2]
   by_cases h3:p.kind=10∨p.kind=12
   ·rw[if_pos h3,if_pos h3]
   ·rw[if_neg h3,if_neg h3]
    by_cases h4:p.kind=13
    ·rw[if_pos h4,if_pos h4]
     by_cases h:p.path.size=0
     ·have e:p.path.data.toList=[]:=ZE.1 h
      rw[e]
      have:parts p.path=[]:=by unfold parts;rw[if_pos h]
      unfold gT
      rw[this,h]
      rfl
     ·have e:p.path.data.toList≠[]:=fun e=>h (ZE.2 e)
      rw[wE h,qne.2 e,Bool.false_or]
    ·rw[if_neg h4,if_neg h4]
     by_cases h5:1≤p.kind
     ·rw[decide_eq_true h5,decide_eq_false (by omega)]
      rfl
     ·rw[decide_eq_false h5]
      rfl
end Pt
namespace Hs
structure bj (hs:List ae) (h:List (Int×List Int)):Prop where
 look: ∀ (o:Int) (n:Nat),1≤n→n≤8→look hs o n=(Fs.hOf h o).getD n 0
 fX: ∀ z∈hs,1≤z.num∧z.num≤8∧0<z.id
 one:hs.Pairwise fun a b=>¬(a.owner=b.owner∧a.num=b.num)
 zero: ∀ o,(Fs.hOf h o).getD 0 0=0
 full: ∀ p∈h,p.2≠Fs.z9
 asc:h.Pairwise fun a b=>a.1<b.1
theorem iB:bj [] [] where
 look:=fun o n h1 h2=>by
  show(0:Int)=Fs.z9.getD n 0
  match n,h2 with
  |0,_|1,_|2,_|3,_|4,_|5,_|6,_|7,_|8,_=>rfl
 fX:=nofun
 one:= .nil
 zero:=fun _=>rfl
 full:=nofun
 asc:= .nil
theorem s7{hs:List ae}{o n:Int}(hp: ∀ z∈hs,0<z.id)(h:look hs o n=0): ∀ z∈hs,¬(z.owner=o∧z.num=n):=by
 unfold look at h
 intro z hz hc
 cases hf:hs.find? fun z=>z.owner==o&&z.num==n with
 |none=>
  have:=(lcNz.1 hf) z hz
  simp[hc.1,hc.2] at this
 |some y=>
  rw[hf] at h
  have h1:=hp y (laUz hf)
  have h2:y.id=0:=h
  omega
theorem yA{hs:List ae}{o n:Int}(h:look hs o n≠0): ∃ z∈hs,z.owner=o∧z.num=n∧look hs o n=z.id:=by
 unfold look at h ⊢
 cases hf:hs.find? fun z=>z.owner==o&&z.num==n with
 |none=>rw[hf] at h;exact absurd rfl h
 |some y=>
  have h1:=lcOz hf
  simp only[Bool.and_eq_true,beq_iff_eq] at h1
  exact⟨y,laUz hf,h1.1,h1.2,rfl⟩
theorem s8{hs:List ae}(hp: ∀ z∈hs,0<z.id){z:ae}(hz:z∈hs):look hs z.owner z.num≠0:=fun e=>s7 hp e z hz ⟨rfl,rfl⟩
theorem EC{hs:List ae}(hp: ∀ z∈hs,0<z.id)(o n:Int):0≤look hs o n:=by
 by_cases h:look hs o n=0
 ·omega
 ·obtain⟨z,hz,-,-,e⟩:=yA h
  have:=hp z hz
  omega
theorem ED(hs:List ae)(z:ae)(o n:Int)(hp: ∀ z∈hs,0<z.id):look (hs++[z]) o n=if look hs o n≠0 then look hs o n else if z.owner=o∧z.num=n then z.id else 0:=by
 by_cases h:look hs o n=0
 ·rw[if_neg (by omega)]
  have hn:=s7 hp h
  have hf:(hs.find? fun z=>z.owner==o&&z.num==n)=none:=by
   rw[lcNz]
   intro y hy
   have:=hn y hy
   simp only[Bool.and_eq_true,beq_iff_eq]
   exact this
  unfold look
  rw[List.find?_append,hf,Option.none_or,List.find?_singleton]
  by_cases hc:z.owner=o∧z.num=n
  ·rw[if_pos hc]
   simp[hc.1,hc.2]
  ·rw[if_neg hc]
   have:(z.owner==o&&z.num==n)=false:=by
    rw[Bool.and_eq_false_iff]
    by_cases h1:z.owner=o
    ·exact .inr (qne.2 fun e=>hc ⟨h1,e⟩)
    ·exact .inl (qne.2 h1)
   simp[this]
 ·rw[if_pos h]
  unfold look at h ⊢
  rw[List.find?_append]
  cases hf:hs.find? fun z=>z.owner==o&&z.num==n with
  |none=>rw[hf] at h;exact absurd rfl h
  |some y=>rfl
theorem wG(hs:List ae)(o n o' n':Int):look (rest hs o n) o' n'=if o'=o∧(n=0∨n'=n) then 0 else look hs o' n':=by
 unfold look rest
 rw[lcZz]
 by_cases h:o'=o∧(n=0∨n'=n)
 ·rw[if_pos h]
  have:(hs.find? fun a=>(!hit o n a)=true∧(a.owner==o' &&a.num==n')=true)=none:=by
   rw[lcNz]
   intro z hz
   unfold hit
   simp only[decide_eq_true_eq,Bool.not_eq_true',Bool.and_eq_true,beq_iff_eq,Bool.and_eq_false_iff,Bool.or_eq_false_iff,beq_eq_false_iff_ne]
   rintro⟨h1,h2,h3⟩
   rcases h1 with h1|⟨h4,h5⟩
   ·exact h1 (h2.trans h.1)
   ·rcases h.2 with h6|h6
    ·exact h4 h6
    ·exact h5 (h3.trans h6)
  rw[this]
 ·rw[if_neg h]
  have:(fun a:ae=>decide ((!hit o n a)=true∧(a.owner==o' &&a.num==n')=true))=fun z=>z.owner==o' &&z.num==n':=by
   funext a
   by_cases hc:a.owner=o'∧a.num=n'
   ·have hh:hit o n a=false:=by
     unfold hit
     simp only[Bool.and_eq_false_iff,Bool.or_eq_false_iff,beq_eq_false_iff_ne]
     by_cases h1:o'=o
     ·right
      have h2:=fun h3=>h ⟨h1,h3⟩
      exact⟨fun e=>h2 (.inl e),fun e=>h2 (.inr (hc.2.symm.trans e))⟩
     ·left
      exact fun e=>h1 (hc.1.symm.trans e)
    rw[hh]
    simp[hc.1,hc.2]
   ·have:(a.owner==o' &&a.num==n')=false:=by
     rw[Bool.and_eq_false_iff]
     by_cases h1:a.owner=o'
     ·exact .inr (qne.2 fun e=>hc ⟨h1,e⟩)
     ·exact .inl (qne.2 h1)
    rw[this]
    simp
  rw[this]
section
variable {hs:List ae}{h:List (Int×List Int)}{o:Int}{N:Nat}{d:FsD}
theorem bj.ids(L:bj hs h): ∀ z∈hs,0<z.id:=fun z hz=>(L.fX z hz).2.2
theorem bj.held(L:bj hs d.h)(o n:Int):Hs.look hs o n=Fs.held d o n:=by
 unfold Fs.held
 by_cases hn:1≤n∧n≤8
 ·rw[if_pos hn]
  have:=L.look o n.toNat (by omega) (by omega)
  rwa [show((n.toNat:Nat):Int)=n by omega] at this
 ·rw[if_neg hn]
  refine Classical.byContradiction fun hc=> ?_
  obtain⟨z,hz,-,h2,-⟩:=yA hc
  have:=L.fX z hz
  omega
/-! ### the free number,and how many -/
theorem wH(hp: ∀ z∈hs,0<z.id)(o:Int): ∀ (l:List Int) (s:Int) (i:Nat),(∀ j,j<l.length→look hs o (s+j)=l.getD j 0)→
  fx hs o l.length s=if Lib.idxFrom l 0 i= -1 then s+l.length else s+(Lib.idxFrom l 0 i - i)
 |[],s,i,_=>by
  show s=_
  rw[show Lib.idxFrom [] 0 i= -1 from rfl,if_pos rfl]
  simp
 |x::r,s,i,h=>by
  have h0:=h 0 (by simp)
  have hx:look hs o s=x:=by simpa using h0
  have wI:=EC hp o s
  show(if 0<look hs o s then fx hs o r.length (s+1) else s)=_
  by_cases hc:x=0
  ·rw[if_neg (by omega)]
   rw[show Lib.idxFrom (x::r) 0 i=i by unfold Lib.idxFrom;rw[if_pos hc],if_neg (by omega)]
   omega
  ·rw[if_pos (by omega)]
   have ih:=wH hp o r (s+1) (i+1) fun j hj=>by
    have:=h (j+1) (by rw[laPz];omega)
    rw[show s+((j+1:Nat):Int)=s+1+j by omega] at this
    simpa using this
   rw[ih,show Lib.idxFrom (x::r) 0 i=Lib.idxFrom r 0 (i+1) by rw[Lib.idxFrom,if_neg hc]]
   rw[laPz]
   split
   ·omega
   ·omega
theorem s9(I:Fs.Inv N d)(L:bj hs d.h)(o:Int):((Fs.hOf d.h o).drop 1).length=8∧ ∀ j:Nat,j<8→look hs o (1+(j:Int))=((Fs.hOf d.h o).drop 1).getD j 0:=by
 have h9:=(Fs.hOf_row I o).1
 refine⟨by rw[lbXz,h9],fun j hj=> ?_⟩
 have:=L.look o (j+1) (by omega) (by omega)
 rw[show(1:Int)+(j:Int)=((j+1:Nat):Int) by omega,this]
 rw[lbDz,lbDz,lcFz,Nat.add_comm 1 j]
theorem EE(I:Fs.Inv N d)(L:bj hs d.h)(o:Int)(h0:Fs.free d o≠0):free hs o=(Fs.free d o:Nat):=by
 obtain⟨h1,h2⟩:=s9 I L o
 have:=wH L.ids o ((Fs.hOf d.h o).drop 1) 1 0 (fun j hj=>h2 j (by omega))
 rw[h1] at this
 have hi:=Fs.idx_lt I o
 unfold free
 unfold Fs.free at h0 ⊢
 unfold Lib.idxOf at*
 rw[this,if_neg (by omega)]
 omega
theorem EF(hs:List ae)(o:Int):many hs o=((hs.filter fun z=>z.owner==o).map ae.num).length:=by
 unfold many
 rw[lbMz,List.countP_eq_length_filter]
theorem EG(L:bj hs h)(o:Int):((hs.filter fun z=>z.owner==o).map ae.num).Nodup:=by
 rw[List.nodup_iff_pairwise_ne,lcJz]
 refine(List.Pairwise.filter _ L.one).imp_of_mem ?_
 intro a b ha hb hab e
 have h1:=(lbHz.1 ha).2
 have h2:=(lbHz.1 hb).2
 simp only[beq_iff_eq] at h1 h2
 exact hab ⟨h1.trans h2.symm,e⟩
theorem EH(L:bj hs h)(o:Int)(n:Int):n∈(hs.filter fun z=>z.owner==o).map ae.num↔look hs o n≠0:=by
 constructor
 ·intro hm
  obtain⟨z,hz,rfl⟩:=laKz.1 hm
  obtain⟨h1,h2⟩:=lbHz.1 hz
  simp only[beq_iff_eq] at h2
  rw[←h2]
  exact s8 L.ids h1
 ·intro hm
  obtain⟨z,hz,h1,h2,-⟩:=yA hm
  exact laKz.2 ⟨z,lbHz.2 ⟨hz,by simpa using h1⟩,h2⟩
def xI:List Int:=[1,2,3,4,5,6,7,8]
theorem s_{n:Int}:n∈xI↔1≤n∧n≤8:=by
 unfold xI
 simp only[laBz,lbRz,or_false]
 omega
theorem wJ(L:bj hs h)(o:Int):((hs.filter fun z=>z.owner==o).map ae.num).Perm (xI.filter fun n=> !(look hs o n==0)):=by
 refine(List.perm_ext_iff_of_nodup (EG L o) (List.Pairwise.filter _ (show xI.Nodup by decide))).2 fun n=> ?_
 rw[EH L o n,lbHz,s_]
 simp only[Bool.not_eq_true',beq_eq_false_iff_ne]
 constructor
 ·intro hn
  obtain⟨z,hz,-,h2,-⟩:=yA hn
  have:=L.fX z hz
  exact⟨by omega,hn⟩
 ·exact fun hn=>hn.2
theorem wL(I:Fs.Inv N d)(L:bj hs d.h)(o:Int):8≤many hs o↔Fs.free d o=0:=by
 have hm:many hs o=(xI.filter fun n=> !(look hs o n==0)).length:=by rw[EF,(wJ L o).length_eq]
 rw[hm]
 obtain⟨h1,h2⟩:=s9 I L o
 have hi:=Fs.idx_lt I o
 have hle:(xI.filter fun n=> !(look hs o n==0)).length≤8:=lbYz _ xI
 constructor
 ·intro h8
  have hall: ∀ n∈xI,look hs o n≠0:=by
   have:=List.length_filter_eq_length_iff.1 (show(xI.filter fun n=> !(look hs o n==0)).length=xI.length from Nat.le_antisymm hle h8)
   intro n hn
   simpa using this n hn
  have pI:=Lib.idxFrom_miss 0 ((Fs.hOf d.h o).drop 1) 0 (fun j hj=>by
   rw[←h2 j (by omega)]
   exact hall _ (s_.2 (by omega)))
  unfold Fs.free Lib.idxOf
  rw[pI]
  rfl
 ·intro h0
  have hm1:Lib.idxFrom ((Fs.hOf d.h o).drop 1) 0 0= -1:=by
   unfold Fs.free Lib.idxOf at h0
   unfold Lib.idxOf at hi
   omega
  have hall: ∀ n∈xI,(!(look hs o n==0))=true:=fun n hn=>by
   have hn':=s_.1 hn
   simp only[Bool.not_eq_true',beq_eq_false_iff_ne]
   intro e
   have h3:=h2 (n.toNat - 1) (by omega)
   rw[show(1:Int)+((n.toNat - 1:Nat):Int)=n by omega,e] at h3
   have h4:=(Lib.idxOf_nonneg_iff ((Fs.hOf d.h o).drop 1) 0)
   have h5:((Fs.hOf d.h o).drop 1).contains (0:Int)=true:=by
    rw[List.contains_iff_mem]
    rw[lbDz,laRz (by omega)] at h3
    rw[show(0:Int)=((Fs.hOf d.h o).drop 1)[n.toNat - 1]'(by omega) from h3]
    exact List.getElem_mem _
   unfold Lib.idxOf at h4
   rw[hm1] at h4
   have:=h4.symm▸h5
   omega
  rw[lcLz.2 hall]
  exact Nat.le_refl 8
/-! ### what is given,what is closed -/
theorem wM{x:Int×List Int}: ∀ {h:List (Int×List Int)},(∀ p∈h,p.1≠x.1)→h.Pairwise (fun a b=>a.1<b.1)→(Fs.ins x h).Pairwise fun a b=>a.1<b.1
 |[],_,_=>lcYz _ _
 |y::r,hx,hp=>by
  obtain⟨h1,h2⟩:=laVz.1 hp
  unfold Fs.ins
  split
  ·rename_i hlt
   refine laVz.2 ⟨fun p hp'=> ?_,hp⟩
   rcases laBz.1 hp' with rfl|h3
   ·exact hlt
   ·have:=h1 p h3;omega
  ·rename_i hlt
   refine laVz.2 ⟨fun p hp'=> ?_,wM (fun p hp=>hx p (.tail _ hp)) h2⟩
   rcases Fs.mem_ins.1 hp' with rfl|h3
   ·have:=hx y (.head _);omega
   ·exact h1 p h3
theorem zcR{h:List (Int×List Int)}(hp:h.Pairwise fun a b=>a.1<b.1)(o:Int):(Fs.del h o).Pairwise fun a b=>a.1<b.1:=hp.filter _
theorem ta{h:List (Int×List Int)}(hp:h.Pairwise fun a b=>a.1<b.1)(o:Int)(l:List Int):(Fs.put h o l).Pairwise fun a b=>a.1<b.1:=
 wM (fun p hp'=>by simpa using (lbHz.1 hp').2) (zcR hp o)
theorem wN{h:List (Int×List Int)}(hp:h.Pairwise fun a b=>a.1<b.1)(o:Int)(l:List Int):(Fs.shut h o l).Pairwise fun a b=>a.1<b.1:=by
 unfold Fs.shut
 split
 ·exact zcR (ta hp o l) o
 ·exact ta hp o l
theorem rG(l:List Int)(k j:Nat)(v:Int)(hk:k<l.length):(l.set k v).getD j 0=if j=k then v else l.getD j 0:=by
 rw[lbDz,lbDz,List.getElem?_set]
 by_cases e:j=k
 ·subst e
  rw[if_pos rfl,if_pos rfl,if_pos hk]
  rfl
 ·rw[if_neg (fun h=>e h.symm),if_neg e]
theorem EI(I:In.Inv N d.t){id:Int}(h:(In.hold d.t id).1=0):0<id:=by
 have hE:In.holdE d.t id=0:=by
  unfold In.hold at h
  split at h
  ·rename_i e;simpa using e
  ·exact h
 unfold In.holdE at hE
 split at hE
 ·rename_i e
  obtain⟨n,hn,-⟩:=In.getE_ok (show In.getE d.t id false=0 by simpa using e)
  obtain⟨hm,rfl⟩:=In.find_some hn
  have:=I.pos n hm
  omega
 ·rename_i e
  exact absurd (by simpa using hE) e
theorem wO(I:Fs.Inv N d)(L:bj hs d.h)(o id:Int)(h0:Fs.free d o≠0):
  (⟨(gives d.t hs o id).1.1,(gives d.t hs o id).1.2.1,(gives d.t hs o id).1.2.2,[]⟩:ResD)=(Fs.gives d o id).1∧(gives d.t hs o id).2.1=(Fs.gives d o id).2.t∧bj (gives d.t hs o id).2.2 (Fs.gives d o id).2.h:=by
 unfold gives Fs.gives
 by_cases he:(In.hold d.t id).1=0
 ·rw[if_pos he,if_pos he]
  have hf:=EE I L o h0
  have hid:=EI I.tbl he
  have h9:=(Fs.hOf_row I o).1
  have h8:=Fs.free_le I o
  obtain⟨r1,r2⟩:=s9 I L o
  have hz:look hs o (Fs.free d o:Nat)=0:=by
   have hi:=Fs.idx_lt I o
   have h3:=r2 (Fs.free d o - 1) (by omega)
   rw[show(1:Int)+((Fs.free d o - 1:Nat):Int)=(Fs.free d o:Nat) by omega] at h3
   rw[h3]
   refine Classical.byContradiction fun hc=> ?_
   -- the least zero tb there
   have key: ∀ (l:List Int) (i:Nat),0≤Lib.idxFrom l 0 i→l.getD (Lib.idxFrom l 0 i - i).toNat 0=0:=by
    intro l
    induction l with
    |nil=>intro i _;rfl
    |cons x r ih=>
     intro i hl
     unfold Lib.idxFrom at hl ⊢
     split
     ·rename_i hx
      rw[show((i:Int) - i).toNat=0 by omega]
      exact hx
     ·rename_i hx
      rw[if_neg hx] at hl
      have hge: ∀ (l:List Int) (i:Nat),0≤Lib.idxFrom l 0 i→(i:Int)≤Lib.idxFrom l 0 i:=by
       intro l
       induction l with
       |nil=>intro i h;simp[Lib.idxFrom] at h
       |cons y t EJ=>
        intro i h
        unfold Lib.idxFrom at h ⊢
        split
        ·omega
        ·rename_i hy
         rw[if_neg hy] at h
         have:=EJ (i+1) h
         omega
      have h5:=hge r (i+1) hl
      rw[show(Lib.idxFrom r 0 (i+1) - (i:Int)).toNat=(Lib.idxFrom r 0 (i+1) - ((i+1:Nat):Int)).toNat+1 by omega,qGs]
      exact ih (i+1) hl
   have h6:=key ((Fs.hOf d.h o).drop 1) 0 (by unfold Fs.free Lib.idxOf at h0;unfold Lib.idxOf at hi;omega)
   refine hc ?_
   rw[←h6]
   congr 1
   unfold Fs.free Lib.idxOf
   unfold Fs.free Lib.idxOf at h0
   omega
  refine⟨by rw[hf],rfl, ?_⟩
  simp only
  constructor
  ·intro o' n h1 h2
   rw[ED _ _ _ _ L.ids,hf,Fs.fg]
   simp only
   by_cases ho:o'=o
   ·subst ho
    rw[if_pos rfl,rG _ _ _ _ (by omega)]
    by_cases hn:n=Fs.free d o'
    ·rw[if_pos hn,hn,hz]
     simp
    ·rw[if_neg hn,←L.look o' n h1 h2]
     by_cases hl:look hs o' (n:Int)=0
     ·rw[if_neg (by omega),if_neg (by omega),hl]
     ·rw[if_pos hl]
   ·rw[if_neg ho,←L.look o' n h1 h2]
    by_cases hl:look hs o' (n:Int)=0
    ·rw[if_neg (by omega),if_neg (fun hc=>ho hc.1.symm),hl]
    ·rw[if_pos hl]
  ·intro z hz'
   rcases laAz.1 hz' with h1|h1
   ·exact L.fX z h1
   ·rcases laGz.1 h1 with rfl
    simp only
    rw[hf]
    exact⟨by omega,by omega,hid⟩
  ·refine ldGz.2 ⟨L.one,lcYz _ _,fun a ha b hb=> ?_⟩
   rcases laGz.1 hb with rfl
   simp only
   rw[hf]
   exact s7 L.ids hz a ha
  ·intro o'
   rw[Fs.fg]
   split
   ·rw[rG _ _ _ _ (by omega),if_neg (by omega)]
    exact L.zero o
   ·exact L.zero o'
  ·exact Fs.fH L.full (Fs.kZ (by omega) (by omega))
  ·exact ta L.asc o _
 ·rw[if_neg he,if_neg he]
  exact⟨rfl,rfl,L⟩
theorem EK(I:Fs.Inv N d)(L:bj hs d.h)(o:Int)(n:Nat)(hn:1≤n∧n≤8):bj (rest hs o n) (Fs.closes d o n).h:=by
 have h9:=(Fs.hOf_row I o).1
 unfold Fs.closes
 constructor
 ·intro o' k h1 h2
  rw[wG]
  simp only
  rw[Fs.bA]
  by_cases ho:o'=o
  ·subst ho
   rw[if_pos rfl,rG _ _ _ _ (by omega)]
   by_cases hk:k=n
   ·rw[if_pos hk,if_pos ⟨rfl,.inr (by omega)⟩]
   ·rw[if_neg hk,if_neg (fun hc=>hk (by have:=hc.2;omega)),L.look o' k h1 h2]
  ·rw[if_neg ho,if_neg (fun hc=>ho hc.1),L.look o' k h1 h2]
 ·intro z hz
  exact L.fX z (lbHz.1 hz).1
 ·exact L.one.filter _
 ·intro o'
  simp only
  rw[Fs.bA]
  split
  ·rw[rG _ _ _ _ (by omega),if_neg (by omega)]
   exact L.zero o
  ·exact L.zero o'
 ·exact Fs.ew L.full
 ·exact wN L.asc o _
theorem tc(L:bj hs h){o n:Int}(hn:n≠0){z:ae}(hz:z∈hs)(ho:z.owner=o)(hk:z.num=n):hs.filter (hit o n)=[z]:=by
 obtain⟨A,B,rfl⟩:=List.append_of_mem hz
 obtain⟨hA,hB,hAB⟩:=ldGz.1 L.one
 have gA: ∀ y:ae,¬(y.owner=o∧y.num=n)→hit o n y=false:=fun y hy=>by
  unfold hit
  rw[Bool.and_eq_false_iff,Bool.or_eq_false_iff]
  by_cases h1:y.owner=o
  ·exact .inr ⟨qne.2 hn,qne.2 fun e=>hy ⟨h1,e⟩⟩
  ·exact .inl (qne.2 h1)
 have h1:A.filter (hit o n)=[]:=List.filter_eq_nil_iff.2 fun a ha=>by
  rw[gA a fun hc=>hAB a ha z (.head _) ⟨hc.1.trans ho.symm,hc.2.trans hk.symm⟩]
  simp
 have h2:B.filter (hit o n)=[]:=List.filter_eq_nil_iff.2 fun b hb=>by
  rw[gA b fun hc=>(laVz.1 hB).1 b hb ⟨ho.trans hc.1.symm,hk.trans hc.2.symm⟩]
  simp
 have h3:hit o n z=true:=by unfold hit;rw[ho,hk];simp
 rw[ldEz,h1,lbNz,h3,if_pos rfl,h2]
 rfl
theorem EL(L:bj hs h)(t:TabD){o n:Int}(hn:n≠0)(h0:look hs o n≠0):bx t hs o n=(In.drop t (look hs o n)).2:=by
 obtain⟨z,hz,ho,hk,e⟩:=yA h0
 unfold bx
 rw[tc L hn hz ho hk,e]
 rfl
theorem EM(I:Fs.Inv N d)(L:bj hs d.h)(o:Int)(p:OpD):
  (⟨(handled d.t hs o p).1.1,(handled d.t hs o p).1.2.1,(handled d.t hs o p).1.2.2,[]⟩:ResD)=(Fs.handled d o p).1∧(handled d.t hs o p).2.1=(Fs.handled d o p).2.t∧bj (handled d.t hs o p).2.2 (Fs.handled d o p).2.h:=by
 unfold handled Fs.handled
 rw[L.held o p.h]
 by_cases h0:Fs.held d o p.h=0
 ·rw[if_pos h0,if_pos h0];exact⟨rfl,rfl,L⟩
 rw[if_neg h0,if_neg h0]
 by_cases h5:p.kind=5
 ·rw[if_pos h5,if_pos h5]
  have hr:1≤p.h∧p.h≤8:=by
   refine Classical.byContradiction fun hc=>h0 ?_
   unfold Fs.held
   rw[if_neg hc]
  have hl:look hs o p.h≠0:=by rw[L.held o p.h];exact h0
  have e:((p.h.toNat:Nat):Int)=p.h:=by omega
  refine⟨rfl, ?_, ?_⟩
  ·show bx d.t hs o p.h=_
   rw[EL L d.t (by omega) hl,L.held o p.h]
   unfold Fs.held Fs.closes
   rw[if_pos hr]
  ·have:=EK I L o p.h.toNat (by omega)
   rw[e] at this
   exact this
 rw[if_neg h5,if_neg h5]
 by_cases h6:p.kind=6
 ·rw[if_pos h6,if_pos h6];exact⟨rfl,rfl,L⟩
 rw[if_neg h6,if_neg h6]
 by_cases h7:p.kind=7
 ·rw[if_pos h7,if_pos h7];exact⟨rfl,rfl,L⟩
 rw[if_neg h7,if_neg h7]
 by_cases h8:p.kind=8
 ·rw[if_pos h8,if_pos h8];exact⟨rfl,rfl,L⟩
 rw[if_neg h8,if_neg h8]
 exact⟨rfl,rfl,L⟩
theorem wP{p:ByteArray}(h:Pt.isPath p=true)(d:FsD):place d.t p=((Fs.at_ d p).1.1,(Fs.at_ d p).1.2,(Fs.at_ d p).2):=by
 obtain⟨q,s,h1,h2,h3,-,-⟩:=Pt.eP h
 unfold place Fs.at_ Fs.walk
 rw[h1,h2,h3,List.getLast?_concat,List.dropLast_concat]
theorem l5(I:Fs.Inv N d)(L:bj hs d.h)(o:Int)(p:OpD):
  (do_ d.t hs o p).1=(Fs.do_ d o p).1∧(do_ d.t hs o p).2.1=(Fs.do_ d o p).2.t∧bj (do_ d.t hs o p).2.2 (Fs.do_ d o p).2.h:=by
 unfold do_
 rw[Pt.right_eq]
 by_cases hr:Pt.right p=false
 ·rw[if_neg (by rw[hr];simp)]
  unfold aO Fs.do_
  rw[Pt.right_eq,if_pos hr,if_pos hr]
  exact⟨rfl,rfl,L⟩
 have hr1:Pt.right p=true:=by simpa using hr
 by_cases cQ:p.kind=13
 ·rw[if_pos ⟨hr1,cQ⟩]
  unfold Fs.do_
  rw[if_neg hr,if_neg (by omega),if_neg (by omega),if_pos cQ]
  exact⟨rfl,rfl,L⟩
 rw[if_neg (fun hc=>cQ hc.2)]
 unfold aO Fs.do_
 rw[Pt.right_eq,if_neg hr,if_neg hr]
 by_cases h5:p.kind=5∨p.kind=6∨p.kind=7∨p.kind=8∨p.kind=9
 ·rw[if_pos h5,if_neg (by omega),if_pos h5]
  exact EM I L o p
 rw[if_neg h5]
 have pJ:Pt.isPath p.path=true∧((p.kind=10∨p.kind=12)→Pt.isPath p.dest=true):=by
  unfold Pt.right at hr1
  rw[if_neg h5] at hr1
  split at hr1
  ·exact⟨hr1,fun h=>by omega⟩
  ·split at hr1
   ·have:=(Bool.and_eq_true _ _).mp hr1
    exact⟨this.1,fun _=>this.2⟩
   ·first|(cases hr1;done)|(rw[if_neg cQ] at hr1;cases hr1)
 have rr:p.kind=1∨p.kind=2∨p.kind=3∨p.kind=4∨p.kind=11∨p.kind=10∨p.kind=12:=by
  unfold Pt.right at hr1
  rw[if_neg h5] at hr1
  split at hr1
  ·omega
  ·split at hr1
   ·omega
   ·first|(cases hr1;done)|(rw[if_neg cQ] at hr1;cases hr1)
 have hP:=wP pJ.1 d
 rw[hP]
 simp only
 by_cases rH:p.kind=3∨p.kind=4
 ·rw[if_pos rH]
  unfold Fs.opens
  by_cases hf:Fs.free d o=0
  ·rw[if_pos ⟨rH,(wL I L o).2 hf⟩,if_pos hf]
   exact⟨rfl,rfl,L⟩
  ·rw[if_neg (fun hc=>hf ((wL I L o).1 hc.2)),if_neg hf]
   by_cases hw:(Fs.at_ d p.path).2≠0
   ·rw[if_pos hw,if_pos hw]
    exact⟨rfl,rfl,L⟩
   ·rw[if_neg hw,if_neg hw]
    unfold aQ
    rw[if_neg (by omega),if_neg (by omega),if_neg (by omega)]
    by_cases h3:p.kind=3
    ·rw[if_pos h3,if_pos h3]
     split
     ·exact⟨rfl,rfl,L⟩
     ·have I2:Fs.Inv (N+2) ⟨(In.make d.t (Fs.at_ d p.path).1.1 (Fs.at_ d p.path).1.2 false).2.2,d.h⟩:=Fs.inv_tbl I (In.inv_make I.tbl _ _ false) (by omega:N≤N+2)
      exact wO (d:=⟨(In.make d.t (Fs.at_ d p.path).1.1 (Fs.at_ d p.path).1.2 false).2.2,d.h⟩) I2 L o _ hf
    ·rw[if_neg h3,if_neg h3,if_pos (by omega)]
     split
     ·exact⟨rfl,rfl,L⟩
     ·exact wO I L o _ hf
 ·rw[if_neg rH,if_neg (fun hc=>rH hc.1),if_neg h5,if_neg cQ]
  unfold Fs.named
  by_cases hw:(Fs.at_ d p.path).2≠0
  ·rw[if_pos hw,if_pos hw]
   exact⟨rfl,rfl,L⟩
  ·rw[if_neg hw,if_neg hw]
   unfold aQ Fs.namedAt
   by_cases h1:p.kind=1
   ·rw[if_pos h1,if_pos h1];exact⟨rfl,rfl,L⟩
   rw[if_neg h1,if_neg h1]
   by_cases h2:p.kind=2
   ·rw[if_pos h2,if_pos h2];exact⟨rfl,rfl,L⟩
   rw[if_neg h2,if_neg h2]
   by_cases kx:p.kind=11
   ·rw[if_pos kx,if_pos kx];exact⟨rfl,rfl,L⟩
   rw[if_neg kx,if_neg kx,if_neg (by omega),if_neg (by omega)]
   have hD:=wP (pJ.2 (by omega)) d
   by_cases jD:p.kind=10
   ·rw[if_pos jD,if_pos jD]
    unfold links
    rw[hD]
    simp only
    split
    ·exact⟨rfl,rfl,L⟩
    ·split
     ·exact⟨rfl,rfl,L⟩
     ·exact⟨rfl,rfl,L⟩
   rw[if_neg jD,if_neg jD,hD]
   simp only
   split
   ·exact⟨rfl,rfl,L⟩
   ·exact⟨rfl,rfl,L⟩
/-! ### an owner's exit -/
theorem td(o:Int): ∀ (l:List Int) (n:Nat) (d:FsD),(∀ j,l[j]? =(Fs.hOf d.h o)[n+j]?)→(Fs.exitL o l n d).t=(l.filter fun i=> !(i==0)).foldl (fun t id=>(In.drop t id).2) d.t
 |[],_,_,_=>rfl
 |i::r,n,d,hl=>by
  unfold Fs.exitL
  have h0:=hl 0
  rw[lbPz,Nat.add_zero] at h0
  by_cases hi:i=0
  ·rw[if_neg (by simp[hi]),lbNz,if_neg (by simp[hi])]
   refine td o r (n+1) d fun j=> ?_
   have:=hl (j+1)
   rw[lbFz] at this
   rw[this]
   congr 1
   omega
  ·rw[if_pos hi,lbNz,if_pos (by simp[hi]),ldKz]
   rw[td o r (n+1) (Fs.closes d o n) fun j=>by
    have:=hl (j+1)
    rw[lbFz] at this
    unfold Fs.closes
    simp only
    rw[Fs.bA,if_pos rfl,List.getElem?_set,if_neg (by omega),this]
    congr 1
    omega]
   unfold Fs.closes
   simp only
   rw[lbDz,←h0]
   rfl
theorem Xy(o:Int): ∀ (l:List Int) (n:Nat) (d:FsD),d.h.Pairwise (fun a b=>a.1<b.1)→(Fs.exitL o l n d).h.Pairwise (fun a b=>a.1<b.1)∧ ∀ o',o'≠o→Fs.hOf (Fs.exitL o l n d).h o'=Fs.hOf d.h o'
 |[],_,_,h=>⟨h,fun _ _=>rfl⟩
 |i::r,n,d,h=>by
  unfold Fs.exitL
  split
  ·obtain⟨h1,h2⟩:=Xy o r (n+1) (Fs.closes d o n) (wN h o _)
   refine⟨h1,fun o' ho=> ?_⟩
   rw[h2 o' ho]
   unfold Fs.closes
   simp only
   rw[Fs.bA,if_neg ho]
  ·exact Xy o r (n+1) d h
theorem EN(o:Int):hit o 0=fun z=>z.owner==o:=by
 funext z
 unfold hit
 simp
theorem wQ(I:Fs.Inv N d)(L:bj hs d.h)(o:Int):Fs.hOf d.h o=0::xI.map (look hs o):=by
 have h9:=(Fs.hOf_row I o).1
 have hz:=L.zero o
 have hl:=L.look o
 generalize Fs.hOf d.h o=l at*
 match l,h9 with
 |[a0,a1,a2,a3,a4,a5,a6,a7,a8],_=>
  have e0:a0=0:=hz
  have e1:=hl 1 (by decide) (by decide)
  have e2:=hl 2 (by decide) (by decide)
  have e3:=hl 3 (by decide) (by decide)
  have e4:=hl 4 (by decide) (by decide)
  have e5:=hl 5 (by decide) (by decide)
  have e6:=hl 6 (by decide) (by decide)
  have e7:=hl 7 (by decide) (by decide)
  have e8:=hl 8 (by decide) (by decide)
  simp only[qGs,qGz] at e1 e2 e3 e4 e5 e6 e7 e8
  unfold xI
  simp only[laDz,lbBz]
  rw[e0,←e1,←e2,←e3,←e4,←e5,←e6,←e7,←e8]
  rfl
theorem kd(I:Fs.Inv N d)(L:bj hs d.h)(o:Int):bx d.t hs o 0=(Fs.exit d o).t∧bj (rest hs o 0) (Fs.exit d o).h:=by
 constructor
 ·unfold Fs.exit
  rw[td o _ 0 d fun j=>by rw[Nat.zero_add],wQ I L o,lbNz,if_neg (by simp),ldJz]
  have h1:((hs.filter fun z=>z.owner==o).map ae.id).Perm ((xI.filter ((fun i:Int=> !(i==0))∘look hs o)).map (look hs o)):=by
   have h2:(hs.filter fun z=>z.owner==o).map ae.id=((hs.filter fun z=>z.owner==o).map ae.num).map (look hs o):=by
    rw[lbZz]
    refine lbVz fun z hz=> ?_
    obtain⟨hz1,hz2⟩:=lbHz.1 hz
    simp only[beq_iff_eq] at hz2
    have h3:=tc L (n:=z.num) (by have:=L.fX z hz1;omega) hz1 hz2 rfl
    have h4:=s8 L.ids hz1
    obtain⟨y,hy,g1,g2,g3⟩:=yA h4
    have h5:=tc L (n:=z.num) (by have:=L.fX z hz1;omega) hy (g1.trans hz2) g2
    rw[h3] at h5
    cases h5
    show z.id=look hs o z.num
    rw[←hz2]
    exact g3.symm
   rw[h2]
   exact(wJ L o).map _
  unfold bx
  rw[EN,←In.jg h1 d.t,List.foldl_map]
 ·obtain⟨h1,h2⟩:=Xy o (Fs.hOf d.h o) 0 d L.asc
  have hz:=Fs.iu I o
  have hO: ∀ o',Fs.hOf (Fs.exit d o).h o'=if o'=o then Fs.z9 else Fs.hOf d.h o':=fun o'=>by
   split
   ·rename_i e;rw[e];exact hz
   ·rename_i e;exact h2 o' e
  constructor
  ·intro o' k g1 g2
   rw[wG,hO o']
   by_cases ho:o'=o
   ·rw[if_pos ho,if_pos ⟨ho,.inl rfl⟩]
    exact iB.look o' k g1 g2
   ·rw[if_neg ho,if_neg (fun hc=>ho hc.1)]
    exact L.look o' k g1 g2
  ·intro z hz
   exact L.fX z (lbHz.1 hz).1
  ·exact L.one.filter _
  ·intro o'
   rw[hO o']
   split
   ·rfl
   ·exact L.zero o'
  ·exact Fs.cr (d:=d) L.full o
  ·exact h1
/-! ### who has handles -/
def Zz(o:Int):List Int→List Int
 |[]=>[o]
 |y::r=>if y<o then y::Zz o r else if y=o then y::r else o::y::r
def af(hs:List ae):List Int:=hs.foldl (fun l z=>Zz z.owner l) []
theorem Xw{o x:Int}: ∀ {l:List Int},x∈Zz o l↔x=o∨x∈l
 |[]=>by simp[Zz]
 |y::r=>by
  unfold Zz
  split
  ·simp only[laBz,Xw (l:=r)]
   constructor<;> (intro h;rcases h with h|h|h<;> simp[h])
  ·split
   ·rename_i e
    subst e
    simp only[laBz]
    constructor
    ·intro h;rcases h with h|h<;> simp[h]
    ·intro h;rcases h with h|h|h<;> simp[h]
   ·simp only[laBz]
theorem wR{o:Int}: ∀ {l:List Int},l.Pairwise (· < ·)→(Zz o l).Pairwise (· < ·)
 |[],_=>lcYz _ _
 |y::r,h=>by
  obtain⟨h1,h2⟩:=laVz.1 h
  unfold Zz
  split
  ·rename_i hlt
   refine laVz.2 ⟨fun x hx=> ?_,wR h2⟩
   rcases Xw.1 hx with rfl|hx
   ·exact hlt
   ·exact h1 x hx
  ·split
   ·exact h
   ·rename_i h3 h4
    refine laVz.2 ⟨fun x hx=> ?_,h⟩
    rcases laBz.1 hx with rfl|hx
    ·omega
    ·have:=h1 x hx;omega
theorem EO(hs:List ae)(z:ae):af (hs++[z])=Zz z.owner (af hs):=by unfold af;rw[ldIz];rfl
theorem xB: ∀ (hs:List ae) (l:List Int),l.Pairwise (· < ·)→(hs.foldl (fun l z=>Zz z.owner l) l).Pairwise (· < ·)∧ ∀ x,x∈hs.foldl (fun l z=>Zz z.owner l) l↔x∈l∨ ∃ z∈hs,z.owner=x
 |[],l,h=>⟨h,fun x=>by simp⟩
 |z::r,l,h=>by
  obtain⟨h1,h2⟩:=xB r (Zz z.owner l) (wR h)
  refine⟨h1,fun x=> ?_⟩
  rw[ldKz,h2,Xw]
  constructor
  ·rintro((rfl|h3)|⟨y,hy,rfl⟩)
   ·exact .inr ⟨z,.head _,rfl⟩
   ·exact .inl h3
   ·exact .inr ⟨y,.tail _ hy,rfl⟩
  ·rintro(h3|⟨y,hy,rfl⟩)
   ·exact .inl (.inr h3)
   ·rcases laBz.1 hy with rfl|hy
    ·exact .inl (.inl rfl)
    ·exact .inr ⟨y,hy,rfl⟩
theorem wS: ∀ {a b:List Int},a.Pairwise (· < ·)→b.Pairwise (· < ·)→(∀ x,x∈a↔x∈b)→a=b
 |[],[],_,_,_=>rfl
 |[],y::b,_,_,h=>by have:=(h y).2 (.head _);cases this
 |x::a,[],_,_,h=>by have:=(h x).1 (.head _);cases this
 |x::a,y::b,ha,hb,h=>by
  obtain⟨a1,a2⟩:=laVz.1 ha
  obtain⟨b1,b2⟩:=laVz.1 hb
  have e:x=y:=by
   rcases laBz.1 ((h x).1 (.head _)) with h1|h1
   ·exact h1
   ·rcases laBz.1 ((h y).2 (.head _)) with h2|h2
    ·exact h2.symm
    ·have:=a1 y h2;have:=b1 x h1;omega
  subst e
  congr 1
  refine wS a2 b2 fun z=> ?_
  constructor
  ·intro hz
   rcases laBz.1 ((h z).1 (.tail _ hz)) with h1|h1
   ·have:=a1 z hz;omega
   ·exact h1
  ·intro hz
   rcases laBz.1 ((h z).2 (.tail _ hz)) with h1|h1
   ·have:=b1 z hz;omega
   ·exact h1
theorem ez(I:Fs.Inv N d)(L:bj hs d.h):af hs=Fs.af d:=by
 obtain⟨h1,h2⟩:=xB hs [] .nil
 refine wS h1 (by unfold Fs.af;rw[lcJz];exact L.asc) fun x=> ?_
 rw[show af hs=hs.foldl (fun l z=>Zz z.owner l) [] from rfl,h2 x]
 constructor
 ·rintro(h|⟨z,hz,rfl⟩)
  ·cases h
  ·refine Classical.byContradiction fun hc=> ?_
   have h3:=s8 L.ids hz
   rw[L.held z.owner z.num] at h3
   unfold Fs.held at h3
   split at h3
   ·rw[Fs.jK hc] at h3
    refine h3 ?_
    have:=L.fX z hz
    have h4:z.num.toNat≤8:=by omega
    generalize z.num.toNat=n at h4
    match n,h4 with
    |0,_|1,_|2,_|3,_|4,_|5,_|6,_|7,_|8,_=>rfl
   ·exact h3 rfl
 ·intro h3
  refine Classical.byContradiction fun hc=> ?_
  have h4:=Fs.ir (d:=d) L.full h3
  refine h4 ?_
  rw[wQ I L x]
  have h5: ∀ n,look hs x n=0:=fun n=>by
   refine Classical.byContradiction fun h6=> ?_
   obtain⟨z,hz,h7,-,-⟩:=yA h6
   exact hc (.inr ⟨z,hz,h7⟩)
  unfold xI
  simp only[laDz,lbBz,h5]
  rfl
end
end Hs
end
section
open Go.RowKit
section
variable {w w0:World}{F:List Nat}{L:List Ent}
theorem St.fL{s:Option (Nat×Nat)}{xs:List Value}{e:TypeId}{sz:Nat}(hM:St w0 F w L)(hs: ∀ y∈slL s xs e sz,y∈L){n n':Nat}{ua:Option Addr}{uc:Nat}(hu:slV s n= .slice ua n' uc): ∀ ad,ua=some ad→ ∃ g,ad=⟨g,0,none⟩∧ ∀ j u,xs[j]? =some u→w.cell? ⟨g,j,none⟩=some u:=fun ad e=>by
 rcases s with _|⟨g,cap⟩
 ·unfold slV at hu
  injection hu with h3
  rw[←h3] at e
  cases e
 ·unfold slV at hu
  injection hu with h3
  rw[←h3] at e
  cases e
  exact⟨g,rfl,fun j u hj=>Res.cell (hM.holds (g,true,.pre xs _ (cap*sz)) (hs _ (.head _))) hj⟩
theorem te{s:Option (Nat×Nat)}{n sz:Nat}{xs:List Value}(hk:SlOK s n xs sz){ua:Option Addr}{n' uc:Nat}(hu:slV s n= .slice ua n' uc)(e:ua=none):n=0∧uc=0:=by
 rcases s with _|⟨g,cap⟩
 ·unfold slV at hu
  injection hu with _ _ h3
  exact⟨hk.2,h3.symm⟩
 ·unfold slV at hu
  injection hu with h3
  rw[←h3] at e
  cases e
theorem tf{s:Option (Nat×Nat)}{n sz:Nat}{xs:List Value}(hk:SlOK s n xs sz){ua:Option Addr}{n' uc:Nat}(hu:slV s n= .slice ua n' uc):n≤uc:=by
 rcases s with _|⟨g,cap⟩
 ·have:=hk.2
  omega
 ·unfold slV at hu
  injection hu with _ _ h3
  have:=hk.2.1
  omega
end
end
section
open Go.RowKit Go.Maps
section
variable {w w' w0 w1 w2:World}{X X1 X':bQ}{t t1 t':TabD}{zs fV zs':List NodV}{hs hs1 hs':List ae}{N:Nat}{F:List Nat}{L:List Ent}
theorem EP(h:av X t zs hs w0)(I:In.Inv N t)(hN:N≤899990)(o:Int)(p:OpD)(hp:ai p.path)(hd:ai p.dest)(hr:Hs.right p=true)(hk:p.kind=13):
  Calls Tryz.prog 87 #[.pointer (some ⟨X.f,0,none⟩),.int .i64 o,.agg p.cells.toArray] w0 fun e w'=> ∃ s,e= .returned (.agg #[.int .i64 (Hs.lists t p.path).err,.int .i64 0,.string ⟨#[]⟩,slV s (Hs.lists t p.path).names.length])∧TxOK s (Hs.lists t p.path).names∧St w0 [] w' (txL s (Hs.lists t p.path).names):=by
 have hM:=St.start w0 []
 have c0:w0.cell? ⟨X.f,0,none⟩=some (.pointer (some ⟨X.x.g,0,none⟩)):=h.row 0 _ rfl
 have bN:=qh (fun (W:World)=>zZ p hp hd W)
 rw[hr] at bN
 have wT:=qh (fun (W:World)=>Yl p.path W hp.size)
 have HW:=qh (fun (W:World) (hb:Below w0.heap.size w0 W) (va:Option Addr) (vc:Nat) (hva: ∀ k s,(Pt.parts p.path)[k]? =some s→ ∃ g,va=some ⟨g,0,none⟩∧W.cell? ⟨g,k,none⟩=some (.string s)) (oz:(Pt.parts p.path).length≤vc)=>u5 (h.below hb) I (by omega) (Pt.parts p.path) hp.few hp.each hva oz)
 have rp:=qh (fun (W:World) (hb:Below w0.heap.size w0 W) (id:Int)=>B3 (h.tbl.below hb) I (by omega) id)
 obtain⟨R,hR0⟩: ∃ R,Hs.lists t p.path=R:=⟨_,rfl⟩
 rw[hR0]
 unfold Hs.lists at hR0
 obtain⟨kind,path,dest,hh,at_,n,data,pid,birth⟩:=p
 simp only at*
 unfold OpD.cells at*
 simp only at*
 subst hk
 generalize Fs.walkL t 1 (Pt.parts path)=V at*
 generalize Pt.parts path=ps at*
 obtain⟨id,c⟩:=V
 simp only at*
 clear h I hr hp hd
 go_enter Tryz.func87,Tryz.ntmps87
 (refine qw ?_;intros;rename_i hM)
 (refine qCB (bN.out _) hM ?_;clear hM;intro w' hM)
 (refine qw ?_;intros;rename_i hM)
 (refine qK3 (fun R hR=> ?_))
 refine(wT.out _).mono ?_
 rintro e w' ⟨s,rfl,hok,hst⟩;refine qho ?_;clear hR R
 replace hM:=hM.madeM hst (zL _ _)
 obtain⟨ua,uc,hu,j6⟩:=zf hok
 have HOK:=qh hok
 have ER:=qh (tf hok hu)
 have tg:=qh (fun (W:World) (L:List Ent) (bm:St w0 [] W L) (hs1: ∀ y∈slL s (ps.map Value.string) 9 1,y∈L)=>(show ∀ k x,ps[k]? =some x→ ∃ g,ua=some ⟨g,0,none⟩∧W.cell? ⟨g,k,none⟩=some (.string x) from fun k x hk=>by
  rcases s with _|⟨g1,cap1⟩
  ·have h0:ps.length=0:=hok.2
   have:=(laHz.1 hk).1
   omega
  ·refine⟨g1,(j6 g1 cap1 rfl).1,Res.cell (bm.holds (g1,true,.pre (ps.map Value.string) _ (cap1*1)) (hs1 _ (.head _))) ?_⟩
   show(ps.map Value.string)[k]? =_
   rw[lbCz,hk]
   rfl))
 rw[hu]
 clear hst hok wT hu j6
 (refine qq ?_)
 (refine qw ?_;intros;rename_i hM)
 (refine qCB (HW.out _ hM.to_below _ _ (tg.out _ _ hM (fun y hy=>laEz _ hy)) ER.out) hM ?_;clear hM;intro w' hM)
 replace hM:=hM.subM (laFz _ _)
 by_cases hc:c=0
 ·subst hc
  rw[if_neg (by simp)] at hR0
  have HR0:=qh hR0
  clear hR0 HW tg
  (refine qw ?_;intros;rename_i hM)
  (refine qK3 (fun R hR=> ?_))
  have C:=rp.out _ hM.to_below id
  unfold mV at C
  refine C.mono ?_
  rintro e w' ⟨s,rfl,hok,hst⟩;refine qho ?_;clear hR R C
  replace hM:=hM.madeM hst (zL _ _)
  obtain⟨ua,uc,hu,j6⟩:=zf hok
  have HOK:=qh hok
  have HU:=qh hu
  rw[hu]
  clear hst hok hu j6
  replace hM:=hM.perm (lcWz)
  simp only[laIz,laJz] at hM
  (refine qq ?_)
  (refine qw ?_;intros;rename_i hM)
  (refine qf ?_)
  rw[←HR0.out]
  exact⟨s,by rw[HU.out];rfl,HOK.out,hM.forget.forget⟩
 ·have q1:(c != 0)=true:=bne_iff_ne.2 hc
  rw[if_pos hc] at hR0
  have HR0:=qh hR0
  clear hR0 hc HW tg rp
  (refine qw ?_;intros;rename_i hM)
  (refine qf ?_)
  rw[←HR0.out]
  exact⟨none,rfl,⟨rfl,rfl⟩,hM.forget.forget⟩
theorem ES(h:av X t zs hs w0)(I:In.Inv N t)(hN:N≤899990)(hl:hs.length≤900000)(o:Int)(p:OpD)(hp:ai p.path)(hd:ai p.dest)(hz:p.data.size≤1000000000):
  Calls Tryz.prog 87 #[.pointer (some ⟨X.f,0,none⟩),.int .i64 o,.agg p.cells.toArray] w0 (vr X t zs hs w0 (Hs.do_ t hs o p)):=by
 unfold Hs.do_
 by_cases cQ:Hs.right p=true∧p.kind=13
 ·rw[if_pos cQ]
  refine(EP h I hN o p hp hd cQ.1 cQ.2).mono ?_
  rintro e w' ⟨s,rfl,hok,hst⟩
  have hn:(Hs.lists t p.path).n=0∧(Hs.lists t p.path).data=⟨#[]⟩:=by
   unfold Hs.lists
   split<;> exact⟨rfl,rfl⟩
  unfold vr
  refine⟨s,X,zs,by simp only[hn.1,hn.2],hok,hst.whole,fun k hk=> ?_,(bX.refl h).below hst.to_below⟩
  obtain⟨y,hy,rfl⟩:=laKz.1 hk
  have h1:=(hst.own y hy (zL _ _ y hy)).resolve_left nofun
  refine⟨h1,fun h2=> ?_⟩
  have:=h.at_.lt _ h2
  omega
 ·rw[if_neg cQ]
  refine(Dv h I hN hl o p hp hd hz cQ).mono ?_
  rintro e w' ⟨rfl,X',zs',hto⟩
  exact⟨none,X',zs',rfl,⟨rfl,rfl⟩,⟨nofun,lcHz⟩,nofun,hto⟩
/-! ### file systems as the program's rows say them -/
structure dF (N:Nat) (X:bQ) (d:FsD) (zs:List NodV) (hs:List ae) (w:World):Prop where
 is:av X d.t zs hs w
 fM:Hs.bj hs d.h
 len:hs.length≤N
 inv:Ol.aH N d
theorem dF.below{d:FsD}(h:dF N X d zs hs w)(hb:Below w.heap.size w w'):dF N X d zs hs w':=⟨h.is.below hb,h.fM,h.len,h.inv⟩
theorem dF.more{d:FsD}{M:Nat}(h:dF N X d zs hs w)(hM:N≤M):dF M X d zs hs w:=⟨h.is,h.fM,Nat.le_trans h.len hM,h.inv.more hM⟩
structure OpD.Sm (p:OpD):Prop where
 path:p.path.size≤900000
 dest:p.dest.size≤900000
 data:p.data.size≤900000
theorem wU{p:ByteArray}(h:p.size≤900000):ai p:=by
 refine⟨by omega, ?_,fun s hs=>by have:=Pt.parts_small p s hs;omega⟩
 unfold Pt.parts
 split
 ·simp
 ·rw[Lib.splitB_all Pt.slash (by decide) 0 _ p rfl]
  have:=Lib.countB_le Pt.slash (by decide) _ p (Nat.le_refl _)
  omega
theorem Hs.gB(t:TabD)(hs:List ae)(o id:Int):(Hs.gives t hs o id).2.2.length≤hs.length+1:=by
 unfold Hs.gives
 split
 ·simp
 ·exact Nat.le_succ _
theorem Hs.nB(t:TabD)(hs:List ae)(o:Int)(p:OpD):(Hs.do_ t hs o p).2.2.length≤hs.length+1:=by
 unfold Hs.do_
 split
 ·exact Nat.le_succ _
 ·show(Hs.aO t hs o p).2.2.length≤_
  unfold Hs.aO
  split
  ·exact Nat.le_succ _
  split
  ·unfold Hs.handled
   split
   ·exact Nat.le_succ _
   split
   ·have:=Hs.hJ hs o p.h
    show(Hs.rest hs o p.h).length≤_
    omega
   split
   ·exact Nat.le_succ _
   split
   ·exact Nat.le_succ _
   split
   ·exact Nat.le_succ _
   ·exact Nat.le_succ _
  split
  ·exact Nat.le_succ _
  split
  ·exact Nat.le_succ _
  ·unfold Hs.aQ
   split
   ·exact Nat.le_succ _
   split
   ·exact Nat.le_succ _
   split
   ·exact Nat.le_succ _
   split
   ·split
    ·exact Nat.le_succ _
    ·exact Hs.gB _ _ _ _
   split
   ·split
    ·exact Nat.le_succ _
    ·exact Hs.gB _ _ _ _
   split
   ·unfold Hs.links
    split
    ·exact Nat.le_succ _
    split
    ·exact Nat.le_succ _
    ·exact Nat.le_succ _
   split
   ·exact Nat.le_succ _
   ·exact Nat.le_succ _
structure dU (N:Nat) (X:bQ) (d:FsD) (zs:List NodV) (hs:List ae) (d':FsD) (X':bQ) (zs':List NodV) (hs':List ae) (w w':World):Prop where
 f:X'.f=X.f
 g:X'.x.g=X.x.g
 fs:dF N X' d' zs' hs' w'
 only:Only (eO X hs) w w'
 own: ∀ k∈eO X' hs',k∈eO X hs∨w.heap.size≤k
 grow:Grow w (ze (bw X d.t.quota (d.t.last+1) zs hs)) (ze (bw X' d'.t.quota (d'.t.last+1) zs' hs'))
theorem bX.fs{d d':FsD}(hto:bX X d.t zs hs X' t' zs' hs' w w')(ht:t'=d'.t)(hl:Hs.bj hs' d'.h)(hn:hs'.length≤N)(I:Ol.aH N d'):dU N X d zs hs d' X' zs' hs' w w':=by
 subst ht
 refine⟨hto.f,hto.g,⟨hto.is,hl,hn,I⟩,hto.only,fun k hk=> ?_,hto.grow⟩
 rcases Zx.1 hk with e|e|e
 ·exact .inl (Zx.2 (.inl (e.trans hto.f)))
 ·exact hto.own k e
 ·exact .inl (Zx.2 (.inr (.inr (e.trans hto.g))))
def ET(N:Nat)(X:bQ)(d:FsD)(zs:List NodV)(hs:List ae)(w:World)(r:ResD×FsD)(e:Ending)(w':World):Prop:=
 ∃ s X' zs' hs',e= .returned (.agg #[.int .i64 r.1.err,.int .i64 r.1.n,.string r.1.data,slV s r.1.names.length])∧TxOK s r.1.names∧At (txL s r.1.names) w'∧(∀ k∈ze (txL s r.1.names),w.heap.size≤k∧k∉ze (bw X' r.2.t.quota (r.2.t.last+1) zs' hs'))∧dU N X d zs hs r.2 X' zs' hs' w w'
theorem Xg{d:FsD}(h:dF N X d zs hs w0)(hN:N≤899990){o:Int}(ho:Fits o)(p:OpD)(hp:p.Sm):
  Calls Tryz.prog 87 #[.pointer (some ⟨X.f,0,none⟩),.int .i64 o,.agg p.cells.toArray] w0 (ET (N+3) X d zs hs w0 (Fs.do_ d o p)):=by
 refine(ES h.is h.inv.inv.tbl hN (by have:=h.len;omega) o p (wU hp.path) (wU hp.dest) (by have:=hp.data;omega)).mono ?_
 rintro e w' ⟨s,X',zs',rfl,hok,hA,hfr,hto⟩
 obtain⟨e1,e2,e3⟩:=Hs.l5 h.inv.inv h.fM o p
 have hln:=Hs.nB d.t hs o p
 have h0:=h.len
 have lf:=Ol.gM h.inv (by omega) ho p
 rw[e1] at hok hA hfr ⊢
 rw[e2] at hfr
 exact⟨s,X',zs',_,rfl,hok,hA,hfr,hto.fs e2 e3 (by omega) lf⟩
theorem XE{d:FsD}(h:dF N X d zs hs w0)(hN:N≤900000){o:Int}(ho:Fits o):
  Calls Tryz.prog 86 #[.pointer (some ⟨X.f,0,none⟩),.int .i64 o] w0 fun e w'=>e= .returned (.tuple #[])∧ ∃ X' zs' hs',dU N X d zs hs (Fs.exit d o) X' zs' hs' w0 w':=by
 refine(Ca h.is h.inv.inv.tbl hN o).mono ?_
 rintro e w' ⟨rfl,X',zs',hto⟩
 obtain⟨e1,e2⟩:=Hs.kd h.inv.inv h.fM o
 have hln:=Hs.hJ hs o 0
 have h0:=h.len
 exact⟨rfl,X',zs',_,hto.fs e1 e2 (by omega) (Ol.cm h.inv ho)⟩
end
end
section
open Go.RowKit Go.Maps
namespace Hs
theorem jl{o:Int}: ∀ {os:List Int} {j:Nat},(∀ i v,i<j→os[i]? =some v→v<o)→j≤os.length→(∀ v,os[j]? =some v→o<v)→Zz o os=os.take j++o::os.drop j
 |[],j,_,hj,_=>by
  obtain rfl:j=0:=by simpa using hj
  rfl
 |y::r,0,_,_,hv=>by
  have:=hv y rfl
  unfold Zz
  rw[if_neg (by omega),if_neg (by omega)]
  rfl
 |y::r,j+1,h,hj,hv=>by
  have h0:=h 0 y (by omega) rfl
  unfold Zz
  rw[if_pos h0,jl (j:=j) (fun i v hi iQ=>h (i+1) v (by omega) iQ) (by simpa using hj) (fun v iQ=>hv v iQ)]
  rfl
theorem gC{o:Int}: ∀ {os:List Int} {j:Nat},(∀ i v,i<j→os[i]? =some v→v<o)→os[j]? =some o→Zz o os=os
 |[],j,_,h=>by cases j<;> cases h
 |y::r,0,_,h=>by
  obtain rfl:y=o:=by simpa using h
  unfold Zz
  rw[if_neg (by omega),if_pos rfl]
 |y::r,j+1,h,hj=>by
  have h0:=h 0 y (by omega) rfl
  unfold Zz
  rw[if_pos h0,gC (j:=j) (fun i v hi iQ=>h (i+1) v (by omega) iQ) hj]
theorem iC{hs:List ae}{k:Nat}{z:ae}(h:hs[k]? =some z):af (hs.take (k+1))=Zz z.owner (af (hs.take k)):=by
 rw[lbJz,h,Option.toList_some,EO]
theorem wV(o:Int): ∀ l:List Int,(Zz o l).length≤l.length+1
 |[]=>Nat.le_refl _
 |y::r=>by
  have:=wV o r
  unfold Zz
  split
  ·simp only[laPz];omega
  ·split<;> simp only[laPz]<;> omega
theorem fN(hs:List ae):(af hs).length≤hs.length:=by
 have key: ∀ (hs:List ae) (l:List Int),(hs.foldl (fun l z=>Zz z.owner l) l).length≤l.length+hs.length:=by
  intro hs
  induction hs with
  |nil=>intro l;exact Nat.le_refl _
  |cons z r ih=>
   intro l
   have h1:=ih (Zz z.owner l)
   have h2:=wV z.owner l
   simp only[ldKz,laPz]
   omega
 have:=key hs []
 rw[lcGz,Nat.zero_add] at this
 exact this
end Hs
section
variable {w w' w0 w1 w2:World}{X X':bQ}{t t':TabD}{zs zs':List NodV}{hs hs':List ae}{N:Nat}{F:List Nat}{L:List Ent}
theorem xL{os:List Int}: ∀ (l:List Value),(∀ x∈l,x∈os.map (Value.int .i64))→l.all (·.oneCell')=true:=fun l h=>by
 rw[ldRz]
 intro x hx
 obtain⟨i,-,rfl⟩:=laKz.1 (h x hx)
 rfl
theorem St.lg{y:Ent}{A B:List Ent}(hM:St w0 F w (y::(A++B))):St w0 F w A:=hM.subM ((lbAz _ _).cons _)
theorem wW(h:av X t zs hs w0):Calls Tryz.prog 42 #[.pointer (some ⟨X.f,0,none⟩)] w0 fun e w'=> ∃ s,e= .returned (slV s (Hs.af hs).length)∧SlOK s (Hs.af hs).length ((Hs.af hs).map (Value.int .i64)) 1∧St w0 [] w' (slL s ((Hs.af hs).map (Value.int .i64)) 3 1):=by
 have hM:=St.start w0 []
 have hrow:=h.row
 have hln:=h.hlen
 have HN:=qh h.hnd
 have HS:=qh h.hok
 obtain⟨va,vc,hv,hva⟩:=zf h.hok
 rw[hv] at hrow
 obtain⟨xf,xx,xh⟩:=X
 simp only at hrow HN HS hva ⊢
 have c1:w0.cell? ⟨xf,1,none⟩=some (.slice va hs.length vc):=hrow 1 _ rfl
 clear h hrow hv
 go_enter Tryz.func42,Tryz.ntmps42
 (refine qw ?_;intros;rename_i hM)
 change St w0 [] _ (slL none (([]:List Int).map (Value.int .i64)) 3 1) at hM
 go_loopw [3,4,5,6] (fun out i _ _ wr=> ∃ (k:Nat) (s:Option (Nat×Nat)),k≤hs.length∧i= .int .i64 k∧out=slV s (Hs.af (hs.take k)).length∧Hid (SlOK s (Hs.af (hs.take k)).length ((Hs.af (hs.take k)).map (Value.int .i64)) 1)∧St w0 [] wr (slL s ((Hs.af (hs.take k)).map (Value.int .i64)) 3 1)) (fun _ i _ _ _=>hs.length - (intOf i).toNat)
 case atStart=>exact⟨0,none,by omega,rfl,rfl,qh ⟨rfl,rfl⟩,hM⟩
 case round=>
  clear hM
  obtain⟨k,s,hk,rfl,rfl,HK,hM⟩:=hrel
  by_cases hlt:k<hs.length
  ·obtain⟨z,hz⟩:=zK hlt
   have k1:(k:Int)<(hs.length:Int):=by omega
   rcases xh with _|⟨g1,cap1⟩
   ·exact absurd HS.out.2 (by omega)
   obtain⟨rfl,rfl⟩:=hva g1 cap1 rfl
   have r1:=rf HN.out hz
   have c0:w0.cell? ⟨g1,k*3,none⟩=some (.int .i64 z.owner):=r1 0 _ rfl
   have iD:=qh (Hs.iC hz)
   have oH:(Hs.af (hs.take k)).length≤hs.length:=by
    have h1:=Hs.fN (hs.take k)
    rw[lbTz] at h1
    omega
   generalize Hs.af (hs.take k)=os at*
   obtain⟨ua,uc,hu,j6⟩:=zf HK.out
   have IZ:=tf HK.out hu
   have HC:=qh (te HK.out hu)
   have HU:=qh hu
   rw[hu]
   clear hz r1 hu
   (refine qw ?_;intros;rename_i hM)
   go_loopw [5] (fun q wr=> ∃ j:Nat,j≤os.length∧q= .int .i64 j∧Hid (∀ (i:Nat) (v:Int),i<j→os[i]? =some v→v<z.owner)∧St w0 [] wr (slL s (os.map (Value.int .i64)) 3 1)) (fun q _=>os.length - (intOf q).toNat)
   case atStart=>exact⟨0,by omega,rfl,qh (fun i v hi=>by omega),hM⟩
   case round=>
    clear hM
    obtain⟨j,hj,rfl,HB,hM⟩:=hrel
    by_cases mT:j<os.length
    ·obtain⟨v,hv⟩:=zK mT
     have j1:(j:Int)<(os.length:Int):=by omega
     obtain⟨g2,cap2,rfl⟩: ∃ g2 cap2,s=some (g2,cap2):=by
      rcases s with _|⟨g2,cap2⟩
      ·exact absurd HK.out.2 (by omega)
      ·exact⟨g2,cap2,rfl⟩
     obtain⟨rfl,rfl⟩:=j6 g2 cap2 rfl
     have hx':(os.map (Value.int .i64))[j]? =some (.int .i64 v):=by rw[lbCz,hv];rfl
     by_cases jm:v<z.owner
     ·have HB2:=qh (show ∀ (i:Nat) (u:Int),i<j+1→os[i]? =some u→u<z.owner from fun i u hi hu=>by
       by_cases hij:i<j
       ·exact HB.out i u hij hu
       ·obtain rfl:i=j:=by omega
        rw[hv] at hu
        cases hu
        exact jm)
      have q1:decide (v<z.owner)=true:=decide_eq_true jm
      clear hv mT hlt
      simp only[slL,laIz,laJz] at hM
      (refine qw ?_;intros;rename_i hM)
      (try simp only[Exit.then])
      (refine⟨?_,qio⟩;repeat(first|exact⟨⟨j+1,by omega,rfl,HB2,hM⟩,rfl⟩|apply Exists.intro))
     ·have q1:decide (v<z.owner)=false:=decide_eq_false jm
      by_cases th:v=z.owner
      ·subst th
       have HE:=qh (iD.out.trans (Hs.gC HB.out hv))
       clear hv mT hlt jm
       simp only[slL,laIz,laJz] at hM
       (refine qw ?_;intros;rename_i hM)
       (try simp only[Exit.then])
       rw[←HU.out]
       (refine⟨?_,qio⟩;repeat(first|exact⟨⟨k+1,some (g2,uc),by omega,rfl,by rw[HE.out],by rw[HE.out];exact HK,by rw[HE.out];exact hM⟩,rfl⟩|apply Exists.intro))
      ·have q2:(v==z.owner)=false:=qne.2 th
       have HJ:=qh (Hs.jl HB.out hj (fun u hu=>by rw[hv] at hu;cases hu;omega))
       clear hv hlt jm th
       simp only[slL,laIz,laJz] at hM
       (refine qw ?_;intros;rename_i hM)
       refine St.slcTo rfl rfl rfl rfl rfl Tryz.underlying49 (sz:=1) (by kernel_rfl) (by omega) ?_
       (refine qq ?_)
       change St w0 [] _ (slL none ([]:List Value) 3 1++slL (some (g2,uc)) (os.map (Value.int .i64)) 3 1) at hM
       refine St.appendAny (s:=none) (n:=0) (xs:=[]) (news:=(os.map (Value.int .i64)).take j) rfl hM rfl rfl rfl rfl rfl (by kernel_rfl) (fun s'=>Swap.here (M:=[])) ⟨rfl,rfl⟩ (fun h=>by have:=HC.out h;omega) (by rw[lbTz,lbMz];omega) (fun ad h j' u cK=>by
        obtain⟨g,rfl,hc⟩:=hM.fL (xs:=os.map (Value.int .i64)) (e:=3) (sz:=1) (fun y hy=>by first|exact hy|exact laCz _ hy) HU.out ad h
        rw[ZT,Nat.zero_add]
        refine hc j' u ?_
        rw[lcKz] at cK
        split at cK
        ·exact cK
        ·cases cK) (xL _ (fun x hx=>lcIz hx)) (by rw[zj];omega) (by omega) (fun _=> .inr rfl) ?_
       clear hM;intro w s1 hM hk1 _ _
       simp only[laJz,Nat.zero_add] at hM hk1 ⊢
       have HK1:=qh hk1
       obtain⟨ub,ud,hu1,-⟩:=zf hk1
       clear hk1
       rw[hu1]
       (refine qq ?_)
       (refine qw ?_;intros;rename_i hM)
       rw[←hu1]
       refine St.append (s:=s1) (n:=j) (xs:=(os.map (Value.int .i64)).take j) rfl hM rfl rfl rfl rfl rfl (by kernel_rfl) qsf HK1.out rfl (hM.news qm) rfl (by rw[zj];omega) (by omega) (fun h=>by cases h) ?_
       clear hM;intro w s2 hM hk2 _
       simp only[Res.known] at hM hk2
       have HK2:=qh hk2
       obtain⟨ue,uf,hu2,-⟩:=zf hk2
       clear hk2
       rw[hu2]
       (refine qq ?_)
       (refine qw ?_;intros;rename_i hM)
       rw[←hu2]
       refine St.appendAny (s:=s2) (n:=j+1) (xs:=(os.map (Value.int .i64)).take j++[.int .i64 z.owner]) (news:=(os.map (Value.int .i64)).drop j) rfl hM rfl rfl rfl rfl rfl (by kernel_rfl) qsf HK2.out (fun h=>by
        rw[if_neg (by omega)] at h
        cases h) (by rw[lbXz,lbMz];omega) (fun ad h j' u cK=>by
        rw[if_neg (by omega)] at h
        cases h
        rw[lcFz] at cK
        obtain⟨g,hg,hc⟩:=hM.fL (xs:=os.map (Value.int .i64)) (e:=3) (sz:=1) (fun y hy=>by first|exact hy|exact laCz _ hy|exact .tail _ (laCz _ hy)|exact laCz _ (laCz _ hy)|exact .tail _ (.tail _ hy)) HU.out _ rfl
        cases hg
        rw[ZT]
        exact hc _ u cK) (xL _ (fun x hx=>List.mem_of_mem_drop hx)) (by rw[zj];omega) (by omega) (fun h=>by cases h) ?_
       clear hM;intro w s3 hM aL _ _
       have e1:(os.map (Value.int .i64)).take j++[.int .i64 z.owner]++(os.map (Value.int .i64)).drop j=(Hs.af (hs.take (k+1))).map (Value.int .i64):=by
        rw[iD.out,HJ.out]
        simp
       have e2:j+1+(os.length - j)=(Hs.af (hs.take (k+1))).length:=by
        rw[iD.out,HJ.out,laNz,laPz,lbTz,lbXz]
        omega
       rw[e1] at hM aL
       rw[e2] at aL
       rw[e2]
       have HK3:=qh aL
       obtain⟨ug,uh,dv,-⟩:=zf aL
       clear aL e1 e2
       rw[dv]
       (refine qq ?_)
       (refine qw ?_;intros;rename_i hM)
       replace hM:=hM.lg
       (try simp only[Exit.then])
       rw[←dv]
       (refine⟨?_,qio⟩;repeat(first|exact⟨⟨k+1,s3,by omega,rfl,rfl,HK3,hM⟩,rfl⟩|apply Exists.intro))
    ·have j0:¬((j:Int)<(os.length:Int)):=by omega
     have HJ:=qh (Hs.jl HB.out hj (fun u hu=>by rw[lcTz (by omega)] at hu;cases hu))
     clear mT hlt
     (refine qw ?_;intros;rename_i hM)
     refine St.slcTo rfl rfl rfl rfl rfl Tryz.underlying49 (sz:=1) (by kernel_rfl) (by omega) ?_
     (refine qq ?_)
     change St w0 [] _ (slL none ([]:List Value) 3 1++slL s (os.map (Value.int .i64)) 3 1) at hM
     refine St.appendAny (s:=none) (n:=0) (xs:=[]) (news:=(os.map (Value.int .i64)).take j) rfl hM rfl rfl rfl rfl rfl (by kernel_rfl) (fun s'=>Swap.here (M:=[])) ⟨rfl,rfl⟩ (fun h=>by have:=HC.out h;omega) (by rw[lbTz,lbMz];omega) (fun ad h j' u cK=>by
      obtain⟨g,rfl,hc⟩:=hM.fL (xs:=os.map (Value.int .i64)) (e:=3) (sz:=1) (fun y hy=>by first|exact hy|exact laCz _ hy) HU.out ad h
      rw[ZT,Nat.zero_add]
      refine hc j' u ?_
      rw[lcKz] at cK
      split at cK
      ·exact cK
      ·cases cK) (xL _ (fun x hx=>lcIz hx)) (by rw[zj];omega) (by omega) (fun _=> .inr rfl) ?_
     clear hM;intro w s1 hM hk1 _ _
     simp only[laJz,Nat.zero_add] at hM hk1 ⊢
     have HK1:=qh hk1
     obtain⟨ub,ud,hu1,-⟩:=zf hk1
     clear hk1
     rw[hu1]
     (refine qq ?_)
     (refine qw ?_;intros;rename_i hM)
     rw[←hu1]
     refine St.append (s:=s1) (n:=j) (xs:=(os.map (Value.int .i64)).take j) rfl hM rfl rfl rfl rfl rfl (by kernel_rfl) qsf HK1.out rfl (hM.news qm) rfl (by rw[zj];omega) (by omega) (fun h=>by cases h) ?_
     clear hM;intro w s2 hM hk2 _
     simp only[Res.known] at hM hk2
     have HK2:=qh hk2
     obtain⟨ue,uf,hu2,-⟩:=zf hk2
     clear hk2
     rw[hu2]
     (refine qq ?_)
     (refine qw ?_;intros;rename_i hM)
     rw[←hu2]
     refine St.appendAny (s:=s2) (n:=j+1) (xs:=(os.map (Value.int .i64)).take j++[.int .i64 z.owner]) (news:=(os.map (Value.int .i64)).drop j) rfl hM rfl rfl rfl rfl rfl (by kernel_rfl) qsf HK2.out (fun h=>by
      have h1:=HC.out (by
       split at h
       ·exact h
       ·exact Option.map_eq_none_iff.1 h)
      omega) (by rw[lbXz,lbMz];omega) (fun ad h j' u cK=>by
      rw[lcFz] at cK
      have hb:=(laHz.1 cK).1
      rw[lbMz] at hb
      rw[if_neg (by omega)] at h
      obtain⟨mR,h1,rfl⟩:=Option.map_eq_some_iff.1 h
      obtain⟨g,rfl,hc⟩:=hM.fL (xs:=os.map (Value.int .i64)) (e:=3) (sz:=1) (fun y hy=>by first|exact hy|exact laCz _ hy|exact .tail _ (laCz _ hy)|exact laCz _ (laCz _ hy)|exact .tail _ (.tail _ hy)) HU.out mR h1
      rw[ZT,ZT,Nat.zero_add]
      (try rw[show j*1+j'=j+j' by omega])
      exact hc _ u cK) (xL _ (fun x hx=>List.mem_of_mem_drop hx)) (by rw[zj];omega) (by omega) (fun h=>by cases h) ?_
     clear hM;intro w s3 hM aL _ _
     have e1:(os.map (Value.int .i64)).take j++[.int .i64 z.owner]++(os.map (Value.int .i64)).drop j=(Hs.af (hs.take (k+1))).map (Value.int .i64):=by
      rw[iD.out,HJ.out]
      simp
     have e2:j+1+(os.length - j)=(Hs.af (hs.take (k+1))).length:=by
      rw[iD.out,HJ.out,laNz,laPz,lbTz,lbXz]
      omega
     rw[e1] at hM aL
     rw[e2] at aL
     rw[e2]
     have HK3:=qh aL
     obtain⟨ug,uh,dv,-⟩:=zf aL
     clear aL e1 e2
     rw[dv]
     (refine qq ?_)
     (refine qw ?_;intros;rename_i hM)
     replace hM:=hM.lg
     (try simp only[Exit.then])
     rw[←dv]
     (refine⟨?_,qio⟩;repeat(first|exact⟨⟨k+1,s3,by omega,rfl,rfl,HK3,hM⟩,rfl⟩|apply Exists.intro))
  ·have k0:¬((k:Int)<(hs.length:Int)):=by omega
   obtain rfl:k=hs.length:=by omega
   rw[lbSz] at HK hM ⊢
   have oH:(Hs.af hs).length≤hs.length:=Hs.fN hs
   obtain⟨ua,uc,hu,j6⟩:=zf HK.out
   have HU:=qh hu
   rw[hu]
   clear hlt hk hu
   (refine qw ?_;intros;rename_i hM)
   (refine qf ?_)
   exact⟨s,by rw[HU.out];rfl,HK.out,hM⟩
end
end
section
open Go.RowKit Go.Maps
section
variable {w w' w0 w1 w2:World}{X X':bQ}{t t':TabD}{zs zs':List NodV}{hs hs':List ae}{N:Nat}{F:List Nat}{L:List Ent}
theorem ti(h:av X t zs hs w0)(id:Int):An 148 #[.pointer (some ⟨X.f,0,none⟩),.int .i64 id] w0 (match Zd zs id with|some z=> .agg z.cells.toArray|none=>nodZ):=by
 have hM:=St.start w0 []
 have hrow:=h.row
 have jN:=h.tbl.raw.row
 have hln:=h.len
 have hnd:=h.tbl.raw.nod
 have HS:=qh h.sl
 have HNM:=qh h.names
 obtain⟨xf,⟨g,xs⟩,xh⟩:=X
 obtain⟨va,vc,hv,hva⟩:=zf h.sl
 simp only at hrow jN hnd hv hva HS ⊢
 rw[hv] at jN
 have c0:w0.cell? ⟨xf,0,none⟩=some (.pointer (some ⟨g,0,none⟩)):=hrow 0 _ rfl
 have c2:w0.cell? ⟨g,2,none⟩=some (.slice va zs.length vc):=jN 2 _ rfl
 have HN:=qh hnd
 obtain⟨v0,hv0⟩: ∃ v,v=(match Zd zs id with|some z=>Value.agg z.cells.toArray|none=>nodZ):=⟨_,rfl⟩
 rw[←hv0]
 have HV:=qh hv0
 clear h hrow jN hnd hv hv0
 go_enter Tryz.func148,Tryz.ntmps148
 (repeat(first|(refine qW ?_;intros;rename_i hM)|(refine qMk ?_;clear hM;intro w bk hM)))
 go_loopw [5] (fun i wr=> ∃ k:Nat,k≤zs.length∧i= .int .i64 k∧Hid (Zd zs id=Zd (zs.drop k) id)∧St w0 [] wr [(bk,true,Res.cells [.int .i64 0,.bool false,.int .i64 0,.int .i64 0,.string ⟨#[]⟩,.slice none 0 0] 124)]) (fun i _=>zs.length - (intOf i).toNat)
 case atStart=>exact⟨0,by omega,rfl,qh rfl,hM⟩
 case round=>
  clear hM
  obtain⟨k,hk,rfl,HF,hM⟩:=hrel
  by_cases hlt:k<zs.length
  ·obtain⟨z,hz⟩:=zK hlt
   have k1:(k:Int)<(zs.length:Int):=by omega
   rcases xs with _|⟨g1,cap1⟩
   ·exact absurd HS.out.2 (by omega)
   obtain⟨rfl,rfl⟩:=hva g1 cap1 rfl
   have r1:=zac HN.out hz
   have hd:zs.drop k=z::zs.drop (k+1):=by rw[lbIz hlt,(laHz.1 hz).2]
   have HF':=HF.out
   unfold Zd at HF'
   rw[hd,lbGz] at HF'
   have I5:w0.cell? ⟨g1,k*6,none⟩=some (.int .i64 z.1.id):=r1 0 _ rfl
   obtain⟨za,zc,hzv,-⟩:=zf (HNM.out z (laQz hz))
   rw[NodV.open hzv] at r1
   have HZV:=qh (NodV.open hzv)
   clear hz hd HF hzv
   by_cases he:z.1.id=id
   ·have q1:(z.1.id==id)=true:=beq_iff_eq.2 he
    rw[q1] at HF'
    have HFF:=qh (show v0= .agg z.cells.toArray by rw[HV.out];unfold Zd;rw[HF'])
    clear HF' he HV
    (repeat(first|(refine qW ?_;intros;rename_i hM)|(refine qMk ?_;clear hM;intro w bk hM)))
    (refine qf ?_)
    exact⟨by rw[HFF.out,HZV.out];rfl,hM.to_below⟩
   ·have q1:(z.1.id==id)=false:=qne.2 he
    rw[q1] at HF'
    have HFF:=qh (show Zd zs id=Zd (zs.drop (k+1)) id from HF')
    clear HF' he
    (repeat(first|(refine qW ?_;intros;rename_i hM)|(refine qMk ?_;clear hM;intro w bk hM)))
    (try simp only[Exit.then])
    (refine⟨?_,qio⟩;repeat(first|exact⟨⟨k+1,by omega,rfl,HFF,hM⟩,rfl⟩|apply Exists.intro))
  ·have k0:¬((k:Int)<(zs.length:Int)):=by omega
   obtain rfl:k=zs.length:=by omega
   have HF':=HF.out
   rw[lcPz] at HF'
   have HFF:=qh (show v0=nodZ by rw[HV.out,HF'];rfl)
   clear hlt hk HF HF' HV
   (repeat(first|(refine qW ?_;intros;rename_i hM)|(refine qMk ?_;clear hM;intro w bk hM)))
   (refine qf ?_)
   exact⟨by rw[HFF.out];rfl,hM.to_below⟩
end
end
end Go.Proofs.YtcicjklhbnipcaaGreatDoor
