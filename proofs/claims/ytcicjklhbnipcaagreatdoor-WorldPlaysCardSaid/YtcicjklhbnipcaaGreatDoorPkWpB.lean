/-
  Laid texts.
-/
import Derived.Test.YtcicjklhbnipcaaGreatDoorPkWpA
import Derived.BigRegion
import Derived.ChangeAlike
import Derived.Deep.RegionWith
import Derived.Ground.GgzProg
import Derived.Ground.SlgmProg
import Derived.Ground.SlmcProg
import Derived.RegionTactic
import Derived.Shelf.SlIter.Nil
import Derived.Shelf.SlIterI.Nil
import Derived.Shelf.SlMaps.Clone
import Derived.Shelf.SortM.Plain
import Derived.Shelf.SortM.SortNone
import Derived.StillTailTactics
set_option maxHeartbeats 16000000
set_option maxRecDepth 1000000
set_option linter.unusedVariables false
set_option linter.unusedSimpArgs false
namespace Go.Proofs.YtcicjklhbnipcaaGreatDoor
section
open Go.RowKit Go.Maps
structure Step (w w':World) (g mb:Nat) (β:Int→Nat×Nat) (t t':TabD):Prop where
 tbl:TblAt w' g mb β t'
 only:Only (foot g mb β t.nodes) w w'
 foot: ∀ k∈foot g mb β t'.nodes,k∈foot g mb β t.nodes
theorem Step.trans{a b c:World}{g mb:Nat}{β:Int→Nat×Nat}{t t1 t2:TabD}(h:Step a b g mb β t t1)(k:Step b c g mb β t1 t2):Step a c g mb β t t2:=
 ⟨k.tbl,h.only.trans (k.only.mono h.foot),fun x hx=>h.foot x (k.foot x hx)⟩
theorem ZG{P:Program}(w:World){ops:Array Oper}{rest:List Oper}{o:Oper}{a:Act}{Q:Exit→Act→World→Prop}(hg:o.guard=none)(m x:Operand)(t k:TypeId)(hop:o.op=Op.call {callee:=Callee.builtin Builtin.delete,args:= #[m,x],argTypes:= #[t,k]})
  (e:TypeId) (K:Keyed P k) (ht:P.underlying t=some (.map k e)) (b:Nat) (l:List (Lit×Value)) (hm:a.eval m= .map (some b)) (h:zA P k w b l) (key:Value) (kl:Lit) (hx:a.eval x=key) (hkey:keyOf P k key=some kl)
  (hK: ∀ w',zA P k w' b (delL kl l)→w.mapTurned w' b→wpList P ops Q rest (a.put o.dst (.tuple #[])) w'):wpList P ops Q (o::rest) a w:=by
 refine wpList_delete_own w hg m x t k hop e K ht Ze b l.length (Zh l) hm h key kl hx hkey ?_
 intro w' h1 h2
 rw[zgF] at h1
 exact hK w' (zA.of h1) h2
theorem ZO{P:Program}(w:World){ops:Array Oper}{rest:List Oper}{o:Oper}{a:Act}{Q:Exit→Act→World→Prop}(hg:o.guard=none)(m x v:Operand)(t:TypeId)(hop:o.op=Op.mapUpdate t m x v)
  (k e:TypeId) (K:Keyed P k) (ht:P.underlying t=some (.map k e)) (b:Nat) (l:List (Lit×Value)) (hm:a.eval m= .map (some b)) (h:zA P k w b l) (hn:l.length<maxLen) (key val:Value) (kl:Lit) (hx:a.eval x=key) (hv:a.eval v=val) (hkey:keyOf P k key=some kl)
  (hK: ∀ w',zA P k w' b (putL kl val l)→w.mapTurned w' b→wpList P ops Q rest (a.put o.dst undef) w'):wpList P ops Q (o::rest) a w:=by
 refine wpList_plain hg fun K' hK'=> ?_
 obtain⟨w',hrun,r1,r2⟩:=zA.store h K ht hn (val:=val) hkey
 unfold Oper.wp
 simp[execOp,hop,hm,hx,hv,hrun,Result.andThen]
 exact hK' _ _ (hK w' r1 r2)
section
variable {w:World}{g mb:Nat}{β:Int→Nat×Nat}{t:TabD}
theorem zgS(h:TblAt w g mb β t){id:Int}(hid:Fits id){n:NodeD}(hn:In.find t.nodes id=some n)(hs:n.data.size≤1048576)(hu0:0≤t.used)(hu:t.used≤1099511627776):
  Calls Tryz.prog 167 #[.pointer (some ⟨g,0,none⟩),.int .i64 id] w fun e w'=>e= .returned (.tuple #[])∧Step w w' g mb β t (In.gone t id):=by
 have hl:=yz h hid
 rw[ZN hn] at hl
 obtain⟨c0,c1,c2,c3⟩:=zS h
 obtain⟨d0,d1,d2,d3,d4⟩:=zw (h.at hn)
 have HG:=Lib.hid (show In.gone t id=if n.links==0&&n.holds==0 then {t with used:=t.used - (64+n.data.size),nodes:=In.del t.nodes id} else t by unfold In.gone;rw[zW hn])
 have HT:=Lib.hid h
 cases e1:n.links==0 with
 |false=>
  have HF:=Lib.hid (show In.gone t id=t by rw[HG.out,e1];rfl)
  clear h hn HG
  go_enter Tryz.func167,Tryz.ntmps167
  go_wp2_with fail
  go_end0
  exact⟨rfl,by rw[HF.out];exact⟨HT.out,Only.refl _ _,fun _ h=>h⟩⟩
 |true=>
  cases e2:n.holds==0 with
  |false=>
   have HF:=Lib.hid (show In.gone t id=t by rw[HG.out,e1,e2];rfl)
   clear h hn HG
   go_enter Tryz.func167,Tryz.ntmps167
   go_wp2_with fail
   go_end0
   exact⟨rfl,by rw[HF.out];exact⟨HT.out,Only.refl _ _,fun _ h=>h⟩⟩
  |true=>
   have HF:=Lib.hid (show In.gone t id={t with used:=t.used - (64+n.data.size),nodes:=In.del t.nodes id} by rw[HG.out,e1,e2];rfl)
   have f1:=ZH h.row 1
   have HU:=Lib.hid (h.set_used (t.used - (64+n.data.size)))
   have HM:=Lib.hid HU.out.map
   clear h hn HG
   go_enter Tryz.func167,Tryz.ntmps167
   go_wp2_with fail
   go_region
   go_wp2_with (at_delete;refine ZG _ rfl _ _ 160 3 rfl 163 zq Tryz.underlying160 mb _ rfl HM.out _ _ rfl (keyOf_int_mk Tryz.underlying3 hid) ?_;intro w2 hm2 ht2;have HM2:=Lib.hid hm2;have HT2:=Lib.hid ht2;clear hm2 ht2)
   go_end0
   refine⟨rfl, ?_⟩
   rw[HF.out]
   exact⟨(HU.out.on (w':=(w.setCell ⟨g,1,none⟩ (.int .i64 (t.used - (64+n.data.size)))).drew) (fun _ _=>rfl)).del_upd (fun k _ hk=>Zm HT2.out hk) HM2.out,
    (((Only.refl _ w).setCell (.inl (zE.2 (.inl rfl))) _).drew).turned HT2.out (.inl (zE.2 (.inr (.inl rfl)))),
    fun k hk=>(XP _ _ _ _ _).subset hk⟩
theorem zjU{l:List NodeD}{id:Int}{n:NodeD}(h:In.find l id=some n):(In.find l id).isSome=true:=by rw[h];rfl
theorem YB{t:TabD}{id':Int}{n o:NodeD}(ho:In.find t.nodes id'=some o)(hi:n.id=id')(id:Int):In.find (In.setN t n).nodes id=if id=id' then some n else In.find t.nodes id:=by
 subst hi;exact zln (zjU ho)
theorem xM{t:TabD}{id:Int}{n o:NodeD}(ho:In.find t.nodes id=some o)(hi:n.id=id):In.find (In.setN t n).nodes id=some n:=by rw[YB ho hi,if_pos rfl]
theorem zlv(h:TblAt w g mb β t){dir:Int}{s:ByteArray}(hs:s.size≤maxLen){d:NodeD}(hd:In.find t.nodes dir=some d){id:Int}(hid:Fits id)(hl:In.leads d.names s=id){t1:TabD}(ht1:In.setN t {d with names:=In.without d.names s}=t1)
  {n:NodeD} (hn:In.find t1.nodes id=some n) (hsz:n.data.size≤1048576) (hu0:0≤t.used) (hu:t.used≤1099511627776) (hl0:0≤n.links) (hl1:n.links≤4611686018427387904):
  Calls Tryz.prog 166 #[.pointer (some ⟨g,0,none⟩),.pointer (some ⟨(β dir).1,0,none⟩),.string s] w fun e w'=>e= .returned (.tuple #[])∧Step w w' g mb β t (In.gone (In.setN t1 {n with links:=n.links - 1}) id):=by
 have hA:=h.at hd
 obtain⟨-,-,-,-,d4⟩:=zw hA
 have ll:=ZS hA.names hs
 rw[hl] at ll
 have HNm:=Lib.hid hA.names
 have hdi:=(zk hd).2
 have hni:=(zk hn).2
 have HT:=Lib.hid h
 have T1: ∀ w1:World,yF w1 (β dir).2 (In.without d.names s)→w.mapTurned w1 (β dir).2→TblAt w1 g mb β t1:=fun w1 h1 h2=>by
  rw[←ht1]
  exact h.set_names hd h1 h2
 have hft:foot g mb β t1.nodes=foot g mb β t.nodes:=by rw[←ht1];exact yT _ _ _ _ _
 have hu1:t1.used=t.used:=by rw[←ht1];rfl
 have HF:=Lib.hid hft
 have HM:(β dir).2∈foot g mb β t.nodes:=zE.2 (.inr (.inr ⟨d,(zk hd).1,.inr (by rw[hdi])⟩))
 have G:=Lib.hid (fun (w1:World) (T:TblAt w1 g mb β t1)=>zgS (T.set_links hn (n.links - 1)) hid (n:={n with links:=n.links - 1}) (xM (n:={n with links:=n.links - 1}) hn hni) hsz (show 0≤t1.used by omega) (show t1.used≤1099511627776 by omega))
 have HLk:=Lib.hid (fun (w1:World) (T:TblAt w1 g mb β t1)=>T.set_links hn (n.links - 1))
 have HM1:(β id).1∈foot g mb β t1.nodes:=zE.2 (.inr (.inr ⟨n,(zk hn).1,.inl (by rw[hni])⟩))
 have HT1:=Lib.hid T1
 have HN:=Lib.hid hn
 have HI:=Lib.hid hni
 clear h hA hl hd hdi hni T1 hft hn ht1 hu1
 go_enter Tryz.func166,Tryz.ntmps166
 go_wp2_with (first
  |(at_delete;refine ZG _ rfl _ _ 164 9 rfl 3 yC Tryz.underlying164 (β dir).2 _ rfl HNm.out _ _ rfl (WideMaps.keyOf_string_mk Tryz.underlying9 hs) ?_;intro w1 hm1 ht1;rw[xQ] at hm1;have T:=HT1.out w1 hm1 ht1;have c3:=(zS T).2.2.2;have hl1':=yz T hid;rw[ZN HN.out] at hl1';have dl:=(zw (T.at HN.out)).2.1;have fl:=ZH (T.at HN.out).row 1;have HTT:=Lib.hid T;have HW:=Lib.hid ht1;clear hm1 ht1 T ll d4)
  |(go_at_call 167;refine(G.out _ HTT.out).mono ?_;rintro e w3 ⟨rfl,hs3⟩;have HS3:=Lib.hid hs3;clear hs3))
 go_end0
 refine⟨rfl, ?_⟩
 have T:=HTT.out
 have S3:=HS3.out
 have hf2:foot g mb β (In.setN t1 {n with links:=n.links - 1}).nodes=foot g mb β t.nodes:=(yT _ _ _ _ _).trans HF.out
 rw[HF.out] at HM1
 exact⟨S3.tbl,(((Only.refl _ w).turned HW.out (.inl HM)).setCell (.inl HM1) _).trans (S3.only.mono (fun x hx=>by rw[hf2] at hx;exact hx)),fun k hk=>by have:=S3.foot k hk;rw[hf2] at this;exact this⟩
end
end
section
open Go.RowKit Go.Maps
section
variable {w:World}{g mb:Nat}{β:Int→Nat×Nat}{t:TabD}
theorem Step.refl(h:TblAt w g mb β t):Step w w g mb β t t:=⟨h,Only.refl _ _,fun _ h=>h⟩
theorem Step.below{w':World}(h:TblAt w g mb β t)(hb:Below w.heap.size w w'):Step w w' g mb β t t:=⟨h.below hb,Only.of_below hb,fun _ h=>h⟩
def zbD(w:World)(g mb:Nat)(β:Int→Nat×Nat)(t:TabD)(r:Int×TabD)(e:Ending)(w':World):Prop:=e= .returned (.int .i64 r.1)∧Step w w' g mb β t r.2
theorem Yj{d:NodeD}:(Zk d.names).length=d.names.length:=by simp[Zk]
theorem zmV(h:TblAt w g mb β t)(hq:0<t.quota){id dir:Int}(hid:Fits id)(hdir:Fits dir){s:ByteArray}(hs:s.size≤maxLen)
  (hlk: ∀ n∈t.nodes,0≤n.links∧n.links≤4611686018427387904∧n.names.length≤4611686018427387904):
  Calls Tryz.prog 116 #[.pointer (some ⟨g,0,none⟩),.int .i64 id,.int .i64 dir,.string s] w (zbD w g mb β t (In.link t id dir s)):=by
 obtain⟨E,hE⟩: ∃ E,In.linkE t id dir s=E:=⟨_,rfl⟩
 have hR:In.link t id dir s=if E==0 then(0,In.linkT t id dir s) else(E,t):=by unfold In.link;rw[hE]
 obtain⟨R,hRR⟩: ∃ R,In.link t id dir s=R:=⟨_,rfl⟩
 rw[hRR] at hR ⊢
 have HRR:=Lib.hid hR
 clear hR hRR
 unfold In.linkE at hE
 have HT:=Lib.hid h
 rcases yf (t:=t) (id:=id) (dir:=false) with ⟨h1,n,hn,hd⟩|h1
 ·have cg:=ZJ h hq hid hn hd
  rw[h1] at hE
  have hE:In.emptyE t dir s=E:=hE
  rcases Xo (t:=t) (dir:=dir) (s:=s) with ⟨h2,d,hd2,hdd,hN,hl⟩|h2
  ·have ce:=zbj h hq hdir hs hd2 hdd hN hl
   rw[h2] at hE
   subst hE
   obtain⟨l0,l1,-⟩:=hlk n (zk hn).1
   obtain⟨-,-,l2⟩:=hlk d (zk hd2).1
   have hne:id≠dir:=fun e=>by subst e;rw[hn] at hd2;cases hd2;rw[hd] at hdd;cases hdd
   obtain⟨t1,ht1⟩: ∃ t1,In.setN t {d with names:=In.with_ d.names s id}=t1:=⟨_,rfl⟩
   have hn1:In.find t1.nodes id=some n:=by rw[←ht1,YB (n:={d with names:=In.with_ d.names s id}) hd2 (zk hd2).2,if_neg hne];exact hn
   have T1:=Lib.hid (fun (W w1:World) (T:TblAt W g mb β t) (h1:yF w1 (β dir).2 (In.with_ d.names s id)) (h2:W.mapTurned w1 (β dir).2)=>(ht1▸T.set_names hd2 h1 h2:TblAt w1 g mb β t1))
   have HF:=Lib.hid (show foot g mb β t1.nodes=foot g mb β t.nodes by rw[←ht1];exact yT _ _ _ _ _)
   have HR:=Lib.hid (show R=(0,In.setN t1 {n with links:=n.links+1}) by
    rw[HRR.out]
    show(0,In.linkT t id dir s)=_
    unfold In.linkT
    rw[xW hd2,ht1,ziu hn1])
   have HN1:=Lib.hid hn1
   have HD:=Lib.hid hd2
   have HMd:(β dir).2∈foot g mb β t.nodes:=zE.2 (.inr (.inr ⟨d,(zk hd2).1,.inr (by rw[(zk hd2).2])⟩))
   have HMn:(β id).1∈foot g mb β t.nodes:=zE.2 (.inr (.inr ⟨n,(zk hn).1,.inl (by rw[(zk hn).2])⟩))
   have hlen:(Zk d.names).length<maxLen:=by rw[Yj,zj];omega
   clear h hq h1 hn hd h2 hd2 hdd hN hl hlk ht1 hn1 hne
   go_enter Tryz.func116,Tryz.ntmps116
   go_wp2_with (first
    |(go_at_call 165;refine cg.mono ?_;rintro e w' ⟨rfl,rfl⟩)
    |(go_at_call 159;refine ce.mono ?_;rintro e w1 ⟨rfl,hb⟩;have TB:=HT.out.below hb;have hA:=TB.at HD.out;have d4:=(zw hA).2.2.2.2;have HNm:=Lib.hid hA.names;have HTB:=Lib.hid TB;have HB:=Lib.hid hb;clear TB hA hb)
    |(at_mapUpdate;refine ZO _ rfl _ _ _ 164 rfl 9 3 yC Tryz.underlying164 (β dir).2 _ rfl HNm.out hlen (.string s) (.int .i64 id) _ rfl rfl (WideMaps.keyOf_string_mk Tryz.underlying9 hs) ?_;intro w2 hm2 ht2;rw[Xa] at hm2;have T:=T1.out _ w2 HTB.out hm2 ht2;have dl:=(zw (T.at HN1.out)).2.1;have fl:=ZH (T.at HN1.out).row 1;have HTT:=Lib.hid T;have HW:=Lib.hid ht2;clear hm2 ht2 T d4))
   go_ret
   rw[HR.out]
   refine⟨rfl, ?_⟩
   refine⟨HTT.out.set_links HN1.out _,((Only.of_below HB.out).turned HW.out (.inl HMd)).setCell (.inl HMn) _,fun k hk=> ?_⟩
   have hf2:foot g mb β (In.setN t1 {n with links:=n.links+1}).nodes=foot g mb β t.nodes:=(yT _ _ _ _ _).trans HF.out
   rw[hf2] at hk
   exact hk
  ·have ce:=zgi h hq hdir hs hE (hE▸h2)
   have e0:=zm (hE▸h2:E≠0)
   have HR:=Lib.hid (show R=(E,t) by rw[HRR.out,e0];rfl)
   clear h hq h1 hn hd h2 hlk hE
   go_enter Tryz.func116,Tryz.ntmps116
   go_wp2_with (first
    |(go_at_call 165;refine cg.mono ?_;rintro e w' ⟨rfl,rfl⟩)
    |(go_at_call 159;refine ce.mono ?_;rintro e w1 ⟨rfl,hb⟩;have HB:=Lib.hid hb;clear hb))
   go_ret
   rw[HR.out]
   exact⟨rfl,Step.below HT.out HB.out⟩
 ·rw[zm h1] at hE
  have hE:In.getE t id false=E:=hE
  have cg:=XJ h hq hid hE (hE▸h1)
  have e1:=zG (hE▸h1:E≠0)
  have e0:=zm (hE▸h1:E≠0)
  have HR:=Lib.hid (show R=(E,t) by rw[HRR.out,e0];rfl)
  clear h hq h1 hlk hE
  go_enter Tryz.func116,Tryz.ntmps116
  go_wp2_with (go_at_call 165;refine cg.mono ?_;rintro e w' ⟨rfl,rfl⟩)
  go_ret
  rw[HR.out]
  exact⟨rfl,Step.refl HT.out⟩
structure Fit (t:TabD):Prop where
 q0:0<t.quota
 q1:t.quota≤1099511627776
 u0:0≤t.used
 u1:t.used≤1099511627776
 node: ∀ n∈t.nodes,0≤n.links∧n.links≤4611686018427387904∧n.names.length≤4611686018427387904
 holds: ∀ n∈t.nodes,0≤n.holds∧n.holds≤4611686018427387904
 data: ∀ n∈t.nodes,n.data.size≤1048576
 ids: ∀ n∈t.nodes,Fits n.id
 leads: ∀ d∈t.nodes,∀ p∈d.names,∃ n,In.find t.nodes p.2=some n
theorem leads_mem{d:List (ByteArray×Int)}{s:ByteArray}(h:In.leads d s≠0): ∃ p∈d,p.2=In.leads d s:=by
 unfold In.leads at h ⊢
 cases hf:d.find? fun p=>In.same p.1 s with
 |none=>rw[hf] at h;exact absurd rfl h
 |some p=>exact⟨p,laUz hf,rfl⟩
theorem Fit.find{t:TabD}(F:Fit t){dir:Int}{d:NodeD}(hd:In.find t.nodes dir=some d){s:ByteArray}(h:In.leads d.names s≠0): ∃ n,In.find t.nodes (In.leads d.names s)=some n∧Fits (In.leads d.names s):=by
 obtain⟨p,hp,e⟩:=leads_mem h
 obtain⟨n,hn⟩:=F.leads d (zk hd).1 p hp
 rw[e] at hn
 exact⟨n,hn,by have:=F.ids n (zk hn).1;rw[(zk hn).2] at this;exact this⟩
theorem zas(h:TblAt w g mb β t)(F:Fit t){dir:Int}{s:ByteArray}(hs:s.size≤maxLen){d:NodeD}(hd:In.find t.nodes dir=some d)(hl:In.leads d.names s≠0):
  Calls Tryz.prog 166 #[.pointer (some ⟨g,0,none⟩),.pointer (some ⟨(β dir).1,0,none⟩),.string s] w fun e w'=>e= .returned (.tuple #[])∧Step w w' g mb β t (In.loses t dir s):=by
 obtain⟨n,hn,hid⟩:=F.find hd hl
 have key: ∃ n1,In.find (In.nameOut t dir s).nodes (In.leads d.names s)=some n1∧n1.data.size≤1048576∧0≤n1.links∧n1.links≤4611686018427387904:=by
  rw[ZK hd,YB (n:={d with names:=In.without d.names s}) hd (zk hd).2]
  split
  ·exact⟨_,rfl,F.data d (zk hd).1,(F.node d (zk hd).1).1,(F.node d (zk hd).1).2.1⟩
  ·exact⟨n,hn,F.data n (zk hn).1,(F.node n (zk hn).1).1,(F.node n (zk hn).1).2.1⟩
 obtain⟨n1,h1,h2,h3,h4⟩:=key
 have e:In.loses t dir s=In.gone (In.setN (In.nameOut t dir s) {n1 with links:=n1.links - 1}) (In.leads d.names s):=by
  unfold In.loses
  rw[zW hd,XO h1]
 rw[e]
 exact zlv h hs hd hid rfl (t1:=In.nameOut t dir s) (ZK hd s).symm h1 h2 F.u0 F.u1 h3 h4
theorem zhS(h:TblAt w g mb β t)(F:Fit t){dir:Int}(hdir:Fits dir){s:ByteArray}(hs:s.size≤maxLen):
  Calls Tryz.prog 115 #[.pointer (some ⟨g,0,none⟩),.int .i64 dir,.string s] w (zbD w g mb β t (In.unlink t dir s)):=by
 have cf:=YV h F.q0 hdir hs
 obtain⟨E,hE⟩: ∃ E,In.unlinkE t dir s=E:=⟨_,rfl⟩
 obtain⟨R,hRR⟩: ∃ R,In.unlink t dir s=R:=⟨_,rfl⟩
 have hR:R=if E==0 then(0,In.loses t dir s) else(E,t):=by rw[←hRR,←hE];rfl
 rw[hRR]
 have HRR:=Lib.hid hR
 clear hR hRR
 unfold In.unlinkE at hE
 have HT:=Lib.hid h
 have HF:=Lib.hid F
 rcases xX (t:=t) (dir:=dir) (s:=s) with ⟨h1,d,hd,hdd,hN,hl,hfN⟩|⟨h1,hz⟩
 ·rw[h1] at hE
  have hE:In.getE t (In.findN t dir s) false=E:=hE
  rw[h1] at cf
  rw[hfN] at hE cf
  obtain⟨n,hn,hid⟩:=F.find hd hl
  generalize hidd:In.leads d.names s=id at hE cf hn hid hl
  rcases yf (t:=t) (id:=id) (dir:=false) with ⟨h2,n2,hn2,hnd⟩|h2
  ·rw[h2] at hE
   subst hE
   have HR:=Lib.hid (show R=(0,In.loses t dir s) from HRR.out)
   have HN:=Lib.hid hn2
   have HND:=Lib.hid hnd
   have HD:=Lib.hid hd
   have HL:=Lib.hid (show In.leads d.names s≠0 by rw[hidd];exact hl)
   clear h F h1 h2 hn hn2 hnd hd hdd hN hfN hidd hl
   go_enter Tryz.func115,Tryz.ntmps115
   go_wp2_with (first
    |(go_at_call 107;refine cf.mono ?_;rintro e w1 ⟨rfl,hb⟩;have TB:=HT.out.below hb;have HTB:=Lib.hid TB;have HB:=Lib.hid hb;have c3:=(zS TB).2.2.2;have hl1:=yz TB hdir;rw[ZN HD.out] at hl1;clear TB hb)
    |(go_at_call 165;refine(ZJ HTB.out HF.out.q0 hid HN.out HND.out).mono ?_;rintro e w' ⟨rfl,rfl⟩)
    |(go_at_call 166;refine(zas HTB.out HF.out hs HD.out HL.out).mono ?_;rintro e w3 ⟨rfl,hs3⟩;have HS3:=Lib.hid hs3;clear hs3 hl1 c3))
   go_ret
   rw[HR.out]
   exact⟨rfl,(Step.below HT.out HB.out).trans HS3.out⟩
  ·have e0:=zm (hE▸h2:E≠0)
   have HE:=Lib.hid hE
   have HNE:=Lib.hid (hE▸h2:E≠0)
   have HR:=Lib.hid (show R=(E,t) by rw[HRR.out,e0];rfl)
   clear h F h1 h2 hn hd hdd hN hfN hidd hl hE
   go_enter Tryz.func115,Tryz.ntmps115
   go_wp2_with (first
    |(go_at_call 107;refine cf.mono ?_;rintro e w1 ⟨rfl,hb⟩;have TB:=HT.out.below hb;have HTB:=Lib.hid TB;have HB:=Lib.hid hb;clear TB hb)
    |(go_at_call 165;refine(XJ HTB.out HF.out.q0 hid HE.out HNE.out).mono ?_;rintro e w' ⟨rfl,rfl⟩))
   go_ret
   rw[HR.out]
   exact⟨rfl,Step.below HT.out HB.out⟩
 ·rw[zm h1] at hE
  have hE:In.findE t dir s=E:=hE
  rw[hE] at cf h1
  have e0:=zm h1
  have HR:=Lib.hid (show R=(E,t) by rw[HRR.out,e0];rfl)
  clear h F h1 hE hz
  go_enter Tryz.func115,Tryz.ntmps115
  go_wp2_with (go_at_call 107;refine cf.mono ?_;rintro e w1 ⟨rfl,hb⟩;have HB:=Lib.hid hb;clear hb)
  go_ret
  rw[HR.out]
  exact⟨rfl,Step.below HT.out HB.out⟩
end
end
section
open Go.RowKit Go.Maps
theorem ZP{P:Program}(w:World){ops:Array Oper}{rest:List Oper}{o:Oper}{a:Act}{Q:Exit→Act→World→Prop}(hg:o.guard=none)(m:Operand)(t:TypeId)(hop:o.op=Op.call {callee:=Callee.builtin Builtin.len,args:= #[m],argTypes:= #[t]})
  (k e:TypeId) (ht:P.underlying t=some (.map k e)) (b:Nat) (l:List (Lit×Value)) (n:Nat) (hn:l.length=n) (hm:a.eval m= .map (some b)) (h:zA P k w b l) (hK:wpList P ops Q rest (a.put o.dst (.int .i64 n)) w):wpList P ops Q (o::rest) a w:=by
 refine wpList_len_own w hg m t hop k e ht Ze b l.length (Zh l) hm h ?_
 rw[yl,hn]
 exact hK
section
variable {w:World}{g mb:Nat}{β:Int→Nat×Nat}{t:TabD}
theorem zhO(h:TblAt w g mb β t)(F:Fit t){dir:Int}(hdir:Fits dir){s:ByteArray}(hs:s.size≤maxLen):
  Calls Tryz.prog 114 #[.pointer (some ⟨g,0,none⟩),.int .i64 dir,.string s] w (zbD w g mb β t (In.remove t dir s)):=by
 have cf:=YV h F.q0 hdir hs
 obtain⟨E,hE⟩: ∃ E,In.removeE t dir s=E:=⟨_,rfl⟩
 obtain⟨R,hRR⟩: ∃ R,In.remove t dir s=R:=⟨_,rfl⟩
 have hR:R=if E==0 then(0,In.loses t dir s) else(E,t):=by rw[←hRR,←hE];rfl
 rw[hRR]
 have HRR:=Lib.hid hR
 clear hR hRR
 unfold In.removeE at hE
 have HT:=Lib.hid h
 have HF:=Lib.hid F
 rcases xX (t:=t) (dir:=dir) (s:=s) with ⟨h1,d,hd,hdd,hN,hl,hfN⟩|⟨h1,hz⟩
 ·rw[h1] at hE cf
  rw[hfN] at hE cf
  obtain⟨n,hn,hid⟩:=F.find hd hl
  generalize hidd:In.leads d.names s=id at hE cf hn hid hl
  rcases yf (t:=t) (id:=id) (dir:=true) with ⟨h2,n2,hn2,hnd⟩|h2
  ·rw[h2,zW hn2] at hE
   have HN:=Lib.hid hn2
   have HND:=Lib.hid hnd
   have HD:=Lib.hid hd
   have HL:=Lib.hid (show In.leads d.names s≠0 by rw[hidd];exact hl)
   have hcap:=(F.node n2 (zk hn2).1).2.2
   cases hk:decide (0<n2.names.length) with
   |true=>
    rw[hk] at hE
    have hE:7=E:=hE
    subst hE
    have HR:=Lib.hid (show R=(7,t) from HRR.out)
    clear h F h1 h2 hn hn2 hnd hd hdd hN hfN hidd hl
    go_enter Tryz.func114,Tryz.ntmps114
    go_wp2_with (first
     |(go_at_call 107;refine cf.mono ?_;rintro e w1 ⟨rfl,hb⟩;have TB:=HT.out.below hb;have HTB:=Lib.hid TB;have HB:=Lib.hid hb;have hA:=TB.at HN.out;have d4:=(zw hA).2.2.2.2;have HNm:=Lib.hid hA.names;clear TB hA hb)
     |(go_at_call 165;refine(ZJ HTB.out HF.out.q0 hid HN.out HND.out).mono ?_;rintro e w' ⟨rfl,rfl⟩)
     |(at_len;refine ZP _ rfl _ 164 rfl 9 3 Tryz.underlying164 (β id).2 _ _ Yj rfl HNm.out ?_))
    go_ret
    rw[HR.out]
    exact⟨rfl,Step.below HT.out HB.out⟩
   |false=>
    rw[hk] at hE
    have hE:0=E:=hE
    subst hE
    have HR:=Lib.hid (show R=(0,In.loses t dir s) from HRR.out)
    clear h F h1 h2 hn hn2 hnd hd hdd hN hfN hidd hl
    go_enter Tryz.func114,Tryz.ntmps114
    go_wp2_with (first
     |(go_at_call 107;refine cf.mono ?_;rintro e w1 ⟨rfl,hb⟩;have TB:=HT.out.below hb;have HTB:=Lib.hid TB;have HB:=Lib.hid hb;have hA:=TB.at HN.out;have d4:=(zw hA).2.2.2.2;have HNm:=Lib.hid hA.names;have c3:=(zS TB).2.2.2;have hl1:=yz TB hdir;rw[ZN HD.out] at hl1;clear TB hA hb)
     |(go_at_call 165;refine(ZJ HTB.out HF.out.q0 hid HN.out HND.out).mono ?_;rintro e w' ⟨rfl,rfl⟩)
     |(at_len;refine ZP _ rfl _ 164 rfl 9 3 Tryz.underlying164 (β id).2 _ _ Yj rfl HNm.out ?_)
     |(go_at_call 166;refine(zas HTB.out HF.out hs HD.out HL.out).mono ?_;rintro e w3 ⟨rfl,hs3⟩;have HS3:=Lib.hid hs3;clear hs3 hl1 c3 d4))
    go_ret
    rw[HR.out]
    exact⟨rfl,(Step.below HT.out HB.out).trans HS3.out⟩
  ·rw[zm h2] at hE
   have hE:In.getE t id true=E:=hE
   have e0:=zm (hE▸h2:E≠0)
   have e1:=zG (hE▸h2:E≠0)
   have HE:=Lib.hid hE
   have HNE:=Lib.hid (hE▸h2:E≠0)
   have HR:=Lib.hid (show R=(E,t) by rw[HRR.out,e0];rfl)
   clear h F h1 h2 hn hd hdd hN hfN hidd hl hE
   go_enter Tryz.func114,Tryz.ntmps114
   go_wp2_with (first
    |(go_at_call 107;refine cf.mono ?_;rintro e w1 ⟨rfl,hb⟩;have TB:=HT.out.below hb;have HTB:=Lib.hid TB;have HB:=Lib.hid hb;clear TB hb)
    |(go_at_call 165;refine(XJ HTB.out HF.out.q0 hid HE.out HNE.out).mono ?_;rintro e w' ⟨rfl,rfl⟩))
   go_ret
   rw[HR.out]
   exact⟨rfl,Step.below HT.out HB.out⟩
 ·rw[zm h1] at hE
  have hE:In.findE t dir s=E:=hE
  rw[hE] at cf h1
  have e0:=zG h1
  have HR:=Lib.hid (show R=(E,t) by rw[HRR.out,zm h1];rfl)
  clear h F h1 hE hz
  go_enter Tryz.func114,Tryz.ntmps114
  go_wp2_with (go_at_call 107;refine cf.mono ?_;rintro e w1 ⟨rfl,hb⟩;have HB:=Lib.hid hb;clear hb)
  go_ret
  rw[HR.out]
  exact⟨rfl,Step.below HT.out HB.out⟩
theorem zlV(h:TblAt w g mb β t)(hq:0<t.quota):Calls Tryz.prog 68 #[.pointer (some ⟨g,0,none⟩)] w fun e w'=>e= .returned (.int .i64 t.used)∧w=w':=by
 have cg:=yZ h hq
 have c1:=(zS h).2.1
 clear h hq
 go_enter Tryz.func68,Tryz.ntmps68
 go_wp2_with (go_at_call 119;refine cg.mono ?_;rintro e w' ⟨rfl,rfl⟩)
 go_ret
 exact⟨rfl,rfl⟩
theorem zhi(h:TblAt w g mb β t)(F:Fit t){id:Int}(hid:Fits id):Calls Tryz.prog 161 #[.pointer (some ⟨g,0,none⟩),.int .i64 id] w (zbD w g mb β t (In.hold t id)):=by
 obtain⟨E,hE⟩: ∃ E,In.holdE t id=E:=⟨_,rfl⟩
 obtain⟨R,hRR⟩: ∃ R,In.hold t id=R:=⟨_,rfl⟩
 have hR:R=if E==0 then(0,In.holdsUp t id) else(E,t):=by rw[←hRR,←hE];rfl
 rw[hRR]
 have HRR:=Lib.hid hR
 clear hR hRR
 unfold In.holdE at hE
 have HT:=Lib.hid h
 rcases yf (t:=t) (id:=id) (dir:=false) with ⟨h2,n,hn,hnd⟩|h2
 ·have cg:=ZJ h F.q0 hid hn hnd
  rw[h2,zW hn] at hE
  have hA:=h.at hn
  have d2:=(zw hA).2.2.1
  have f2:=ZH hA.row 2
  obtain⟨b0,b1⟩:=F.holds n (zk hn).1
  have HM:(β id).1∈foot g mb β t.nodes:=zE.2 (.inr (.inr ⟨n,(zk hn).1,.inl (by rw[(zk hn).2])⟩))
  cases hk:decide (1048576≤n.holds) with
  |true=>
   rw[hk] at hE
   have hE:5=E:=hE
   subst hE
   have HR:=Lib.hid (show R=(5,t) from HRR.out)
   clear h F h2 hn hnd hA
   go_enter Tryz.func161,Tryz.ntmps161
   go_wp2_with (go_at_call 165;refine cg.mono ?_;rintro e w' ⟨rfl,rfl⟩)
   go_ret
   rw[HR.out]
   exact⟨rfl,Step.refl HT.out⟩
  |false=>
   rw[hk] at hE
   have hE:0=E:=hE
   subst hE
   have HR:=Lib.hid (show R=(0,In.setN t {n with holds:=n.holds+1}) by rw[HRR.out,zhM hn];rfl)
   have HS:=Lib.hid (h.set_holds hn (n.holds+1))
   clear h F h2 hn hnd hA
   go_enter Tryz.func161,Tryz.ntmps161
   go_wp2_with (go_at_call 165;refine cg.mono ?_;rintro e w' ⟨rfl,rfl⟩)
   go_ret
   rw[HR.out]
   exact⟨rfl,HS.out,(Only.refl _ _).setCell (.inl HM) _,fun k hk=>by have e:foot g mb β (In.setN t {n with holds:=n.holds+1}).nodes=foot g mb β t.nodes:=yT _ _ _ _ _;rw[e] at hk;exact hk⟩
 ·rw[zm h2] at hE
  have hE:In.getE t id false=E:=hE
  have cg:=XJ h F.q0 hid hE (hE▸h2)
  have e0:=zG (hE▸h2:E≠0)
  have HR:=Lib.hid (show R=(E,t) by rw[HRR.out,zm (hE▸h2:E≠0)];rfl)
  clear h F h2 hE
  go_enter Tryz.func161,Tryz.ntmps161
  go_wp2_with (go_at_call 165;refine cg.mono ?_;rintro e w' ⟨rfl,rfl⟩)
  go_ret
  rw[HR.out]
  exact⟨rfl,Step.refl HT.out⟩
theorem zgA(h:TblAt w g mb β t)(F:Fit t){id:Int}(hid:Fits id):Calls Tryz.prog 118 #[.pointer (some ⟨g,0,none⟩),.int .i64 id] w (zbD w g mb β t (In.drop t id)):=by
 have cg:=yZ h F.q0
 have hl:=yz h hid
 have c3:=(zS h).2.2.2
 obtain⟨R,hRR⟩: ∃ R,In.drop t id=R:=⟨_,rfl⟩
 rw[hRR]
 unfold In.drop In.dropE at hRR
 have HT:=Lib.hid h
 cases hn:In.find t.nodes id with
 |none=>
  rw[hn] at hRR
  have HR:=Lib.hid (show R=(3,t) from hRR.symm)
  rw[zgh hn] at hl
  clear h F hRR hn
  go_enter Tryz.func118,Tryz.ntmps118
  go_wp2_with (go_at_call 119;refine cg.mono ?_;rintro e w' ⟨rfl,rfl⟩)
  go_ret
  rw[HR.out]
  exact⟨rfl,Step.refl HT.out⟩
 |some n=>
  rw[hn] at hRR
  simp only at hRR
  rw[ZN hn] at hl
  have hA:=h.at hn
  have d2:=(zw hA).2.2.1
  have f2:=ZH hA.row 2
  obtain⟨b0,b1⟩:=F.holds n (zk hn).1
  cases hk:n.holds==0 with
  |true=>
   rw[hk] at hRR
   have HR:=Lib.hid (show R=(1,t) from hRR.symm)
   clear h F hRR hn hA
   go_enter Tryz.func118,Tryz.ntmps118
   go_wp2_with (go_at_call 119;refine cg.mono ?_;rintro e w' ⟨rfl,rfl⟩)
   go_ret
   rw[HR.out]
   exact⟨rfl,Step.refl HT.out⟩
  |false=>
   rw[hk] at hRR
   have HR:=Lib.hid (show R=(0,In.gone (In.setN t {n with holds:=n.holds - 1}) id) by rw[←hRR,zdy hn];rfl)
   have HM:(β id).1∈foot g mb β t.nodes:=zE.2 (.inr (.inr ⟨n,(zk hn).1,.inl (by rw[(zk hn).2])⟩))
   have G:=Lib.hid (zgS (h.set_holds hn (n.holds - 1)) hid (n:={n with holds:=n.holds - 1}) (xM (n:={n with holds:=n.holds - 1}) hn (zk hn).2) (F.data n (zk hn).1) (show 0≤t.used from F.u0) (show t.used≤1099511627776 from F.u1))
   clear h F hRR hn hA
   go_enter Tryz.func118,Tryz.ntmps118
   go_wp2_with (first
    |(go_at_call 119;refine cg.mono ?_;rintro e w' ⟨rfl,rfl⟩)
    |(go_at_call 167;refine G.out.mono ?_;rintro e w3 ⟨rfl,hs3⟩;have HS3:=Lib.hid hs3;clear hs3))
   go_ret
   rw[HR.out]
   have hf:foot g mb β (In.setN t {n with holds:=n.holds - 1}).nodes=foot g mb β t.nodes:=yT _ _ _ _ _
   exact⟨rfl,HS3.out.tbl,((Only.refl _ _).setCell (.inl HM) _).trans (HS3.out.only.mono fun x hx=>by rw[hf] at hx;exact hx),fun k hk=>by have:=HS3.out.foot k hk;rw[hf] at this;exact this⟩
end
end
section
open Go.RowKit Go.Maps
section
variable {w:World}{g mb:Nat}{β:Int→Nat×Nat}{t:TabD}
theorem zdd{id:Int}{n:NodeD}(hn:In.find t.nodes id=some n):(β id).1∈foot g mb β t.nodes:=zE.2 (.inr (.inr ⟨n,(zk hn).1,.inl (by rw[(zk hn).2])⟩))
theorem zcM{id:Int}{n:NodeD}(hn:In.find t.nodes id=some n):(β id).2∈foot g mb β t.nodes:=zE.2 (.inr (.inr ⟨n,(zk hn).1,.inr (by rw[(zk hn).2])⟩))
theorem Yd(n:NodeD):foot g mb β (In.setN t n).nodes=foot g mb β t.nodes:=yT _ _ _ _ _
theorem zaG{w1 w2 w3:World}{t1:TabD}(h:TblAt w1 g mb β t1){dir tod id:Int}{s as_:ByteArray}{d:NodeD}(hd:In.find t1.nodes dir=some d){d2:NodeD}(hd2:In.find (In.nameOut t1 dir s).nodes tod=some d2)
  (m1:yF w2 (β dir).2 (In.without d.names s)) (r1:w1.mapTurned w2 (β dir).2) (m2:yF w3 (β tod).2 (In.with_ d2.names as_ id)) (r2:w2.mapTurned w3 (β tod).2):
  Step w1 w3 g mb β t1 (In.renameIn t1 dir s tod as_ id):=by
 have T2:TblAt w2 g mb β (In.nameOut t1 dir s):=by rw[ZK hd];exact h.set_names hd m1 r1
 have hf:foot g mb β (In.nameOut t1 dir s).nodes=foot g mb β t1.nodes:=by rw[ZK hd];exact Yd _
 have T3:TblAt w3 g mb β (In.renameIn t1 dir s tod as_ id):=by unfold In.renameIn;rw[xW hd2];exact T2.set_names hd2 m2 r2
 have hf2:foot g mb β (In.renameIn t1 dir s tod as_ id).nodes=foot g mb β t1.nodes:=by unfold In.renameIn;rw[xW hd2];exact(Yd _).trans hf
 refine⟨T3,((Only.refl _ w1).turned r1 (.inl (zcM hd))).turned r2 (.inl ?_),fun k hk=>by rw[hf2] at hk;exact hk⟩
 rw[←hf]
 exact zcM hd2
theorem zby(d:List (ByteArray×Int))(s:ByteArray):(In.without d s).length≤d.length:=lbYz _ _
theorem Xh{l:List NodeD}{id x:Int}(hx:x≠id):In.find (In.del l id) x=In.find l x:=by
 unfold In.find In.del
 rw[lcZz]
 congr 1
 funext m
 by_cases h:m.id=x
 ·subst h
  simp[hx]
 ·simp[h]
theorem zkn{id x:Int}(hx:x≠id):In.find (In.gone t id).nodes x=In.find t.nodes x:=by
 unfold In.gone
 split
 ·exact Xh hx
 ·rfl
theorem zeF{x tod:Int}{as_:ByteArray}{d e n:NodeD}(hx:In.find t.nodes x=some d)(hxd:d.dir=true)(he:In.find t.nodes tod=some e)(hn:In.find t.nodes (In.leads e.names as_)=some n)(hnd:n.dir=false):
  ∃ d',In.find (In.loses t tod as_).nodes x=some d'∧d'.dir=true∧d'.names.length≤d.names.length:=by
 have hne:x≠In.leads e.names as_:=fun h=>by rw[h,hn] at hx;cases hx;rw[hxd] at hnd;cases hnd
 unfold In.loses
 rw[zW he,zkn hne,ZK he]
 have h1: ∃ d',In.find (In.setN t {e with names:=In.without e.names as_}).nodes x=some d'∧d'.dir=true∧d'.names.length≤d.names.length:=by
  rw[YB (n:={e with names:=In.without e.names as_}) he (zk he).2]
  split
  ·rename_i h
   subst h
   rw[hx] at he
   cases he
   exact⟨_,rfl,hxd,zby _ _⟩
  ·exact⟨d,hx,hxd,Nat.le_refl _⟩
 obtain⟨d',h2,h3,h4⟩:=h1
 refine⟨d', ?_,h3,h4⟩
 have hn1: ∃ n',In.find (In.setN t {e with names:=In.without e.names as_}).nodes (In.leads e.names as_)=some n':=by
  rw[YB (n:={e with names:=In.without e.names as_}) he (zk he).2]
  split
  ·exact⟨_,rfl⟩
  ·exact⟨n,hn⟩
 obtain⟨n',hn'⟩:=hn1
 rw[XO hn',YB (n:={n' with links:=n'.links - 1}) hn' (zk hn').2,if_neg hne]
 exact h2
theorem zkf{x dir:Int}{s:ByteArray}{d e:NodeD}(hx:In.find t.nodes x=some d)(he:In.find t.nodes dir=some e): ∃ d',In.find (In.nameOut t dir s).nodes x=some d'∧d'.names.length≤d.names.length:=by
 rw[ZK he,YB (n:={e with names:=In.without e.names s}) he (zk he).2]
 split
 ·rename_i h
  subst h
  rw[hx] at he
  cases he
  exact⟨_,rfl,zby _ _⟩
 ·exact⟨d,hx,Nat.le_refl _⟩
theorem zeX(F:Fit t){dir:Int}{s:ByteArray}:(In.unlinkE t dir s=0∧In.findE t dir s=0∧ ∃ d n,In.find t.nodes dir=some d∧d.dir=true∧In.leads d.names s≠0∧In.findN t dir s=In.leads d.names s∧In.find t.nodes (In.leads d.names s)=some n∧n.dir=false∧Fits (In.leads d.names s))∨
  (In.unlinkE t dir s≠0∧In.findE t dir s=0∧In.getE t (In.findN t dir s) false=In.unlinkE t dir s∧Fits (In.findN t dir s))∨(In.unlinkE t dir s≠0∧In.findE t dir s=In.unlinkE t dir s):=by
 unfold In.unlinkE
 rcases xX (t:=t) (dir:=dir) (s:=s) with ⟨h1,d,hd,hdd,hN,hl,hfN⟩|⟨h1,hz⟩
 ·rw[h1]
  obtain⟨n,hn,hid⟩:=F.find hd hl
  rcases yf (t:=t) (id:=In.findN t dir s) (dir:=false) with ⟨h2,n2,hn2,hnd⟩|h2
  ·rw[hfN,hn] at hn2
   cases hn2
   exact .inl ⟨h2,rfl,d,n,hd,hdd,hl,hfN,hn,hnd,hid⟩
  ·exact .inr (.inl ⟨h2,rfl,rfl,by rw[hfN];exact hid⟩)
 ·rw[zm h1]
  exact .inr (.inr ⟨h1,rfl⟩)
theorem zhL(h:TblAt w g mb β t)(F:Fit t){dir tod:Int}(hdir:Fits dir)(htod:Fits tod){s as_:ByteArray}(hs:s.size≤maxLen)(has:as_.size≤maxLen):
  Calls Tryz.prog 117 #[.pointer (some ⟨g,0,none⟩),.int .i64 dir,.string s,.int .i64 tod,.string as_] w (zbD w g mb β t (In.rename t dir s tod as_)):=by
 have cf:=YV h F.q0 hdir hs
 obtain⟨E,hE⟩: ∃ E,In.renameE t dir s tod as_=E:=⟨_,rfl⟩
 obtain⟨R,hRR⟩: ∃ R,In.rename t dir s tod as_=R:=⟨_,rfl⟩
 have hR:R=if E==0 then(0,In.renameT t dir s tod as_) else(E,t):=by rw[←hRR,←hE];rfl
 rw[hRR]
 have HRR:=Lib.hid hR
 clear hR hRR
 have HT:=Lib.hid h
 have HF:=Lib.hid F
 unfold In.renameE at hE
 rcases zeX F (dir:=dir) (s:=s) with ⟨h1,h2,d,n,hd,hdd,hl,hfN,hn,hnd,hid⟩|⟨h1,h2,h3,hid⟩|⟨h1,h2⟩
 ·rw[h1] at hE
  rw[h2] at cf
  rw[hfN] at hE cf
  generalize hidd:In.leads d.names s=id at hE cf hn hid hl hfN
  rcases Yf (t:=t) (dir:=tod) (s:=as_) with ⟨p1,e,he,hed,heN⟩|p1
  ·rw[p1,zW he] at hE
   have HE1:=Lib.hid he
   have HED:=Lib.hid hed
   have HEN:=Lib.hid heN
   have HN:=Lib.hid hn
   have HND:=Lib.hid hnd
   have HD:=Lib.hid hd
   obtain⟨was,hwas⟩: ∃ was,In.leads e.names as_=was:=⟨_,rfl⟩
   rw[hwas] at hE
   have HW:=Lib.hid hwas
   by_cases c1:was=id
   ·have q:(was==id)=true:=by simpa using c1
    rw[q] at hE
    have hE:0=E:=hE
    subst hE
    have HR:=Lib.hid (show R=(0,t) by
     rw[HRR.out]
     show(0,In.renameT t dir s tod as_)=_
     unfold In.renameT
     rw[zW he,hwas,hfN,q];rfl)
    clear h F h1 h2 hn hnd hd hdd hfN hidd hl he hed heN hwas c1 p1
    go_enter Tryz.func117,Tryz.ntmps117
    go_wp2_with (first
     |(go_at_call 107;refine cf.mono ?_;rintro e w1 ⟨rfl,hb⟩;have HTB:=Lib.hid (HT.out.below hb);have HB:=Lib.hid hb;clear hb)
     |(go_at_call 165;refine(ZJ HTB.out HF.out.q0 hid HN.out HND.out).mono ?_;rintro e w' ⟨rfl,rfl⟩)
     |(go_at_call 160;refine(yG HTB.out HF.out.q0 htod has HE1.out HED.out HEN.out).mono ?_;rintro e w2 ⟨rfl,hb⟩;have TB:=HTB.out.below hb;have HTB2:=Lib.hid TB;have HB2:=Lib.hid hb;have hA:=TB.at HE1.out;have d4:=(zw hA).2.2.2.2;have ll:=ZS hA.names has;rw[HW.out] at ll;clear hb TB hA))
    go_ret
    rw[HR.out]
    exact⟨rfl,(Step.below HT.out HB.out).trans (Step.below HTB.out HB2.out)⟩
   ·have q:(was==id)=false:=by simpa using c1
    rw[q] at hE
    by_cases c2:was=0
    ·have q2:(was==0)=true:=by simpa using c2
     subst c2
     have hE:0=E:=hE
     subst hE
     obtain⟨d2,hd2,hd2l⟩:=zkf (s:=s) he hd
     have hlen:(Zk d2.names).length<maxLen:=by have:=(F.node e (zk he).1).2.2;rw[Yj,zj];omega
     have HR:=Lib.hid (show R=(0,In.renameIn t dir s tod as_ id) by
      rw[HRR.out]
      show(0,In.renameT t dir s tod as_)=_
      unfold In.renameT
      rw[zW he,hwas,hfN,q,q2];rfl)
     have HD2:=Lib.hid hd2
     have H4:=Lib.hid (fun (W W':World) (T:TblAt W g mb β t) (h1:yF W' (β dir).2 (In.without d.names s)) (h2:W.mapTurned W' (β dir).2)=>(by rw[ZK hd];exact T.set_names hd h1 h2:TblAt W' g mb β (In.nameOut t dir s)))
     clear h F h1 h2 hn hnd hd hdd hfN hidd hl he hed heN hwas c1 p1 hd2 hd2l q2
     go_enter Tryz.func117,Tryz.ntmps117
     go_wp2_with (first
      |(go_at_call 107;refine cf.mono ?_;rintro e w1 ⟨rfl,hb⟩;have HTB:=Lib.hid (HT.out.below hb);have HB:=Lib.hid hb;clear hb)
      |(go_at_call 165;refine(ZJ HTB.out HF.out.q0 hid HN.out HND.out).mono ?_;rintro e w' ⟨rfl,rfl⟩)
      |(go_at_call 160;refine(yG HTB.out HF.out.q0 htod has HE1.out HED.out HEN.out).mono ?_;rintro e w2 ⟨rfl,hb⟩;have TB:=HTB.out.below hb;have HTB2:=Lib.hid TB;have HB2:=Lib.hid hb;have hA:=TB.at HE1.out;have d4:=(zw hA).2.2.2.2;have ll:=ZS hA.names has;rw[HW.out] at ll;have c3:=(zS TB).2.2.2;have hld:=yz TB hdir;rw[ZN HD.out] at hld;have hAd:=TB.at HD.out;have dd4:=(zw hAd).2.2.2.2;have HNm:=Lib.hid hAd.names;clear hAd;clear hb TB hA)
      |(at_delete;refine ZG _ rfl _ _ 164 9 rfl 3 yC Tryz.underlying164 (β dir).2 _ rfl HNm.out _ _ rfl (WideMaps.keyOf_string_mk Tryz.underlying9 hs) ?_;intro w4 hm4 ht4;rw[xQ] at hm4;have T4:=H4.out _ w4 HTB2.out hm4 ht4;have hA4:=T4.at HD2.out;have e4:=(zw hA4).2.2.2.2;have HNm4:=Lib.hid hA4.names;have HM4:=Lib.hid hm4;have HW4:=Lib.hid ht4;clear hm4 ht4 T4 hA4;clear ll c3 hld dd4 d4)
      |(at_mapUpdate;refine ZO _ rfl _ _ _ 164 rfl 9 3 yC Tryz.underlying164 (β tod).2 _ rfl HNm4.out hlen (.string as_) (.int .i64 id) _ rfl rfl (WideMaps.keyOf_string_mk Tryz.underlying9 has) ?_;intro w5 hm5 ht5;rw[Xa] at hm5;have HM5:=Lib.hid hm5;have HW5:=Lib.hid ht5;clear hm5 ht5))
     go_ret
     rw[HR.out]
     exact⟨rfl,((Step.below HT.out HB.out).trans (Step.below HTB.out HB2.out)).trans (zaG HTB2.out HD.out HD2.out HM4.out HW4.out HM5.out HW5.out)⟩
    ·have q2:(was==0)=false:=by simpa using c2
     have q3:(was != 0)=true:=zG c2
     rw[q2] at hE
     have hlw:In.leads e.names as_≠0:=by rw[hwas];exact c2
     obtain⟨n3,hn3,hf3⟩:=F.find he hlw
     rw[hwas] at hn3 hf3
     rw[zW hn3] at hE
     have HN3:=Lib.hid hn3
     cases hn3d:n3.dir with
     |true=>
      rw[hn3d] at hE
      have hE:12=E:=hE
      subst hE
      have HND3:=Lib.hid hn3d
      have HR:=Lib.hid (show R=(12,t) from HRR.out)
      clear h F h1 h2 hn hnd hd hdd hfN hidd hl he hed heN hwas c1 p1 hlw hn3 hn3d
      go_enter Tryz.func117,Tryz.ntmps117
      go_wp2_with (first
       |(go_at_call 107;refine cf.mono ?_;rintro e w1 ⟨rfl,hb⟩;have HTB:=Lib.hid (HT.out.below hb);have HB:=Lib.hid hb;clear hb)
       |(go_at_call 165;refine(ZJ HTB.out HF.out.q0 hid HN.out HND.out).mono ?_;rintro e w' ⟨rfl,rfl⟩)
       |(go_at_call 160;refine(yG HTB.out HF.out.q0 htod has HE1.out HED.out HEN.out).mono ?_;rintro e w2 ⟨rfl,hb⟩;have TB:=HTB.out.below hb;have HTB2:=Lib.hid TB;have HB2:=Lib.hid hb;have hA:=TB.at HE1.out;have d4:=(zw hA).2.2.2.2;have ll:=ZS hA.names has;rw[HW.out] at ll;have c3:=(zS TB).2.2.2;have hlw3:=yz TB hf3;rw[ZN HN3.out] at hlw3;have n3c:=(zw (TB.at HN3.out)).1;rw[HND3.out] at n3c;clear hb TB hA))
      go_ret
      rw[HR.out]
      exact⟨rfl,(Step.below HT.out HB.out).trans (Step.below HTB.out HB2.out)⟩
     |false=>
      rw[hn3d] at hE
      have hE:0=E:=hE
      subst hE
      have HND3:=Lib.hid hn3d
      obtain⟨d',hd',hd'd,hd'l⟩:=zeF hd hdd he (by rw[hwas];exact hn3) hn3d
      obtain⟨e',he',he'd,he'l⟩:=zeF he hed he (by rw[hwas];exact hn3) hn3d
      obtain⟨t1,ht1⟩: ∃ t1,In.loses t tod as_=t1:=⟨_,rfl⟩
      rw[ht1] at hd' he'
      obtain⟨d2,hd2,hd2l⟩:=zkf (s:=s) he' hd'
      have hlen:(Zk d2.names).length<maxLen:=by have:=(F.node e (zk he).1).2.2;rw[Yj,zj];omega
      have HR:=Lib.hid (show R=(0,In.renameIn t1 dir s tod as_ id) by
       rw[HRR.out]
       show(0,In.renameT t dir s tod as_)=_
       unfold In.renameT
       rw[zW he,hwas,hfN,q,q2,ht1];rfl)
      have HL:=Lib.hid hlw
      have HD2:=Lib.hid hd2
      have HD':=Lib.hid hd'
      have HLo:=Lib.hid (fun (W:World) (T:TblAt W g mb β t)=>(ht1▸zas T F has he hlw:Calls Tryz.prog 166 #[.pointer (some ⟨g,0,none⟩),.pointer (some ⟨(β tod).1,0,none⟩),.string as_] W fun e w'=>e= .returned (.tuple #[])∧Step W w' g mb β t t1))
      have H4:=Lib.hid (fun (W W':World) (T:TblAt W g mb β t1) (h1:yF W' (β dir).2 (In.without d'.names s)) (h2:W.mapTurned W' (β dir).2)=>(by rw[ZK hd'];exact T.set_names hd' h1 h2:TblAt W' g mb β (In.nameOut t1 dir s)))
      clear h F h1 h2 hn hnd hd hdd hfN hidd hl he hed heN hwas c1 p1 hlw hn3 hn3d hd2 hd2l hd' hd'd hd'l he' he'd he'l ht1 q2
      go_enter Tryz.func117,Tryz.ntmps117
      go_wp2_with (first
       |(go_at_call 107;refine cf.mono ?_;rintro e w1 ⟨rfl,hb⟩;have HTB:=Lib.hid (HT.out.below hb);have HB:=Lib.hid hb;clear hb)
       |(go_at_call 165;refine(ZJ HTB.out HF.out.q0 hid HN.out HND.out).mono ?_;rintro e w' ⟨rfl,rfl⟩)
       |(go_at_call 160;refine(yG HTB.out HF.out.q0 htod has HE1.out HED.out HEN.out).mono ?_;rintro e w2 ⟨rfl,hb⟩;have TB:=HTB.out.below hb;have HTB2:=Lib.hid TB;have HB2:=Lib.hid hb;have hA:=TB.at HE1.out;have d4:=(zw hA).2.2.2.2;have ll:=ZS hA.names has;rw[HW.out] at ll;have c3:=(zS TB).2.2.2;have hlw3:=yz TB hf3;rw[ZN HN3.out] at hlw3;have n3c:=(zw (TB.at HN3.out)).1;rw[HND3.out] at n3c;clear hb TB hA)
       |(go_at_call 166;refine(HLo.out _ HTB2.out).mono ?_;rintro e w3 ⟨rfl,hs3⟩;have HS3:=Lib.hid hs3;clear d4 ll c3 hlw3 n3c;have c3:=(zS hs3.tbl).2.2.2;have hld:=yz hs3.tbl hdir;rw[ZN HD'.out] at hld;have hAd:=hs3.tbl.at HD'.out;have dd4:=(zw hAd).2.2.2.2;have HNm:=Lib.hid hAd.names;clear hAd hs3)
       |(at_delete;refine ZG _ rfl _ _ 164 9 rfl 3 yC Tryz.underlying164 (β dir).2 _ rfl HNm.out _ _ rfl (WideMaps.keyOf_string_mk Tryz.underlying9 hs) ?_;intro w4 hm4 ht4;rw[xQ] at hm4;have T4:=H4.out _ w4 HS3.out.tbl hm4 ht4;have hA4:=T4.at HD2.out;have e4:=(zw hA4).2.2.2.2;have HNm4:=Lib.hid hA4.names;have HM4:=Lib.hid hm4;have HW4:=Lib.hid ht4;clear hm4 ht4 T4 hA4;clear c3 hld dd4)
       |(at_mapUpdate;refine ZO _ rfl _ _ _ 164 rfl 9 3 yC Tryz.underlying164 (β tod).2 _ rfl HNm4.out hlen (.string as_) (.int .i64 id) _ rfl rfl (WideMaps.keyOf_string_mk Tryz.underlying9 has) ?_;intro w5 hm5 ht5;rw[Xa] at hm5;have HM5:=Lib.hid hm5;have HW5:=Lib.hid ht5;clear hm5 ht5))
      go_ret
      rw[HR.out]
      exact⟨rfl,(((Step.below HT.out HB.out).trans (Step.below HTB.out HB2.out)).trans HS3.out).trans (zaG HS3.out.tbl HD'.out HD2.out HM4.out HW4.out HM5.out HW5.out)⟩
  ·rw[zm p1] at hE
   have hE:In.placeE t tod as_=E:=hE
   rw[hE] at p1
   have HR:=Lib.hid (show R=(E,t) by rw[HRR.out,zm p1];rfl)
   have e1:=zG p1
   have HP1:=Lib.hid p1
   have HEE:=Lib.hid hE
   have HN:=Lib.hid hn
   have HND:=Lib.hid hnd
   clear h F h1 h2 hn hnd hd hdd hfN hidd hl p1 hE
   go_enter Tryz.func117,Tryz.ntmps117
   go_wp2_with (first
    |(go_at_call 107;refine cf.mono ?_;rintro e w1 ⟨rfl,hb⟩;have HTB:=Lib.hid (HT.out.below hb);have HB:=Lib.hid hb;clear hb)
    |(go_at_call 165;refine(ZJ HTB.out HF.out.q0 hid HN.out HND.out).mono ?_;rintro e w' ⟨rfl,rfl⟩)
    |(go_at_call 160;refine(zcU HTB.out HF.out.q0 htod has HEE.out HP1.out).mono ?_;rintro e w2 ⟨rfl,hb⟩;have HB2:=Lib.hid hb;clear hb))
   go_ret
   rw[HR.out]
   exact⟨rfl,(Step.below HT.out HB.out).trans (Step.below HTB.out HB2.out)⟩
 ·rw[zm h1] at hE
  have hE:In.unlinkE t dir s=E:=hE
  rw[hE] at h1 h3
  rw[h2] at cf
  generalize hidd:In.findN t dir s=id at cf h3 hid
  have e0:=zm h1
  have e1:=zG h1
  have HR:=Lib.hid (show R=(E,t) by rw[HRR.out,e0];rfl)
  have HNE:=Lib.hid h1
  have H3:=Lib.hid h3
  clear h F h1 h2 h3 hE hidd
  go_enter Tryz.func117,Tryz.ntmps117
  go_wp2_with (first
   |(go_at_call 107;refine cf.mono ?_;rintro e w1 ⟨rfl,hb⟩;have HTB:=Lib.hid (HT.out.below hb);have HB:=Lib.hid hb;clear hb)
   |(go_at_call 165;refine(XJ HTB.out HF.out.q0 hid H3.out HNE.out).mono ?_;rintro e w' ⟨rfl,rfl⟩))
  go_ret
  rw[HR.out]
  exact⟨rfl,Step.below HT.out HB.out⟩
 ·rw[zm h1] at hE
  have hE:In.unlinkE t dir s=E:=hE
  rw[hE] at h1 h2
  rw[h2] at cf
  have e0:=zm h1
  have e1:=zG h1
  have HR:=Lib.hid (show R=(E,t) by rw[HRR.out,e0];rfl)
  clear h F h1 h2 hE
  go_enter Tryz.func117,Tryz.ntmps117
  go_wp2_with (go_at_call 107;refine cf.mono ?_;rintro e w1 ⟨rfl,hb⟩;have HTB:=Lib.hid (HT.out.below hb);have HB:=Lib.hid hb;clear hb)
  go_ret
  rw[HR.out]
  exact⟨rfl,Step.below HT.out HB.out⟩
end
end
section
open Go.RowKit Go.Maps
theorem zaA: ∀ c:Nat,Lib.repeatL [0] c=List.replicate c (0:UInt8)
 |0=>rfl
 |c+1=>by
  have:=zaA c
  simp[Lib.repeatL,List.replicate_succ] at this ⊢
  exact this
theorem zia(c:Nat):(⟨(Lib.repeatL (⟨#[0]⟩:ByteArray).data.toList c).toArray⟩:ByteArray)=In.noughts c:=by
 show(⟨(Lib.repeatL [0] c).toArray⟩:ByteArray)=_
 rw[zaA];rfl
theorem YJ(c:Nat):(In.noughts c).size=c:=by
 show((List.replicate c (0:UInt8)).toArray).size=c
 simp
theorem zfv{l:List NodeD}{n m:NodeD}(h:n.id=m.id):In.set (In.set l n) m=In.set l m:=by
 unfold In.set
 rw[lbZz]
 refine lbVz fun x _=> ?_
 simp only[Function.comp]
 by_cases hx:x.id=n.id
 ·have e1:(x.id==n.id)=true:=by simpa using hx
  have e2:(x.id==m.id)=true:=by rw[hx,h];simp
  have e3:(n.id==m.id)=true:=by simpa using h
  simp only[e1,e2,e3,if_true]
 ·have e1:(x.id==n.id)=false:=by simpa using hx
  simp only[e1,Bool.false_eq_true,if_false]
theorem zjD{t:TabD}{n m:NodeD}(h:n.id=m.id):In.setN (In.setN t n) m=In.setN t m:=by
 unfold In.setN
 simp only[zfv h]
section
variable {w:World}{g mb:Nat}{β:Int→Nat×Nat}{t:TabD}
theorem zim(h:TblAt w g mb β t){id:Int}{x:NodeD}(hx:In.find t.nodes id=some x)(n:Nat):
  Step w (((w.setCell ⟨(β id).1,3,none⟩ (.string (x.data++In.noughts (n - x.data.size)))).setCell ⟨(β id).1,3,none⟩ (.string ((x.data++In.noughts (n - x.data.size)).extract 0 n))).setCell ⟨g,1,none⟩ (.int .i64 (t.used+((n:Int) - x.data.size)))) g mb β t (In.sizedT t id n):=by
 have hi:=(zk hx).2
 have T:=((h.set_data hx (x.data++In.noughts (n - x.data.size))).set_data (xM (n:={x with data:=x.data++In.noughts (n - x.data.size)}) hx hi) ((x.data++In.noughts (n - x.data.size)).extract 0 n)).set_used (t.used+((n:Int) - x.data.size))
 have e:In.sizedT t id n=⟨t.quota,t.used+((n:Int) - x.data.size),t.last,(In.setN t {x with data:=(x.data++In.noughts (n - x.data.size)).extract 0 n}).nodes⟩:=by
  unfold In.sizedT
  rw[zW hx,zao hx]
  rfl
 have e2:(In.setN (In.setN t {x with data:=x.data++In.noughts (n - x.data.size)}) {x with data:=(x.data++In.noughts (n - x.data.size)).extract 0 n}).nodes=(In.setN t {x with data:=(x.data++In.noughts (n - x.data.size)).extract 0 n}).nodes:=
  congrArg TabD.nodes (zjD (t:=t) (n:={x with data:=x.data++In.noughts (n - x.data.size)}) (m:={x with data:=(x.data++In.noughts (n - x.data.size)).extract 0 n}) rfl)
 rw[e,←e2]
 refine⟨T,(((Only.refl (foot g mb β t.nodes) w).setCell (p:=⟨(β id).1,3,none⟩) (.inl (zdd hx)) _).setCell (p:=⟨(β id).1,3,none⟩) (.inl (zdd hx)) _).setCell (p:=⟨g,1,none⟩) (.inl (zE.2 (.inl rfl))) _,fun k hk=> ?_⟩
 have hf:foot g mb β (In.setN (In.setN t {x with data:=x.data++In.noughts (n - x.data.size)}) {x with data:=(x.data++In.noughts (n - x.data.size)).extract 0 n}).nodes=foot g mb β t.nodes:=(Yd _).trans (Yd _)
 have hk':k∈foot g mb β (In.setN (In.setN t {x with data:=x.data++In.noughts (n - x.data.size)}) {x with data:=(x.data++In.noughts (n - x.data.size)).extract 0 n}).nodes:=hk
 rw[hf] at hk'
 exact hk'
theorem Ym(W:World)(k:Nat):Below W.heap.size W (W.drewN k):=⟨rfl,rfl,rfl,Nat.le_refl _,fun _ _=>rfl⟩
theorem zgd(h:TblAt w g mb β t)(F:Fit t){id:Int}(hid:Fits id){x:NodeD}(hx:In.find t.nodes id=some x){n:Nat}(hE:In.sizedE t x n=0):
  Calls Tryz.prog 163 #[.pointer (some ⟨g,0,none⟩),.pointer (some ⟨(β id).1,0,none⟩),.int .i64 n] w fun e w'=>e= .returned (.int .i64 0)∧Step w w' g mb β t (In.sizedT t id n):=by
 unfold In.sizedE at hE
 have hn1:(n:Int)≤1048576:=by
  by_cases h:(1048576:Int)<n
  ·rw[decide_eq_true h] at hE;simp at hE
  ·omega
 rw[decide_eq_false (show ¬(1048576:Int)<n by omega)] at hE
 have hsp:¬t.quota - t.used<(n:Int) - x.data.size:=by
  by_cases h:t.quota - t.used<(n:Int) - x.data.size
  ·rw[decide_eq_true h] at hE;simp at hE
  ·exact h
 have hds:=F.data x (zk hx).1
 have hA:=h.at hx
 obtain⟨c0,c1,c2,c3⟩:=zS h
 have d3:=(zw hA).2.2.2.1
 have f3:=ZH hA.row 3
 have f1:=ZH h.row 1
 have q1:=F.q1
 have q0:=F.q0
 have u0:=F.u0
 have u1:=F.u1
 have CR:=Lib.hid (fun W:World=>(by
  have e:max (0:Int) ((n:Int) - x.data.size)=((n - x.data.size:Nat):Int):=by omega
  rw[e,←zia]
  exact Tryz.strings_Repeat ⟨#[0]⟩ (n - x.data.size) W (by omega) (by show 1*_≤_;omega):Calls Tryz.prog 196 #[.string ⟨#[0]⟩,.int .i64 (max (0:Int) ((n:Int) - x.data.size))] W fun e w'=>e= .returned (.string (In.noughts (n - x.data.size)))∧Below W.heap.size W w'))
 have hcat:x.data.size+(In.noughts (n - x.data.size)).size≤9223372036854775807:=by rw[YJ];omega
 have hle:(n:Int)≤((x.data++In.noughts (n - x.data.size)).size:Int):=by rw[ByteArray.size_append,YJ];omega
 have hne:g≠(β id).1:=by have:=(h.apart_self (zk hx).1).2.1;rw[(zk hx).2] at this;exact this
 have hne':(β id).1≠g:=fun e=>hne e.symm
 have HT:=Lib.hid h
 have HX:=Lib.hid hx
 clear h F hx hA hE
 go_enter Tryz.func163,Tryz.ntmps163
 go_wp2_with fail
 go_quiet (fail)
 go_wp2_with fail
 go_region_with (go_at_call 196;refine(CR.out _).mono ?_;rintro e w1 ⟨rfl,hb⟩;have TB:=(HT.out.on (w':=w.drewN _) (fun _ _=>rfl)).below hb;have HTB:=Lib.hid TB;have hA1:=TB.at HX.out;have d3':=(zw hA1).2.2.2.1;have f3':=ZH hA1.row 3;have c1':=(zS TB).2.1;have f1':=ZH TB.row 1;have HB:=Lib.hid hb;clear hb TB hA1)
 all_goals
  clear d3 f3 c1 f1 c0 c2 c3
  go_wp2_with fail
  go_ret
  exact⟨rfl,(Step.below HT.out ((Ym w _).trans HB.out)).trans (zim HTB.out HX.out n)⟩
end
end
section
open Go.RowKit Go.Maps
section
variable {w:World}{g mb:Nat}{β:Int→Nat×Nat}{t:TabD}
theorem zgK(h:TblAt w g mb β t)(F:Fit t){id:Int}{x:NodeD}(hx:In.find t.nodes id=some x){n:Nat}(hn:n≤9223372036854775807){E:Int}(hE:In.sizedE t x n=E)(h0:E≠0):
  Calls Tryz.prog 163 #[.pointer (some ⟨g,0,none⟩),.pointer (some ⟨(β id).1,0,none⟩),.int .i64 n] w fun e w'=>e= .returned (.int .i64 E)∧Below w.heap.size w w':=by
 unfold In.sizedE at hE
 have hA:=h.at hx
 obtain⟨c0,c1,c2,c3⟩:=zS h
 have d3:=(zw hA).2.2.2.1
 have hds:=F.data x (zk hx).1
 have q1:=F.q1
 have q0:=F.q0
 have u0:=F.u0
 have u1:=F.u1
 clear F
 by_cases h1:(1048576:Int)<n
 ·rw[decide_eq_true h1] at hE
  have hE:5=E:=hE
  subst hE
  clear h hx hA
  go_enter Tryz.func163,Tryz.ntmps163
  go_wp2_with fail
  go_ret
  exact⟨rfl,Below.refl _ _⟩
 ·rw[decide_eq_false h1] at hE
  have h1':(n:Int)≤1048576:=by omega
  cases hsp:decide (t.quota - t.used<(n:Int) - x.data.size) with
  |false=>rw[hsp] at hE;exact absurd hE.symm h0
  |true=>
   rw[hsp] at hE
   have hE:6=E:=hE
   subst hE
   have hsp':=of_decide_eq_true hsp
   clear h hx hA hsp h1
   go_enter Tryz.func163,Tryz.ntmps163
   go_wp2_with fail
   go_quiet (fail)
   go_wp2_with fail
   go_ret
   exact⟨rfl,Ym _ _⟩
theorem zdR{x:NodeD}{n:Nat}:In.sizedE t x n=0∨In.sizedE t x n≠0:=by omega
theorem zdP(h:TblAt w g mb β t)(F:Fit t){id:Int}(hid:Fits id){n:Int}(hn:n≤9223372036854775807):
  Calls Tryz.prog 111 #[.pointer (some ⟨g,0,none⟩),.int .i64 id,.int .i64 n] w (zbD w g mb β t (In.trunc t id n)):=by
 obtain⟨E,hE⟩: ∃ E,In.truncE t id n=E:=⟨_,rfl⟩
 obtain⟨R,hRR⟩: ∃ R,In.trunc t id n=R:=⟨_,rfl⟩
 have hR:R=if E==0 then(0,In.sizedT t id n) else(E,t):=by rw[←hRR,←hE];rfl
 rw[hRR]
 have HRR:=Lib.hid hR
 clear hR hRR
 unfold In.truncE at hE
 have HT:=Lib.hid h
 rcases zbx (t:=t) (id:=id) (k:=n) with ⟨h1,x,hx,hxd,hk⟩|h1
 ·have cf:=zcG h F.q0 hid hx hxd hk
  obtain⟨m,rfl⟩: ∃ m:Nat,n=m:=⟨n.toNat,by have:=of_decide_eq_false hk;omega⟩
  rw[h1,zW hx] at hE
  have hE:In.sizedE t x m=E:=hE
  rcases zdR (t:=t) (x:=x) (n:=m) with h2|h2
  ·have cs:=zgd h F hid hx h2
   rw[h2] at hE
   subst hE
   have HR:=Lib.hid (show R=(0,In.sizedT t id m) from HRR.out)
   clear h F h1 hx hxd hk h2
   go_enter Tryz.func111,Tryz.ntmps111
   go_wp2_with (first
    |(go_at_call 162;refine cf.mono ?_;rintro e w' ⟨rfl,rfl⟩)
    |(go_at_call 163;refine cs.mono ?_;rintro e w3 ⟨rfl,hs3⟩;have HS3:=Lib.hid hs3;clear hs3))
   go_ret
   rw[HR.out]
   exact⟨rfl,HS3.out⟩
  ·have cs:=zgK h F hx (by omega) hE (hE▸h2)
   have e0:=zm (hE▸h2:E≠0)
   have HR:=Lib.hid (show R=(E,t) by rw[HRR.out,e0];rfl)
   clear h F h1 hx hxd hk h2 hE
   go_enter Tryz.func111,Tryz.ntmps111
   go_wp2_with (first
    |(go_at_call 162;refine cf.mono ?_;rintro e w' ⟨rfl,rfl⟩)
    |(go_at_call 163;refine cs.mono ?_;rintro e w3 ⟨rfl,hb⟩;have HB:=Lib.hid hb;clear hb))
   go_ret
   rw[HR.out]
   exact⟨rfl,Step.below HT.out HB.out⟩
 ·rw[zm h1] at hE
  have hE:In.fileE t id n=E:=hE
  have cf:=zfa h F.q0 hid hE (hE▸h1)
  have e0:=zG (hE▸h1:E≠0)
  have HR:=Lib.hid (show R=(E,t) by rw[HRR.out,zm (hE▸h1:E≠0)];rfl)
  clear h F h1 hE
  go_enter Tryz.func111,Tryz.ntmps111
  go_wp2_with (go_at_call 162;refine cf.mono ?_;rintro e w' ⟨rfl,rfl⟩)
  go_ret
  rw[HR.out]
  exact⟨rfl,Step.refl HT.out⟩
theorem zdU(d:ByteArray)(n:Nat):(In.resized d n).size=n:=by
 unfold In.resized
 rw[ByteArray.size_extract,ByteArray.size_append,YJ]
 omega
theorem ziw{id:Int}{x:NodeD}(hx:In.find t.nodes id=some x)(n:Int):In.find (In.sizedT t id n).nodes id=some {x with data:=In.resized x.data n.toNat}:=by
 unfold In.sizedT
 show In.find (In.dataOf t id (In.resized (In.at_ t id).data n.toNat)).nodes id=_
 rw[zW hx,zao hx]
 exact xM (n:={x with data:=In.resized x.data n.toNat}) hx (zk hx).2
theorem zjS{w':World}{t':TabD}(S:Step w w' g mb β t t'){id:Int}{x:NodeD}(hx:In.find t'.nodes id=some x)(v:ByteArray):Step w (w'.setCell ⟨(β id).1,3,none⟩ (.string v)) g mb β t (In.dataOf t' id v):=by
 rw[zao hx]
 refine⟨S.tbl.set_data hx v,S.only.setCell (p:=⟨(β id).1,3,none⟩) (.inl (S.foot _ (zdd hx))) _,fun k hk=>S.foot k ?_⟩
 have e:foot g mb β (In.setN t' {x with data:=v}).nodes=foot g mb β t'.nodes:=Yd _
 rw[e] at hk
 exact hk
theorem zle{w':World}{t':TabD}(S:Step w w' g mb β t t'):Step w w'.drew g mb β t t':=⟨S.tbl.on (fun _ _=>rfl),S.only.drew,S.foot⟩
theorem zmz(s:ByteArray):s.toList.isEmpty=decide (s.size=0):=by
 rw[ByteArray.toList_eq,Bool.eq_iff_iff,List.isEmpty_iff,decide_eq_true_iff]
 constructor
 ·intro h;have:=congrArg List.length h;simpa using this
 ·intro h;exact lbWz.1 (by simpa using h)
theorem zkQ(h:TblAt w g mb β t)(F:Fit t){id:Int}(hid:Fits id){a:Int}(ha:a≤9223372036854775807){s:ByteArray}(hs:s.size≤maxLen):
  Calls Tryz.prog 110 #[.pointer (some ⟨g,0,none⟩),.int .i64 id,.int .i64 a,.string s] w (zbD w g mb β t (In.write t id a s)):=by
 rw[zj] at hs
 obtain⟨E,hE⟩: ∃ E,In.writeE t id a s=E:=⟨_,rfl⟩
 obtain⟨R,hRR⟩: ∃ R,In.write t id a s=R:=⟨_,rfl⟩
 have hR:R=if E==0 then(0,In.writeT t id a s) else(E,t):=by rw[←hRR,←hE];rfl
 rw[hRR]
 have HRR:=Lib.hid hR
 clear hR hRR
 unfold In.writeE at hE
 have HT:=Lib.hid h
 rcases zbx (t:=t) (id:=id) (k:=a) with ⟨h1,x,hx,hxd,hk⟩|h1
 ·have cf:=zcG h F.q0 hid hx hxd hk
  obtain⟨m,rfl⟩: ∃ m:Nat,a=m:=⟨a.toNat,by have:=of_decide_eq_false hk;omega⟩
  rw[h1,zW hx] at hE
  have hds:=F.data x (zk hx).1
  cases k1:decide ((1048576:Int)<m) with
  |true=>
   rw[k1] at hE
   have hE:5=E:=hE
   subst hE
   have HR:=Lib.hid (show R=(5,t) from HRR.out)
   clear h F h1 hx hxd hk
   go_enter Tryz.func110,Tryz.ntmps110
   go_wp2_with (go_at_call 162;refine cf.mono ?_;rintro e w' ⟨rfl,rfl⟩)
   go_ret
   rw[HR.out]
   exact⟨rfl,Step.refl HT.out⟩
  |false=>
   have m1:=of_decide_eq_false k1
   cases k2:decide ((1048576:Int) - m<s.size) with
   |true=>
    rw[k1,k2] at hE
    have hE:5=E:=hE
    subst hE
    have HR:=Lib.hid (show R=(5,t) from HRR.out)
    clear h F h1 hx hxd hk
    go_enter Tryz.func110,Tryz.ntmps110
    go_wp2_with (go_at_call 162;refine cf.mono ?_;rintro e w' ⟨rfl,rfl⟩)
    go_ret
    rw[HR.out]
    exact⟨rfl,Step.refl HT.out⟩
   |false=>
    have m2:=of_decide_eq_false k2
    rw[k1,k2] at hE
    have hE:(if s.size==0 then 0 else In.sizedE t x (max ((m:Int)+s.size) x.data.size))=E:=hE
    have hemp:=zmz s
    by_cases hz:s.size=0
    ·rw[decide_eq_true hz] at hemp
     rw[hz] at hE
     have hE:0=E:=hE
     subst hE
     have HR:=Lib.hid (show R=(0,t) by
      rw[HRR.out]
      show(0,In.writeT t id m s)=_
      unfold In.writeT
      rw[hz];rfl)
     clear h F h1 hx hxd hk
     go_enter Tryz.func110,Tryz.ntmps110
     go_wp2_with (go_at_call 162;refine cf.mono ?_;rintro e w' ⟨rfl,rfl⟩)
     go_ret
     rw[HR.out]
     exact⟨rfl,Step.refl HT.out⟩
    ·rw[decide_eq_false hz] at hemp
     have hz':(s.size==0)=false:=by simpa using hz
     rw[hz'] at hE
     have hE:In.sizedE t x (max ((m:Int)+s.size) x.data.size)=E:=hE
     have em:max ((m:Int)+s.size) (x.data.size:Int)=((max (m+s.size) x.data.size:Nat):Int):=by omega
     have d3:=(zw (h.at hx)).2.2.2.1
     rw[em] at hE
     rcases zdR (t:=t) (x:=x) (n:=max (m+s.size) x.data.size) with h2|h2
     ·have cs:=zgd h F hid hx h2
      rw[h2] at hE
      subst hE
      have HR:=Lib.hid (show R=(0,In.overT (In.sizedT t id ((max (m+s.size) x.data.size:Nat):Int)) id m s) by
       rw[HRR.out]
       show(0,In.writeT t id m s)=_
       unfold In.writeT
       rw[zW hx,hz',em];rfl)
      have hx1:=ziw hx ((max (m+s.size) x.data.size:Nat):Int)
      rw[Int.toNat_natCast] at hx1
      have hr:=zdU x.data (max (m+s.size) x.data.size)
      generalize In.resized x.data (max (m+s.size) x.data.size)=D at hx1 hr
      generalize In.sizedT t id ((max (m+s.size) x.data.size:Nat):Int)=t1 at cs hx1 HR
      rw[←em] at cs
      have hl1:(m:Int)≤D.size:=by omega
      have hl2:(m:Int)+s.size≤D.size:=by omega
      have hl0:(0:Int)≤(m:Int)+s.size:=by omega
      have ht0:((m:Int)+s.size).toNat=m+s.size:=by omega
      have g1:¬(9223372036854775807<min m D.size+s.size):=by omega
      have g2:¬(9223372036854775807<min m D.size+s.size+(D.size - (m+s.size))):=by omega
      have HX1:=Lib.hid hx1
      clear h F h1 hx hxd hk h2 hx1 hr em
      go_enter Tryz.func110,Tryz.ntmps110
      go_wp2_with (first
       |(go_at_call 162;refine cf.mono ?_;rintro e w' ⟨rfl,rfl⟩)
       |(go_at_call 163;refine cs.mono ?_;rintro e w3 ⟨rfl,hs3⟩;have HS3:=Lib.hid hs3;have hA3:=hs3.tbl.at HX1.out;have e3:=(zw hA3).2.2.2.1;have f3:=ZH hA3.row 3;clear hs3 hA3 d3))
      go_still_tail 18,(by kernel_rfl)
      change wpList _ _ _ _ _ w3.drew
      go_wp2_with fail
      go_ret
      rw[HR.out]
      exact⟨rfl,(by unfold In.overT;rw[zW HX1.out];exact zjS (zle HS3.out) HX1.out _)⟩
     ·have cs:=zgK h F hx (by omega) hE (hE▸h2)
      rw[←em] at cs
      have e0:=zm (hE▸h2:E≠0)
      have e1:=zG (hE▸h2:E≠0)
      have HR:=Lib.hid (show R=(E,t) by rw[HRR.out,e0];rfl)
      clear h F h1 hx hxd hk h2 hE em
      go_enter Tryz.func110,Tryz.ntmps110
      go_wp2_with (first
       |(go_at_call 162;refine cf.mono ?_;rintro e w' ⟨rfl,rfl⟩)
       |(go_at_call 163;refine cs.mono ?_;rintro e w3 ⟨rfl,hb⟩;have HB:=Lib.hid hb;clear hb))
      go_ret
      rw[HR.out]
      exact⟨rfl,Step.below HT.out HB.out⟩
 ·rw[zm h1] at hE
  have hE:In.fileE t id a=E:=hE
  have cf:=zfa h F.q0 hid hE (hE▸h1)
  have e0:=zG (hE▸h1:E≠0)
  have HR:=Lib.hid (show R=(E,t) by rw[HRR.out,zm (hE▸h1:E≠0)];rfl)
  clear h F h1 hE
  go_enter Tryz.func110,Tryz.ntmps110
  go_wp2_with (go_at_call 162;refine cf.mono ?_;rintro e w' ⟨rfl,rfl⟩)
  go_ret
  rw[HR.out]
  exact⟨rfl,Step.refl HT.out⟩
end
end
section
open Go.RowKit Go.Maps
theorem zcX(d:ByteArray)(a k:Nat)(ha:a≤d.size)(hk:k≤d.size - a):(d.extract a d.size).extract 0 k=d.extract a (a+k):=by
 apply ByteArray.ext
 rw[ByteArray.data_extract,ByteArray.data_extract,ByteArray.data_extract]
 rw[Array.extract_extract]
 congr 1
 omega
section
variable {w:World}{g mb:Nat}{β:Int→Nat×Nat}{t:TabD}
theorem zgO(h:TblAt w g mb β t)(F:Fit t){id:Int}(hid:Fits id)(a n:Int):
  Calls Tryz.prog 109 #[.pointer (some ⟨g,0,none⟩),.int .i64 id,.int .i64 a,.int .i64 n] w fun e w'=>e= .returned (.tuple #[.string (In.read t id a n),.int .i64 (In.readE t id a n)])∧Below w.heap.size w w':=by
 obtain⟨E,hE⟩: ∃ E,In.readE t id a n=E:=⟨_,rfl⟩
 obtain⟨S,hS⟩: ∃ S,In.read t id a n=S:=⟨_,rfl⟩
 have hS':S=if E==0 then In.part (In.at_ t id).data a n else ByteArray.empty:=by rw[←hS,←hE];rfl
 rw[hE,hS]
 have HS:=Lib.hid hS'
 clear hS hS'
 have hE:In.fileE t id (min a n)=E:=hE
 rcases zbx (t:=t) (id:=id) (k:=min a n) with ⟨h1,x,hx,hxd,hk⟩|h1
 ·have cf:=zcG h F.q0 hid hx hxd hk
  rw[h1] at hE
  subst hE
  have hk0:=of_decide_eq_false hk
  obtain⟨m,rfl⟩: ∃ m:Nat,a=m:=⟨a.toNat,by omega⟩
  obtain⟨k,rfl⟩: ∃ k:Nat,n=k:=⟨n.toNat,by omega⟩
  have HP:=Lib.hid (show S=In.part x.data m k by rw[HS.out,zW hx];rfl)
  have d3:=(zw (h.at hx)).2.2.2.1
  have hds:=F.data x (zk hx).1
  have e1:min (m:Int) (x.data.size:Int)=((min m x.data.size:Nat):Int):=by omega
  have z1:(0:Int)≤((min m x.data.size:Nat):Int):=by omega
  have z2:((min m x.data.size:Nat):Int)≤x.data.size:=by omega
  clear h F h1 hx hxd hk hk0
  go_enter Tryz.func109,Tryz.ntmps109
  go_wp2_with (go_at_call 162;refine cf.mono ?_;rintro e w' ⟨rfl,rfl⟩)
  go_quiet (fail)
  go_wp2_with fail
  go_ret2
  refine⟨?_,Ym _ _⟩
  rw[HP.out]
  refine congrArg (fun z=>Ending.returned (.tuple #[.string z,.int .i64 0])) (?_:(x.data.extract (min m x.data.size) x.data.size).extract 0 _=_)
  rw[zcX _ _ _ (by omega) (by omega)]
  show x.data.extract _ _=x.data.extract (min (m:Int).toNat x.data.size) _
  congr 1
  omega
 ·have cf:=zfa h F.q0 hid hE (hE▸h1)
  have e0:=zG (hE▸h1:E≠0)
  have HP:=Lib.hid (show S=ByteArray.empty by rw[HS.out,zm (hE▸h1:E≠0)];rfl)
  clear h F h1 hE
  go_enter Tryz.func109,Tryz.ntmps109
  go_wp2_with (go_at_call 162;refine cf.mono ?_;rintro e w' ⟨rfl,rfl⟩)
  go_ret2
  rw[HP.out]
  exact⟨rfl,Below.refl _ _⟩
def Goes(w:World)(g mb:Nat)(β:Int→Nat×Nat)(t:TabD)(w':World)(t':TabD):Prop:=
 ∃ β',TblAt w' g mb β' t'∧Only (foot g mb β t.nodes) w w'∧ ∀ k∈foot g mb β' t'.nodes,k∈foot g mb β t.nodes∨w.heap.size≤k
theorem Step.goes{w':World}{t':TabD}(S:Step w w' g mb β t t'):Goes w g mb β t w' t':=⟨β,S.tbl,S.only,fun k hk=> .inl (S.foot k hk)⟩
def putβ(β:Int→Nat×Nat)(id:Int)(p:Nat×Nat):Int→Nat×Nat:=fun i=>if i=id then p else β i
theorem zfE{l:List NodeD}{id:Int}{p:Nat×Nat}(hl: ∀ n∈l,n.id≠id):zz (putβ β id p) l=zz β l:=by
 unfold zz putβ
 refine lbVz fun n hn=> ?_
 rw[if_neg (hl n hn)]
theorem zjY{l:List NodeD}{id:Int}{p:Nat×Nat}(hl: ∀ n∈l,n.id≠id):foot g mb (putβ β id p) l=foot g mb β l:=by
 unfold foot putβ
 congr 2
 rw[ldLz,ldLz]
 congr 1
 refine lbVz fun n hn=> ?_
 rw[if_neg (hl n hn)]
theorem zgC{β:Int→Nat×Nat}{id:Int}{v:Value}: ∀ {l:List NodeD},(∀ n∈l,n.id<id)→insL (.int .i64 id,v) (zz β l)=zz β l++[(.int .i64 id,v)]
 |[],_=>rfl
 |y::r,h=>by
  have ih:=zgC (β:=β) (v:=v) (l:=r) fun n hn=>h n (by simp[hn])
  unfold zz at ih ⊢
  simp only[laDz,insL]
  have e:(Lit.int .i64 id).before (.int .i64 y.id)=false:=by
   show decide (id<y.id)=false
   have:=h y (by simp)
   exact decide_eq_false (by omega)
  rw[e]
  simp only[Bool.false_eq_true,if_false,ih,laIz]
theorem zmK{id:Int}{v:Value}{l:List NodeD}(h: ∀ n∈l,n.id<id):putL (.int .i64 id) v (zz β l)=zz β l++[(.int .i64 id,v)]:=by
 unfold putL
 rw[zef]
 have e:In.del l id=l:=by
  unfold In.del
  rw[lcLz]
  intro n hn
  have:=h n hn
  have e2:(n.id==id)=false:=beq_eq_false_iff_ne.2 (by omega)
  rw[e2];rfl
 rw[e]
 exact zgC h
theorem zdF{l:List NodeD}{n:NodeD}{b m:Nat}(hne: ∀ k∈l,k.id≠n.id):foot g mb (putβ β n.id (b,m)) (l++[n])=foot g mb β l++[b,m]:=by
 have e:=zjY (g:=g) (mb:=mb) (β:=β) (p:=(b,m)) hne
 unfold foot at e ⊢
 rw[laWz]
 simp only[laOz,List.flatMap_nil,laYz,laIz]
 simp only[List.cons.injEq,true_and] at e
 rw[e]
 simp[putβ]
theorem TblAt.grow{w':World}(h:TblAt w g mb β t){id:Int}(hl: ∀ n∈t.nodes,n.id<id){b m:Nat}{n:NodeD}(hid:n.id=id)(hw: ∀ k∈foot g mb β t.nodes,k≠mb→w'.heap[k]? =w.heap[k]?)
  (hm:zA Tryz.prog 3 w' mb (putL (.int .i64 id) (.pointer (some ⟨b,0,none⟩)) (zz β t.nodes))) (hN:NodeAt w' b m n) (hb:w.heap.size≤b) (hmm:w.heap.size≤m):TblAt w' g mb (putβ β id (b,m)) {t with nodes:=t.nodes++[n]}:=by
 subst hid
 have hne: ∀ k∈t.nodes,k.id≠n.id:=fun k hk=>by have:=hl k hk;omega
 have hbm:b≠m:=fun e=>by
  obtain⟨es,clock,h2,_⟩:=hN.names
  have h1:=hN.row
  rw[e,h2] at h1
  cases h1
 have hf:foot g mb (putβ β n.id (b,m)) (t.nodes++[n])=foot g mb β t.nodes++[b,m]:=zdF hne
 have hlt:=h.lt
 refine⟨?_, ?_, ?_, ?_⟩
 ·exact(hw g (zE.2 (.inl rfl)) h.apart_mb).trans h.row
 ·rw[zmK hl] at hm
  show zA _ _ _ _ (zz _ (t.nodes++[n]))
  have e:zz (putβ β n.id (b,m)) (t.nodes++[n])=zz β t.nodes++[(.int .i64 n.id,.pointer (some ⟨b,0,none⟩))]:=by
   rw[←zfE (β:=β) (p:=(b,m)) hne]
   unfold zz
   rw[laMz]
   simp[putβ]
  rw[e]
  exact hm
 ·intro k hk
  rcases laAz.1 hk with hk|hk
  ·have e:putβ β n.id (b,m) k.id=β k.id:=by unfold putβ;rw[if_neg (hne k hk)]
   rw[e]
   exact(h.node k hk).on (hw _ (zE.2 (.inr (.inr ⟨k,hk,.inl rfl⟩))) (fun e=>(h.apart_self hk).2.2.2.1 e.symm)) (hw _ (zE.2 (.inr (.inr ⟨k,hk,.inr rfl⟩))) (fun e=>(h.apart_self hk).2.2.2.2 e.symm))
  ·have:k=n:=by simpa using hk
   subst this
   have e:putβ β k.id (b,m) k.id=(b,m):=by unfold putβ;rw[if_pos rfl]
   rw[e]
   exact hN
 ·show(foot g mb (putβ β n.id (b,m)) (t.nodes++[n])).Nodup
  rw[hf,laSz]
  refine⟨h.apart,by simp[hbm],fun a ha c hc e=> ?_⟩
  have:=hlt a ha
  rcases laBz.1 hc with rfl|hc
  ·omega
  ·have:c=m:=by simpa using hc
   omega
theorem zfL{id:Int}{p:Nat×Nat}{i:Int}(h:i≠id):putβ β id p i=β i:=by unfold putβ;rw[if_neg h]
theorem zfb{l:List NodeD}{n d:NodeD}{id:Int}(h:In.find l id=some d):In.find (l++[n]) id=some d:=by
 unfold In.find at h ⊢
 rw[List.find?_append,h];rfl
theorem zgZ{dir:Int}{d:NodeD}(hd:In.find t.nodes dir=some d){s:ByteArray}{isDir:Bool}(hne:dir≠t.last+1):
  In.makeT t dir s isDir=In.setN ⟨t.quota,t.used+64,t.last+1,t.nodes++[⟨t.last+1,isDir,1,0,ByteArray.empty,[]⟩]⟩ {d with names:=In.with_ d.names s (t.last+1)}:=by
 unfold In.makeT
 rw[xW hd]
 unfold In.setN
 simp only[TabD.mk.injEq,true_and]
 show In.set _ _++_=In.set (_++_) _
 unfold In.set
 rw[laMz]
 congr 1
 have hi:=(zk hd).2
 have e:((t.last+1:Int)==d.id)=false:=by rw[hi];exact beq_eq_false_iff_ne.2 fun e=>hne e.symm
 simp only[laDz,lbBz,e,Bool.false_eq_true,if_false]
theorem zkL{wA wB:World}(h:TblAt wA g mb β {t with last:=t.last+1,used:=t.used+64}){dir:Int}{d:NodeD}(hd:In.find t.nodes dir=some d)(isDir:Bool)(hlast: ∀ n∈t.nodes,n.id≤t.last)(hid:Fits (t.last+1))
  (hm:zA Tryz.prog 3 wB mb (putL (.int .i64 (t.last+1)) (.pointer (some ⟨wA.heap.size+1,0,none⟩)) (zz β t.nodes)))
  (ht:(((wA.alloc (Obj.map #[] 0)).alloc (Obj.cells #[.bool isDir,.int .i64 1,.int .i64 0,.string {data:= #[]},.map (some wA.heap.size)] 166)).drew).mapTurned wB mb):
  TblAt wB g mb (putβ β (t.last+1) (wA.heap.size+1,wA.heap.size)) ⟨t.quota,t.used+64,t.last+1,t.nodes++[⟨t.last+1,isDir,1,0,ByteArray.empty,[]⟩]⟩∧
   In.find (t.nodes++[⟨t.last+1,isDir,1,0,ByteArray.empty,[]⟩]) dir=some d∧Only (foot g mb β t.nodes) wA wB:=by
 have hmb:=zA.lt h.map
 have hold: ∀ k,k<wA.heap.size→k≠mb→wB.heap[k]? =wA.heap[k]? :=fun k hk hne=>by
  rw[Zm ht hne]
  show((wA.alloc (Obj.map #[] 0)).alloc _).heap[k]? =_
  rw[Below.heap_alloc _ _ _ (by simp;omega),Below.heap_alloc _ _ _ hk]
 have hN:NodeAt wB (wA.heap.size+1) wA.heap.size ⟨t.last+1,isDir,1,0,ByteArray.empty,[]⟩:=by
  constructor
  ·rw[Zm ht (by omega)]
   show((wA.alloc (Obj.map #[] 0)).alloc _).heap[wA.heap.size+1]? =_
   have:=heap_alloc_new (wA.alloc (Obj.map #[] 0)) (Obj.cells #[.bool isDir,.int .i64 1,.int .i64 0,.string {data:= #[]},.map (some wA.heap.size)] 166)
   have e:(wA.alloc (Obj.map #[] 0)).heap.size=wA.heap.size+1:=by simp
   rw[e] at this
   exact this
  ·refine zA.on (w:=wA.alloc (Obj.map #[] 0)) (zA.made wA) ?_
   rw[Zm ht (by omega)]
   show((wA.alloc (Obj.map #[] 0)).alloc _).heap[wA.heap.size]? =_
   rw[Below.heap_alloc _ _ _ (by simp)]
 refine⟨h.grow (fun n hn=>by have:=hlast n hn;omega) rfl (fun k hk hne=>hold k (h.lt k hk) hne) hm hN (by omega) (Nat.le_refl _),zfb hd, ?_⟩
 refine Only.turned (w:=((wA.alloc (Obj.map #[] 0)).alloc (Obj.cells #[.bool isDir,.int .i64 1,.int .i64 0,.string {data:= #[]},.map (some wA.heap.size)] 166)).drew) ?_ ht (.inl (zE.2 (.inr (.inl rfl))))
 exact(((Only.refl _ _).alloc _).alloc _).drew
theorem Xi:(zz β t.nodes).length=t.nodes.length:=by simp[zz]
theorem zmL(h:TblAt w g mb β t)(F:Fit t){dir:Int}(hdir:Fits dir){s:ByteArray}(hs:s.size≤maxLen)(isDir:Bool)(hE:In.makeE t dir s=0)(hlast: ∀ n∈t.nodes,n.id≤t.last)(hl0:0≤t.last)(hl1:t.last≤4611686018427387904):
  Calls Tryz.prog 106 #[.pointer (some ⟨g,0,none⟩),.int .i64 dir,.string s,.bool isDir] w fun e w'=>e= .returned (.tuple #[.int .i64 (t.last+1),.int .i64 0])∧Goes w g mb β t w' (In.makeT t dir s isDir):=by
 unfold In.makeE at hE
 rcases Xo (t:=t) (dir:=dir) (s:=s) with ⟨h2,d,hd,hdd,hN,hl⟩|h2
 ·have ce:=zbj h F.q0 hdir hs hd hdd hN hl
  rw[h2] at hE
  have k1:decide (4096≤(t.nodes.length:Int))=false:=by
   cases hk:decide (4096≤(t.nodes.length:Int)) with
   |false=>rfl
   |true=>rw[hk] at hE;simp at hE
  rw[k1] at hE
  have k2:decide (t.quota - t.used<64)=false:=by
   cases hk:decide (t.quota - t.used<64) with
   |false=>rfl
   |true=>rw[hk] at hE;simp at hE
  have c1:=of_decide_eq_false k1
  have c2:=of_decide_eq_false k2
  have q1:=F.q1
  have q0:=F.q0
  have u0:=F.u0
  have u1:=F.u1
  have hlen:=(F.node d (zk hd).1).2.2
  have hdl:dir≠t.last+1:=by have:=hlast d (zk hd).1;rw[(zk hd).2] at this;omega
  have hidL:Fits (t.last+1):=Zy (by omega) (by omega)
  have HT:=Lib.hid h
  clear h F h2 hE
  go_enter Tryz.func106,Tryz.ntmps106
  go_wp2_with (first
   |(go_at_call 159;refine ce.mono ?_;rintro e w1 ⟨rfl,hb⟩;have TB:=HT.out.below hb;have HTB:=Lib.hid TB;have HB:=Lib.hid hb;obtain⟨b0,b1,b2,b3⟩:=zS TB;have f1:=ZH TB.row 1;have f2:=ZH TB.row 2;have HNm:=Lib.hid TB.map;clear TB hb)
   |(at_len;refine ZP _ rfl _ 160 rfl 3 163 Tryz.underlying160 mb _ _ Xi rfl HNm.out ?_))
  go_quiet (fail)
  go_upto_region 10 with fail
  have TA:TblAt (((w1.drewN nq).setCell ⟨g,2,none⟩ (.int .i64 (t.last+1))).setCell ⟨g,1,none⟩ (.int .i64 (t.used+64))) g mb β {t with last:=t.last+1,used:=t.used+64}:=
   ((HTB.out.on (w':=w1.drewN nq) (fun _ _=>rfl)).set_last (t.last+1)).set_used (t.used+64)
  have hOA:Only (foot g mb β t.nodes) w1 (((w1.drewN nq).setCell ⟨g,2,none⟩ (.int .i64 (t.last+1))).setCell ⟨g,1,none⟩ (.int .i64 (t.used+64))):=
   (((Only.of_below (Ym w1 nq)).setCell (p:=⟨g,2,none⟩) (.inl (zE.2 (.inl rfl))) _).setCell (p:=⟨g,1,none⟩) (.inl (zE.2 (.inl rfl))) _)
  have HTA:=Lib.hid TA
  have HOA:=Lib.hid hOA
  clear TA hOA b0 b1 b2 b3 f1 f2
  generalize World.setCell (World.setCell _ _ _) _ _=wA at*
  obtain⟨b0,b1,b2,b3⟩:=zS HTA.out
  have hmm:= @run_makeMap Tryz.prog
  have hg:=HTA.out.lt g (zE.2 (.inl rfl))
  have hid1:Fits (t.last+1):=Zy (by omega) (by omega)
  obtain⟨wB,hrun,hmB,htB⟩:=zA.store (P:=Tryz.prog) (w:=((wA.alloc (Obj.map #[] 0)).alloc (Obj.cells #[.bool isDir,.int .i64 1,.int .i64 0,.string {data:= #[]},.map (some wA.heap.size)] 166)).drew)
   (zA.on HTA.out.map (by
    have hlt:=zA.lt HTA.out.map
    show((wA.alloc (Obj.map #[] 0)).alloc _).heap[mb]? =_
    rw[Below.heap_alloc _ _ _ (by simp;omega),Below.heap_alloc _ _ _ hlt])) zq Tryz.underlying160 (by rw[Xi,zj];show t.nodes.length<_;omega) (key:= .int .i64 (t.last+1)) (val:= .pointer (some ⟨wA.heap.size+1,0,none⟩)) (keyOf_int_mk Tryz.underlying3 hid1)
  have HMB:=Lib.hid hmB
  have HTB2:=Lib.hid htB
  clear hmB htB
  go_region
  have HG:=Lib.hid (zkL HTA.out hd isDir hlast hidL HMB.out HTB2.out)
  clear hrun b0 b1 b2 b3 hg
  obtain⟨T1,hd1,hOB⟩:=HG.out
  obtain⟨b0,b1,b2,b3⟩:=zS T1
  have hA1:=T1.at hd1
  rw[zfL hdl] at hA1
  have d4:=(zw hA1).2.2.2.2
  obtain⟨wC,hrun,hmC,htC⟩:=zA.store (P:=Tryz.prog) (w:=wB.drew) (zA.on hA1.names rfl) yC Tryz.underlying164 (by rw[Yj,zj];omega) (key:= .string s) (val:= .int .i64 (t.last+1)) (WideMaps.keyOf_string_mk Tryz.underlying9 hs)
  rw[Xa] at hmC
  have HT2:=Lib.hid ((T1.on (w':=wB.drew) (fun _ _=>rfl)).set_names hd1 (d:=In.with_ d.names s (t.last+1)) (by rw[zfL hdl];exact hmC) (by rw[zfL hdl];exact htC))
  have HTC:=Lib.hid htC
  have HOB:=Lib.hid hOB
  have HHD:=Lib.hid hd
  clear hmC htC T1 hd1 hOB hA1 hd
  go_wp2_with fail
  go_region
  clear hrun b0 b1 b2 b3 d4
  obtain⟨b0,b1,b2,b3⟩:=zS HT2.out
  go_wp2_with fail
  go_ret2
  refine⟨rfl,putβ β (t.last+1) (wA.heap.size+1,wA.heap.size), ?_, ?_, ?_⟩
  ·rw[zgZ HHD.out hdl];exact HT2.out
  ·exact((Only.of_below HB.out).trans HOA.out).trans (HOB.out.trans ((Only.refl _ _).drew.turned HTC.out (.inl (zcM HHD.out))))
  ·intro k hk
   rw[zgZ HHD.out hdl,Yd] at hk
   have hs1:w.heap.size≤wA.heap.size:=Nat.le_trans HB.out.size HOA.out.size
   have e:=zdF (g:=g) (mb:=mb) (β:=β) (n:=⟨t.last+1,isDir,1,0,ByteArray.empty,[]⟩) (b:=wA.heap.size+1) (m:=wA.heap.size) (l:=t.nodes) (fun k hk=>by have:=hlast k hk;show k.id≠t.last+1;omega)
   rw[e] at hk
   rcases laAz.1 hk with hk|hk
   ·exact .inl hk
   ·right
    simp only[laBz,lbRz,or_false] at hk
    omega
 ·rw[zm h2] at hE
  exact absurd hE h2
theorem zoz(h:TblAt w g mb β t)(F:Fit t){dir:Int}(hdir:Fits dir){s:ByteArray}(hs:s.size≤maxLen)(isDir:Bool){E:Int}(hE:In.makeE t dir s=E)(h0:E≠0)(hsmall:t.nodes.length≤4611686018427387904):
  Calls Tryz.prog 106 #[.pointer (some ⟨g,0,none⟩),.int .i64 dir,.string s,.bool isDir] w fun e w'=>e= .returned (.tuple #[.int .i64 0,.int .i64 E])∧Below w.heap.size w w':=by
 unfold In.makeE at hE
 have HT:=Lib.hid h
 have q1:=F.q1
 have q0:=F.q0
 have u0:=F.u0
 have u1:=F.u1
 rcases Xo (t:=t) (dir:=dir) (s:=s) with ⟨h2,d,hd,hdd,hN,hl⟩|h2
 ·have ce:=zbj h F.q0 hdir hs hd hdd hN hl
  rw[h2] at hE
  cases k1:decide (4096≤(t.nodes.length:Int)) with
  |true=>
   rw[k1] at hE
   have hE:5=E:=hE
   subst hE
   clear h F h2 h0
   go_enter Tryz.func106,Tryz.ntmps106
   go_wp2_with (first
    |(go_at_call 159;refine ce.mono ?_;rintro e w1 ⟨rfl,hb⟩;have TB:=HT.out.below hb;have HB:=Lib.hid hb;have b3:=(zS TB).2.2.2;have HNm:=Lib.hid TB.map;clear TB hb)
    |(at_len;refine ZP _ rfl _ 160 rfl 3 163 Tryz.underlying160 mb _ _ Xi rfl HNm.out ?_))
   go_ret2
   exact⟨rfl,HB.out⟩
  |false=>
   rw[k1] at hE
   cases k2:decide (t.quota - t.used<64) with
   |false=>rw[k2] at hE;exact absurd hE.symm h0
   |true=>
    rw[k2] at hE
    have hE:6=E:=hE
    subst hE
    clear h F h2 h0
    go_enter Tryz.func106,Tryz.ntmps106
    go_wp2_with (first
     |(go_at_call 159;refine ce.mono ?_;rintro e w1 ⟨rfl,hb⟩;have TB:=HT.out.below hb;have HB:=Lib.hid hb;obtain⟨b0,b1,b2,b3⟩:=zS TB;have HNm:=Lib.hid TB.map;clear TB hb)
     |(at_len;refine ZP _ rfl _ 160 rfl 3 163 Tryz.underlying160 mb _ _ Xi rfl HNm.out ?_))
    go_quiet (fail)
    go_wp2_with fail
    go_ret2
    exact⟨rfl,HB.out.trans (Ym _ _ |>.mono HB.out.size)⟩
 ·rw[zm h2] at hE
  have hE:In.emptyE t dir s=E:=hE
  have ce:=zgi h F.q0 hdir hs hE h0
  have e1:=zG h0
  clear h F h2 hE h0
  go_enter Tryz.func106,Tryz.ntmps106
  go_wp2_with (go_at_call 159;refine ce.mono ?_;rintro e w1 ⟨rfl,hb⟩;have HB:=Lib.hid hb;clear hb)
  go_ret2
  exact⟨rfl,HB.out⟩
end
end
section
open Go.RowKit Go.Maps
theorem zpb(q:Int)(w:World)(hq:In.newE q=1):Calls Tryz.prog 60 #[.int .i64 q] w fun e w'=>e= .returned (.tuple #[.pointer none,.int .i64 1])∧w=w':=by
 unfold In.newE at hq
 cases h1:decide (q<64) with
 |true=>
  go_enter Tryz.func60,Tryz.ntmps60
  go_wp2_with fail
  go_ret2
  exact⟨rfl,rfl⟩
 |false=>
  cases h2:decide (1099511627776<q) with
  |true=>
   go_enter Tryz.func60,Tryz.ntmps60
   go_wp2_with fail
   go_ret2
   exact⟨rfl,rfl⟩
  |false=>rw[h1,h2] at hq;simp at hq
theorem zod(q:Int)(w:World)(hq:In.newE q=0):
  Calls Tryz.prog 60 #[.int .i64 q] w fun e w'=>e= .returned (.tuple #[.pointer (some ⟨w.heap.size+1,0,none⟩),.int .i64 0])∧TblAt w' (w.heap.size+1) w.heap.size (fun _=>(w.heap.size+3,w.heap.size+2)) (In.new q)∧Below w.heap.size w w':=by
 unfold In.newE at hq
 have h1:decide (q<64)=false:=by
  cases h:decide (q<64) with
  |false=>rfl
  |true=>rw[h] at hq;simp at hq
 have h2:decide (1099511627776<q)=false:=by
  cases h:decide (1099511627776<q) with
  |false=>rfl
  |true=>rw[h1,h] at hq;simp at hq
 have hmm:= @run_makeMap Tryz.prog
 have HM:zA Tryz.prog 3 (((((w.alloc (.map #[] 0)).alloc (.cells #[.int .i64 q,.int .i64 64,.int .i64 1,.map (some w.heap.size)] 162)).alloc (.map #[] 0)).alloc (.cells #[.bool true,.int .i64 1,.int .i64 0,.string {data:= #[]},.map (some (w.heap.size+2))] 166))) w.heap.size []:=by
  refine zA.on (zA.made w) ?_
  rw[Below.heap_alloc _ _ _ (by simp only[zH];omega),Below.heap_alloc _ _ _ (by simp only[zH];omega),Below.heap_alloc _ _ _ (by simp only[zH];omega)]
 clear hq
 go_enter Tryz.func60,Tryz.ntmps60
 go_wp2_with (at_mapUpdate;refine ZO _ rfl _ _ _ 160 rfl 3 163 zq Tryz.underlying160 w.heap.size _ rfl HM (by decide) (.int .i64 1) (.pointer (some ⟨w.heap.size+3,0,none⟩)) _ rfl rfl (keyOf_int_mk Tryz.underlying3 (by decide)) ?_;intro w2 hm2 ht2;have HM2:=Lib.hid hm2;have HT2:=Lib.hid ht2;clear hm2 ht2)
 go_ret2
 refine⟨rfl, ?_, ?_⟩
 ·have hm2:=HM2.out
  have ht2:=HT2.out
  refine⟨?_,hm2, ?_, ?_⟩
  ·rw[Zm ht2 (by omega),Below.heap_alloc _ _ _ (by simp only[zH];omega),Below.heap_alloc _ _ _ (by simp only[zH];omega)]
   have:=heap_alloc_new (w.alloc (.map #[] 0)) (.cells #[.int .i64 q,.int .i64 64,.int .i64 1,.map (some w.heap.size)] 162)
   rw[zH] at this
   exact this
  ·intro n hn
   have:n=⟨1,true,1,0,ByteArray.empty,[]⟩:=by simpa[In.new] using hn
   subst this
   constructor
   ·show w2.heap[w.heap.size+3]? =_
    rw[Zm ht2 (by omega)]
    have:=heap_alloc_new (((w.alloc (.map #[] 0)).alloc (.cells #[.int .i64 q,.int .i64 64,.int .i64 1,.map (some w.heap.size)] 162)).alloc (.map #[] 0)) (.cells #[.bool true,.int .i64 1,.int .i64 0,.string {data:= #[]},.map (some (w.heap.size+2))] 166)
    rw[zH,zH,zH] at this
    exact this
   ·show zA _ _ w2 (w.heap.size+2) _
    have hm:=zA.made (P:=Tryz.prog) (k:=9) ((w.alloc (.map #[] 0)).alloc (.cells #[.int .i64 q,.int .i64 64,.int .i64 1,.map (some w.heap.size)] 162))
    rw[zH,zH] at hm
    refine zA.on hm ?_
    rw[Zm ht2 (by omega),Below.heap_alloc _ _ _ (by simp only[zH];omega)]
  ·show([w.heap.size+1,w.heap.size,w.heap.size+3,w.heap.size+2]:List Nat).Nodup
   simp
 ·have ht2:=HT2.out
  refine Below.trans ?_ ((Below.refl _ _).grown ht2.grown (by simp only[zH];omega) (fun k hk=>by cases hk;exact Nat.le_refl _))
  exact((((Below.refl _ _).alloc (Nat.le_refl _) _).alloc (by simp only[zH];omega) _).alloc (by simp only[zH];omega) _).alloc (by simp only[zH];omega) _
end
end Go.Proofs.YtcicjklhbnipcaaGreatDoor
namespace Go.Proofs
open Go.Shelf
def Tryz.keysS_ren:Go.Shelf.Ren:=⟨fun|7=>122|10=>171|n=>n,fun|23=>164|26=>9|3=>3|28=>188|0=>0|27=>187|33=>167|4=>4|n=>n,fun|n=>n⟩
theorem Tryz.keysS:Go.Proofs.SlLaysZ.n7 Tryz.prog Tryz.keysS_ren:={
 mixed:=by kernel_rfl
 f7:=⟨Tryz.f122.name,by decide,Tryz.func122.trans (congrArg some (by kernel_rfl))⟩
 f10:=⟨Tryz.f171.name,by decide,Tryz.func171.trans (congrArg some (by kernel_rfl))⟩
 t0:=Tryz.underlying0
 a0:=Tryz.isAgg0
 z0:=Tryz.sizeOf0
 v0:=Tryz.zeroValue0
 t4:=Tryz.underlying4
 a4:=Tryz.isAgg4
 z4:=Tryz.sizeOf4
 v4:=Tryz.zeroValue4
 t23:=Tryz.underlying164
 a23:=Tryz.isAgg164
 z23:=Tryz.sizeOf164
 v23:=Tryz.zeroValue164
 t26:=Tryz.underlying9
 a26:=Tryz.isAgg9
 z26:=Tryz.sizeOf9
 v26:=Tryz.zeroValue9
 t27:=Tryz.underlying187
 a27:=Tryz.isAgg187
 z27:=Tryz.sizeOf187
 v27:=Tryz.zeroValue187
 t28:=Tryz.underlying188
 a28:=Tryz.isAgg188
 z28:=Tryz.sizeOf188
 v28:=Tryz.zeroValue188
 t33:=Tryz.underlying167
 a33:=Tryz.isAgg167
 z33:=Tryz.sizeOf167
 v33:=Tryz.zeroValue167}
def Tryz.sortedS_ren:Go.Shelf.Ren:=⟨fun|6=>121|8=>169|9=>170|11=>198|13=>174|12=>199|23=>209|24=>210|14=>227|15=>228|16=>229|17=>230|18=>231|19=>232|20=>233|21=>234|22=>235|25=>252|26=>237|27=>238|28=>253|29=>254|30=>255|31=>268|n=>n,fun|26=>9|28=>188|24=>29|0=>0|3=>3|37=>220|48=>246|50=>248|4=>4|40=>239|39=>238|45=>243|5=>5|9=>9|51=>270|55=>274|57=>285|58=>286|33=>167|n=>n,fun|n=>n⟩
theorem Tryz.sortedS:Go.Proofs.SlLaysZ.n6 Tryz.prog Tryz.sortedS_ren:={
 mixed:=by kernel_rfl
 f6:=⟨Tryz.f121.name,by decide,Tryz.func121.trans (congrArg some (by kernel_rfl))⟩
 f8:=⟨Tryz.f169.name,by decide,Tryz.func169.trans (congrArg some (by kernel_rfl))⟩
 f11:=⟨Tryz.f198.name,by decide,Tryz.func198.trans (congrArg some (by kernel_rfl))⟩
 t0:=Tryz.underlying0
 a0:=Tryz.isAgg0
 z0:=Tryz.sizeOf0
 v0:=Tryz.zeroValue0
 t24:=Tryz.underlying29
 a24:=Tryz.isAgg29
 z24:=Tryz.sizeOf29
 v24:=Tryz.zeroValue29
 t26:=Tryz.underlying9
 a26:=Tryz.isAgg9
 z26:=Tryz.sizeOf9
 v26:=Tryz.zeroValue9
 t28:=Tryz.underlying188
 a28:=Tryz.isAgg188
 z28:=Tryz.sizeOf188
 v28:=Tryz.zeroValue188
 i26:=by kernel_rfl}
def Tryz.keysH_ren:Go.Shelf.Ren:=⟨fun|7=>73|10=>125|n=>n,fun|23=>42|26=>3|3=>117|28=>131|0=>0|27=>130|33=>191|4=>4|n=>n,fun|n=>n⟩
theorem Tryz.keysH:Go.Proofs.SlLaysZI.n7 Tryz.prog Tryz.keysH_ren:={
 mixed:=by kernel_rfl
 f7:=⟨Tryz.f73.name,by decide,Tryz.func73.trans (congrArg some (by kernel_rfl))⟩
 f10:=⟨Tryz.f125.name,by decide,Tryz.func125.trans (congrArg some (by kernel_rfl))⟩
 t0:=Tryz.underlying0
 a0:=Tryz.isAgg0
 z0:=Tryz.sizeOf0
 v0:=Tryz.zeroValue0
 t4:=Tryz.underlying4
 a4:=Tryz.isAgg4
 z4:=Tryz.sizeOf4
 v4:=Tryz.zeroValue4
 t23:=Tryz.underlying42
 a23:=Tryz.isAgg42
 z23:=Tryz.sizeOf42
 v23:=Tryz.zeroValue42
 t26:=Tryz.underlying3
 a26:=Tryz.isAgg3
 z26:=Tryz.sizeOf3
 v26:=Tryz.zeroValue3
 t27:=Tryz.underlying130
 a27:=Tryz.isAgg130
 z27:=Tryz.sizeOf130
 v27:=Tryz.zeroValue130
 t28:=Tryz.underlying131
 a28:=Tryz.isAgg131
 z28:=Tryz.sizeOf131
 v28:=Tryz.zeroValue131
 t33:=Tryz.underlying191
 a33:=Tryz.isAgg191
 z33:=Tryz.sizeOf191
 v33:=Tryz.zeroValue191}
def Tryz.keysI_ren:Go.Shelf.Ren:=⟨fun|7=>120|10=>168|n=>n,fun|23=>160|26=>3|3=>163|28=>131|0=>0|27=>130|33=>191|4=>4|n=>n,fun|n=>n⟩
theorem Tryz.keysI:Go.Proofs.SlLaysZI.n7 Tryz.prog Tryz.keysI_ren:={
 mixed:=by kernel_rfl
 f7:=⟨Tryz.f120.name,by decide,Tryz.func120.trans (congrArg some (by kernel_rfl))⟩
 f10:=⟨Tryz.f168.name,by decide,Tryz.func168.trans (congrArg some (by kernel_rfl))⟩
 t0:=Tryz.underlying0
 a0:=Tryz.isAgg0
 z0:=Tryz.sizeOf0
 v0:=Tryz.zeroValue0
 t4:=Tryz.underlying4
 a4:=Tryz.isAgg4
 z4:=Tryz.sizeOf4
 v4:=Tryz.zeroValue4
 t23:=Tryz.underlying160
 a23:=Tryz.isAgg160
 z23:=Tryz.sizeOf160
 v23:=Tryz.zeroValue160
 t26:=Tryz.underlying3
 a26:=Tryz.isAgg3
 z26:=Tryz.sizeOf3
 v26:=Tryz.zeroValue3
 t27:=Tryz.underlying130
 a27:=Tryz.isAgg130
 z27:=Tryz.sizeOf130
 v27:=Tryz.zeroValue130
 t28:=Tryz.underlying131
 a28:=Tryz.isAgg131
 z28:=Tryz.sizeOf131
 v28:=Tryz.zeroValue131
 t33:=Tryz.underlying191
 a33:=Tryz.isAgg191
 z33:=Tryz.sizeOf191
 v33:=Tryz.zeroValue191}
def Tryz.keysN_ren:Go.Shelf.Ren:=⟨fun|7=>155|10=>190|n=>n,fun|23=>150|26=>3|3=>3|28=>131|0=>0|27=>130|33=>191|4=>4|n=>n,fun|n=>n⟩
theorem Tryz.keysN:Go.Proofs.SlLaysZI.n7 Tryz.prog Tryz.keysN_ren:={
 mixed:=by kernel_rfl
 f7:=⟨Tryz.f155.name,by decide,Tryz.func155.trans (congrArg some (by kernel_rfl))⟩
 f10:=⟨Tryz.f190.name,by decide,Tryz.func190.trans (congrArg some (by kernel_rfl))⟩
 t0:=Tryz.underlying0
 a0:=Tryz.isAgg0
 z0:=Tryz.sizeOf0
 v0:=Tryz.zeroValue0
 t4:=Tryz.underlying4
 a4:=Tryz.isAgg4
 z4:=Tryz.sizeOf4
 v4:=Tryz.zeroValue4
 t23:=Tryz.underlying150
 a23:=Tryz.isAgg150
 z23:=Tryz.sizeOf150
 v23:=Tryz.zeroValue150
 t26:=Tryz.underlying3
 a26:=Tryz.isAgg3
 z26:=Tryz.sizeOf3
 v26:=Tryz.zeroValue3
 t27:=Tryz.underlying130
 a27:=Tryz.isAgg130
 z27:=Tryz.sizeOf130
 v27:=Tryz.zeroValue130
 t28:=Tryz.underlying131
 a28:=Tryz.isAgg131
 z28:=Tryz.sizeOf131
 v28:=Tryz.zeroValue131
 t33:=Tryz.underlying191
 a33:=Tryz.isAgg191
 z33:=Tryz.sizeOf191
 v33:=Tryz.zeroValue191}
def Tryz.sortedI_ren:Go.Shelf.Ren:=⟨fun|6=>72|8=>123|9=>124|11=>172|13=>174|12=>173|23=>209|24=>210|14=>200|15=>201|16=>202|17=>203|18=>204|19=>205|20=>206|21=>207|22=>208|25=>236|26=>237|27=>238|28=>239|29=>240|30=>241|31=>256|n=>n,fun|26=>3|28=>131|24=>49|0=>0|3=>3|37=>220|48=>246|50=>248|4=>4|40=>239|39=>238|45=>243|5=>5|9=>9|51=>270|55=>274|57=>285|58=>286|33=>191|n=>n,fun|n=>n⟩
theorem Tryz.sortedI:Go.Proofs.SlLaysZI.n6 Tryz.prog Tryz.sortedI_ren:={
 mixed:=by kernel_rfl
 f6:=⟨Tryz.f72.name,by decide,Tryz.func72.trans (congrArg some (by kernel_rfl))⟩
 f8:=⟨Tryz.f123.name,by decide,Tryz.func123.trans (congrArg some (by kernel_rfl))⟩
 f11:=⟨Tryz.f172.name,by decide,Tryz.func172.trans (congrArg some (by kernel_rfl))⟩
 t0:=Tryz.underlying0
 a0:=Tryz.isAgg0
 z0:=Tryz.sizeOf0
 v0:=Tryz.zeroValue0
 t24:=Tryz.underlying49
 a24:=Tryz.isAgg49
 z24:=Tryz.sizeOf49
 v24:=Tryz.zeroValue49
 t26:=Tryz.underlying3
 a26:=Tryz.isAgg3
 z26:=Tryz.sizeOf3
 v26:=Tryz.zeroValue3
 t28:=Tryz.underlying131
 a28:=Tryz.isAgg131
 z28:=Tryz.sizeOf131
 v28:=Tryz.zeroValue131
 i26:=by kernel_rfl}
def Tryz.sortS_ren:Go.Shelf.Ren:=⟨fun|6=>170|8=>174|9=>199|19=>209|20=>210|21=>227|22=>228|23=>229|24=>230|25=>231|26=>232|27=>233|28=>234|29=>235|36=>252|31=>237|32=>238|37=>253|38=>254|39=>255|41=>268|n=>n,fun|27=>29|29=>9|3=>3|32=>220|26=>29|0=>0|44=>246|46=>248|4=>4|36=>239|35=>238|41=>243|5=>5|9=>9|53=>270|57=>274|63=>285|64=>286|n=>n,fun|n=>n⟩
theorem Tryz.sortS:Go.Proofs.SlLaysM.n6 Tryz.prog Tryz.sortS_ren:={
 mixed:=by kernel_rfl
 f6:=⟨Tryz.f170.name,by decide,Tryz.func170.trans (congrArg some (by kernel_rfl))⟩
 f8:=Tryz.func174.trans (congrArg some (by kernel_rfl))
 f9:=⟨Tryz.f199.name,by decide,Tryz.func199.trans (congrArg some (by kernel_rfl))⟩
 f19:=Tryz.func209.trans (congrArg some (by kernel_rfl))
 f20:=Tryz.func210.trans (congrArg some (by kernel_rfl))
 f21:=⟨Tryz.f227.name,by decide,Tryz.func227.trans (congrArg some (by kernel_rfl))⟩
 f22:=⟨Tryz.f228.name,by decide,Tryz.func228.trans (congrArg some (by kernel_rfl))⟩
 f23:=⟨Tryz.f229.name,by decide,Tryz.func229.trans (congrArg some (by kernel_rfl))⟩
 f24:=⟨Tryz.f230.name,by decide,Tryz.func230.trans (congrArg some (by kernel_rfl))⟩
 f25:=⟨Tryz.f231.name,by decide,Tryz.func231.trans (congrArg some (by kernel_rfl))⟩
 f26:=⟨Tryz.f232.name,by decide,Tryz.func232.trans (congrArg some (by kernel_rfl))⟩
 f27:=⟨Tryz.f233.name,by decide,Tryz.func233.trans (congrArg some (by kernel_rfl))⟩
 f28:=⟨Tryz.f234.name,by decide,Tryz.func234.trans (congrArg some (by kernel_rfl))⟩
 f29:=⟨Tryz.f235.name,by decide,Tryz.func235.trans (congrArg some (by kernel_rfl))⟩
 f31:=Tryz.func237.trans (congrArg some (by kernel_rfl))
 f32:=Tryz.func238.trans (congrArg some (by kernel_rfl))
 f36:=⟨Tryz.f252.name,by decide,Tryz.func252.trans (congrArg some (by kernel_rfl))⟩
 f37:=⟨Tryz.f253.name,by decide,Tryz.func253.trans (congrArg some (by kernel_rfl))⟩
 f38:=⟨Tryz.f254.name,by decide,Tryz.func254.trans (congrArg some (by kernel_rfl))⟩
 f39:=⟨Tryz.f255.name,by decide,Tryz.func255.trans (congrArg some (by kernel_rfl))⟩
 f41:=⟨Tryz.f268.name,by decide,Tryz.func268.trans (congrArg some (by kernel_rfl))⟩
 t0:=Tryz.underlying0
 a0:=Tryz.isAgg0
 z0:=Tryz.sizeOf0
 v0:=Tryz.zeroValue0
 t3:=Tryz.underlying3
 a3:=Tryz.isAgg3
 z3:=Tryz.sizeOf3
 v3:=Tryz.zeroValue3
 t4:=Tryz.underlying4
 a4:=Tryz.isAgg4
 z4:=Tryz.sizeOf4
 v4:=Tryz.zeroValue4
 t5:=Tryz.underlying5
 a5:=Tryz.isAgg5
 z5:=Tryz.sizeOf5
 v5:=Tryz.zeroValue5
 t9:=Tryz.underlying9
 a9:=Tryz.isAgg9
 z9:=Tryz.sizeOf9
 v9:=Tryz.zeroValue9
 t26:=Tryz.underlying29
 a26:=Tryz.isAgg29
 z26:=Tryz.sizeOf29
 v26:=Tryz.zeroValue29
 t27:=Tryz.underlying29
 a27:=Tryz.isAgg29
 z27:=Tryz.sizeOf29
 v27:=Tryz.zeroValue29
 t29:=Tryz.underlying9
 a29:=Tryz.isAgg9
 z29:=Tryz.sizeOf9
 v29:=Tryz.zeroValue9
 t32:=Tryz.underlying220
 a32:=Tryz.isAgg220
 z32:=Tryz.sizeOf220
 v32:=Tryz.zeroValue220
 t35:=Tryz.underlying238
 a35:=Tryz.isAgg238
 z35:=Tryz.sizeOf238
 v35:=Tryz.zeroValue238
 t36:=Tryz.underlying239
 a36:=Tryz.isAgg239
 z36:=Tryz.sizeOf239
 v36:=Tryz.zeroValue239
 t41:=Tryz.underlying243
 a41:=Tryz.isAgg243
 z41:=Tryz.sizeOf243
 v41:=Tryz.zeroValue243
 t44:=Tryz.underlying246
 a44:=Tryz.isAgg246
 z44:=Tryz.sizeOf246
 v44:=Tryz.zeroValue246
 t46:=Tryz.underlying248
 a46:=Tryz.isAgg248
 z46:=Tryz.sizeOf248
 v46:=Tryz.zeroValue248
 t53:=Tryz.underlying270
 a53:=Tryz.isAgg270
 z53:=Tryz.sizeOf270
 v53:=Tryz.zeroValue270
 t57:=Tryz.underlying274
 a57:=Tryz.isAgg274
 z57:=Tryz.sizeOf274
 v57:=Tryz.zeroValue274
 t63:=Tryz.underlying285
 a63:=Tryz.isAgg285
 z63:=Tryz.sizeOf285
 v63:=Tryz.zeroValue285
 t64:=Tryz.underlying286
 a64:=Tryz.isAgg286
 z64:=Tryz.sizeOf286
 v64:=Tryz.zeroValue286}
def Tryz.sortI_ren:Go.Shelf.Ren:=⟨fun|5=>124|8=>174|7=>173|19=>209|20=>210|10=>200|11=>201|12=>202|13=>203|14=>204|15=>205|16=>206|17=>207|18=>208|30=>236|31=>237|32=>238|33=>239|34=>240|35=>241|40=>256|n=>n,fun|23=>49|25=>3|3=>3|32=>220|22=>49|0=>0|44=>246|46=>248|4=>4|36=>239|35=>238|41=>243|5=>5|9=>9|53=>270|57=>274|63=>285|64=>286|n=>n,fun|n=>n⟩
theorem Tryz.sortI:Go.Proofs.SlLaysM.n5 Tryz.prog Tryz.sortI_ren:={
 mixed:=by kernel_rfl
 f5:=⟨Tryz.f124.name,by decide,Tryz.func124.trans (congrArg some (by kernel_rfl))⟩
 f7:=⟨Tryz.f173.name,by decide,Tryz.func173.trans (congrArg some (by kernel_rfl))⟩
 f8:=Tryz.func174.trans (congrArg some (by kernel_rfl))
 f10:=⟨Tryz.f200.name,by decide,Tryz.func200.trans (congrArg some (by kernel_rfl))⟩
 f11:=⟨Tryz.f201.name,by decide,Tryz.func201.trans (congrArg some (by kernel_rfl))⟩
 f12:=⟨Tryz.f202.name,by decide,Tryz.func202.trans (congrArg some (by kernel_rfl))⟩
 f13:=⟨Tryz.f203.name,by decide,Tryz.func203.trans (congrArg some (by kernel_rfl))⟩
 f14:=⟨Tryz.f204.name,by decide,Tryz.func204.trans (congrArg some (by kernel_rfl))⟩
 f15:=⟨Tryz.f205.name,by decide,Tryz.func205.trans (congrArg some (by kernel_rfl))⟩
 f16:=⟨Tryz.f206.name,by decide,Tryz.func206.trans (congrArg some (by kernel_rfl))⟩
 f17:=⟨Tryz.f207.name,by decide,Tryz.func207.trans (congrArg some (by kernel_rfl))⟩
 f18:=⟨Tryz.f208.name,by decide,Tryz.func208.trans (congrArg some (by kernel_rfl))⟩
 f19:=Tryz.func209.trans (congrArg some (by kernel_rfl))
 f20:=Tryz.func210.trans (congrArg some (by kernel_rfl))
 f30:=⟨Tryz.f236.name,by decide,Tryz.func236.trans (congrArg some (by kernel_rfl))⟩
 f31:=Tryz.func237.trans (congrArg some (by kernel_rfl))
 f32:=Tryz.func238.trans (congrArg some (by kernel_rfl))
 f33:=⟨Tryz.f239.name,by decide,Tryz.func239.trans (congrArg some (by kernel_rfl))⟩
 f34:=⟨Tryz.f240.name,by decide,Tryz.func240.trans (congrArg some (by kernel_rfl))⟩
 f35:=⟨Tryz.f241.name,by decide,Tryz.func241.trans (congrArg some (by kernel_rfl))⟩
 f40:=⟨Tryz.f256.name,by decide,Tryz.func256.trans (congrArg some (by kernel_rfl))⟩
 t0:=Tryz.underlying0
 a0:=Tryz.isAgg0
 z0:=Tryz.sizeOf0
 v0:=Tryz.zeroValue0
 t3:=Tryz.underlying3
 a3:=Tryz.isAgg3
 z3:=Tryz.sizeOf3
 v3:=Tryz.zeroValue3
 t4:=Tryz.underlying4
 a4:=Tryz.isAgg4
 z4:=Tryz.sizeOf4
 v4:=Tryz.zeroValue4
 t5:=Tryz.underlying5
 a5:=Tryz.isAgg5
 z5:=Tryz.sizeOf5
 v5:=Tryz.zeroValue5
 t9:=Tryz.underlying9
 a9:=Tryz.isAgg9
 z9:=Tryz.sizeOf9
 v9:=Tryz.zeroValue9
 t22:=Tryz.underlying49
 a22:=Tryz.isAgg49
 z22:=Tryz.sizeOf49
 v22:=Tryz.zeroValue49
 t23:=Tryz.underlying49
 a23:=Tryz.isAgg49
 z23:=Tryz.sizeOf49
 v23:=Tryz.zeroValue49
 t25:=Tryz.underlying3
 a25:=Tryz.isAgg3
 z25:=Tryz.sizeOf3
 v25:=Tryz.zeroValue3
 t32:=Tryz.underlying220
 a32:=Tryz.isAgg220
 z32:=Tryz.sizeOf220
 v32:=Tryz.zeroValue220
 t35:=Tryz.underlying238
 a35:=Tryz.isAgg238
 z35:=Tryz.sizeOf238
 v35:=Tryz.zeroValue238
 t36:=Tryz.underlying239
 a36:=Tryz.isAgg239
 z36:=Tryz.sizeOf239
 v36:=Tryz.zeroValue239
 t41:=Tryz.underlying243
 a41:=Tryz.isAgg243
 z41:=Tryz.sizeOf243
 v41:=Tryz.zeroValue243
 t44:=Tryz.underlying246
 a44:=Tryz.isAgg246
 z44:=Tryz.sizeOf246
 v44:=Tryz.zeroValue246
 t46:=Tryz.underlying248
 a46:=Tryz.isAgg248
 z46:=Tryz.sizeOf248
 v46:=Tryz.zeroValue248
 t53:=Tryz.underlying270
 a53:=Tryz.isAgg270
 z53:=Tryz.sizeOf270
 v53:=Tryz.zeroValue270
 t57:=Tryz.underlying274
 a57:=Tryz.isAgg274
 z57:=Tryz.sizeOf274
 v57:=Tryz.zeroValue274
 t63:=Tryz.underlying285
 a63:=Tryz.isAgg285
 z63:=Tryz.sizeOf285
 v63:=Tryz.zeroValue285
 t64:=Tryz.underlying286
 a64:=Tryz.isAgg286
 z64:=Tryz.sizeOf286
 v64:=Tryz.zeroValue286}
def Tryz.cloneH_ren:Go.Shelf.Ren:=⟨fun|5=>75|7=>127|n=>n,fun|23=>42|25=>3|3=>117|4=>4|20=>20|n=>n,fun|n=>n⟩
theorem Tryz.cloneH:Go.Proofs.SlLaysW.n5 Tryz.prog Tryz.cloneH_ren:={
 mixed:=by kernel_rfl
 f5:=⟨Tryz.f75.name,by decide,Tryz.func75.trans (congrArg some (by kernel_rfl))⟩
 f7:=Tryz.func127.trans (congrArg some (by kernel_rfl))
 t4:=Tryz.underlying4
 a4:=Tryz.isAgg4
 z4:=Tryz.sizeOf4
 v4:=Tryz.zeroValue4
 t20:=Tryz.underlying20
 a20:=Tryz.isAgg20
 z20:=Tryz.sizeOf20
 v20:=Tryz.zeroValue20
 t23:=Tryz.underlying42
 a23:=Tryz.isAgg42
 z23:=Tryz.sizeOf42
 v23:=Tryz.zeroValue42}
def Tryz.cloneM_ren:Go.Shelf.Ren:=⟨fun|5=>126|7=>127|n=>n,fun|23=>164|25=>9|3=>3|4=>4|20=>20|n=>n,fun|n=>n⟩
theorem Tryz.cloneM:Go.Proofs.SlLaysW.n5 Tryz.prog Tryz.cloneM_ren:={
 mixed:=by kernel_rfl
 f5:=⟨Tryz.f126.name,by decide,Tryz.func126.trans (congrArg some (by kernel_rfl))⟩
 f7:=Tryz.func127.trans (congrArg some (by kernel_rfl))
 t4:=Tryz.underlying4
 a4:=Tryz.isAgg4
 z4:=Tryz.sizeOf4
 v4:=Tryz.zeroValue4
 t20:=Tryz.underlying20
 a20:=Tryz.isAgg20
 z20:=Tryz.sizeOf20
 v20:=Tryz.zeroValue20
 t23:=Tryz.underlying164
 a23:=Tryz.isAgg164
 z23:=Tryz.sizeOf164
 v23:=Tryz.zeroValue164}
def Tryz.cloneN_ren:Go.Shelf.Ren:=⟨fun|5=>156|7=>127|n=>n,fun|23=>150|25=>3|3=>3|4=>4|20=>20|n=>n,fun|n=>n⟩
theorem Tryz.cloneN:Go.Proofs.SlLaysW.n5 Tryz.prog Tryz.cloneN_ren:={
 mixed:=by kernel_rfl
 f5:=⟨Tryz.f156.name,by decide,Tryz.func156.trans (congrArg some (by kernel_rfl))⟩
 f7:=Tryz.func127.trans (congrArg some (by kernel_rfl))
 t4:=Tryz.underlying4
 a4:=Tryz.isAgg4
 z4:=Tryz.sizeOf4
 v4:=Tryz.zeroValue4
 t20:=Tryz.underlying20
 a20:=Tryz.isAgg20
 z20:=Tryz.sizeOf20
 v20:=Tryz.zeroValue20
 t23:=Tryz.underlying150
 a23:=Tryz.isAgg150
 z23:=Tryz.sizeOf150
 v23:=Tryz.zeroValue150}
end Go.Proofs
namespace Go.Proofs.YtcicjklhbnipcaaGreatDoor
section
open Go.RowKit Go.Maps Go.Sort Go.Shelf
theorem zgV: ∀ {a b:List UInt8},bytesBefore a b=true→a<b
 |[],[],h=>by cases h
 |[],_::_,_=>List.nil_lt_cons _ _
 |_::_,[],h=>by cases h
 |a::r,b::s,h=>by
  rw[List.cons_lt_cons_iff]
  simp only[bytesBefore,Bool.or_eq_true,decide_eq_true_eq,Bool.and_eq_true,beq_iff_eq] at h
  rcases h with h|⟨rfl,h⟩
  ·exact .inl h
  ·exact .inr ⟨rfl,zgV h⟩
theorem zlC{ss ks:List (List UInt8)}(h:ss.Perm ks)(hs:ks.Pairwise fun a b=>bytesBefore a b=true):ss.mergeSort leB=ks:=by
 rw[mergeSort_of_perm h]
 refine List.mergeSort_of_pairwise (hs.imp fun {a b} hab=> ?_)
 simp only[leB,decide_eq_true_eq]
 exact List.le_of_lt (zgV hab)
theorem zbT(d:List (ByteArray×Int)):strKeys (Zh (Zk d))=d.map fun p=>p.1.data.toList:=by
 simp[Zh,Zk,strKeys,strOf]
theorem zoU(m:Nat):AnyZ.SortsIn Tryz.prog Tryz.sortedS_ren Fence.wide m:=
 ⟨fun blk off cap ss W hH hblk hsz=>callsIn_wide.2 (AnyM.slices_Sort_string Tryz.sortS blk off cap ss W hH hblk hsz),fun p cap W=>callsIn_wide.2 (AnyM.slices_Sort_string_none Tryz.sortS p cap W)⟩
theorem zdk(mb:Option Nat)(W:World):Calls Tryz.prog 122 #[.map mb] W fun e w'=>e= .returned (.func (.func 171) #[] #[.pointer (some ⟨W.heap.size,0,none⟩)])∧w'=W.alloc (.cells #[.map mb] 164):=
 (callsIn_wide (n:=5)).1 (AnyZ.keys_in Tryz.keysS Fence.wide 5 trivial rfl mb W)
theorem zbe{m:Nat}{d:List (ByteArray×Int)}(w:World)(h:yF w m d)(hl:d.length≤4611686018427):
  Calls Tryz.prog 121 #[.func (.func 171) #[] #[.pointer (some ⟨w.heap.size,0,none⟩)]] (w.alloc (.cells #[.map (some m)] 164)) fun e w'=> ∃ v:Value,e= .returned v∧
   w'.ownsRow (w.heap.size+1) 9 1 v d.length (d.map fun p=> .string p.1)∧Below w.heap.size w w':=by
 have hbl:=zA.lt h
 have hsz:Maps.size (Zh (Zk d))=d.length:=by rw[yl];simp[Zk]
 have hown:w.ownsMap Tryz.prog 9 Ze m (Zk d).length (Zh (Zk d)):=h
 have hseq:SeqGives Fence.wide 2 Tryz.prog 171 #[.pointer (some ⟨w.heap.size,0,none⟩)] encStr (fun ss=>ss.Perm (strKeys (Zh (Zk d)))) (Maps.size (Zh (Zk d))) (w.alloc (.cells #[.map (some m)] 164)):=
  AnyZ.keys_gives (ρ:=Tryz.keysS_ren) {Tryz.keysS with} Fence.wide _ trivial rfl (by omega) w.heap.size m _ _ _ (by simp) (by simp) (by
   obtain⟨es,clock,hb,Ft,hs,hD⟩:=hown
   exact⟨es,clock,(Below.heap_alloc _ _ m hbl).trans hb,Ft,hs,hD⟩)
 have key:=AnyZ.sorted_in Tryz.sortedS Fence.wide 5 trivial trivial trivial trivial rfl (by omega) (zoU _) (enters_of Tryz.func170 (by kernel_rfl) rfl) 171 #[.pointer (some ⟨w.heap.size,0,none⟩)] trivial (enters_of Tryz.func171 (by kernel_rfl) rfl) _ _ (by rw[hsz,zj];omega) (by rw[hsz];omega) _ hseq
 refine((callsIn_wide (n:=5)).1 key).mono fun e w' hx=> ?_
 obtain⟨v,ss,he,hp,hrow,_,hb⟩:=hx
 refine⟨v,he, ?_,((Below.refl _ w).alloc (Nat.le_refl _) _).trans (hb.mono (by simp))⟩
 rw[zbT] at hp
 have hs:(d.map fun p=>p.1.data.toList).Pairwise fun a b=>bytesBefore a b=true:=by
  have:=zA.sorted h yC
  unfold Zk at this
  rw[lcJz] at this ⊢
  exact this
 have e:=zlC hp hs
 have hlen:ss.length=d.length:=by rw[hp.length_eq];simp
 rw[show(fun x y:List UInt8=>decide (x≤y))=leB from rfl,e,hlen,lbZz] at hrow
 rw[zH] at hrow
 exact hrow
end
section
open Go.RowKit Go.Maps
theorem zcb{w:World}{m:Nat}{d:List (ByteArray×Int)}(h:yF w m d): ∀ p∈d,p.1.size≤maxLen:=by
 have:=strKeys_le h Tryz.underlying9
 rw[zbT] at this
 intro p hp
 have:=this p.1.data.toList (laKz.2 ⟨p,hp,rfl⟩)
 simpa using this
section
variable {w:World}{g mb:Nat}{β:Int→Nat×Nat}{t:TabD}
end
end
end Go.Proofs.YtcicjklhbnipcaaGreatDoor
