/- Texts joined: WshK, WshL, WshM, WshN, WshO, WshS, RefI, LgA. -/
import Derived.Test.YtliklcmddmpdfaaGreatDoorPTE
import Derived.Test.YtliklcmddmpdfaaGreatDoorPTB
import Derived.Test.YtliklcmddmpdfaaGreatDoorPTD
import Derived.Test.YtliklcmddmpdfaaGreatDoorPTA
set_option linter.unusedVariables false
set_option linter.unusedSimpArgs false
set_option maxRecDepth 4000
set_option maxHeartbeats 4000000
namespace Go.Proofs.YtliklcmddmpdfaaGreatDoor
open Go.RowKit Go.PW _root_.Go.Proofs.Tryz
theorem ru {w0 w:World} {b1 b2:Nat} {c1 c2:List Value} {T1 T2:TypeId} (h:Ext (λk=>k=b1∨k=b2) w0 w) (h1:(blk b1 c1 T1).ok w0) (h1':(blk b1 c1 T1).ok w) (h2:(blk b2 c2 T2).ok w0) (h2':(blk b2 c2 T2).ok w):Ext No w0 w:=by
 refine⟨h.os,h.tape,h.output,h.size,λk hk _=>?_⟩
 by_cases e1:k=b1
 ·subst e1; exact Eq.trans h1' (Eq.symm h1)
 ·by_cases e2:k=b2
  ·subst e2; exact Eq.trans h2' (Eq.symm h2)
  ·exact h.same k hk λhh=>hh.elim e1 e2
theorem pB {w0 w:World} {H:List Ent} {i b g:Nat} {cs c1:List Value} {T T1:TypeId} (h:St No w0 H w) (hi:H[i]?=some (blk b cs T)) (hg:(blk g c1 T1).ok w0):b≠g:=by
 rintro rfl
 exact ((h.ok _ (A6 hi)).2 b O).2 (Ad.1 hg).1
theorem mz (key content:By) (g:FuncId) (bx:Nat) (cs:List Value) (T:TypeId) (w0:World) (hen:∀args w,(callFunc g args).run Tryz.prog w=.ok (.enter g args) w)
  (hc:∀{M:Nat→Prop} {w0:World} (b:Nat) (v:Value) (ws:World),St M w0 [bld 162 b (.pointer none) v [],blk bx cs T] ws→Ret Tryz.prog g ([pq b]++[pq bx]).toArray ws λu w=>u=.tuple #[]∧∃v2,St M w0 [bld 162 b (pq b) v2 content,blk bx cs T] w)
  (hne:content≠[]) (hkl:key.length≤40000000) (hcl:content.length≤40000000) (hk0:(blk 0 (kOf.map wv) 258).ok w0) (hbx:(blk bx cs T).ok w0) (hgb:bx≠0):
  Ret Tryz.prog 86 #[sv key,.func (.func g) #[] #[pq bx]] w0 λv w=>v=sv (sealH key content)∧Ext No w0 w:=by
 have U:St (λk=>k=0∨k=bx) w0 [(blk 0 (kOf.map wv) 258),blk bx cs T] w0:=by
  refine⟨Ext.refl _ _,λe he=>?_,?_⟩
  ·simp only[zY,Ab,As] at he
   rcases he with rfl|rfl
   ·exact⟨hk0,λk hk=>by cases hk; exact⟨(Ad.1 hk0).1,λ_=>.inl O⟩⟩
   ·exact⟨hbx,λk hk=>by cases hk; exact⟨(Ad.1 hbx).1,λ_=>.inr O⟩⟩
  ·refine List.Pairwise.cons (λe he k hk hk'=>?_) (List.pairwise_singleton _ _)
   simp only[zY,Ab,As] at he
   subst he
   cases hk
   exact hgb (Eq.symm hk')
 exact (nU key content g [pq bx] (blk bx cs T) w0 hen hc hne hkl hcl U).mono λv w ⟨h1,h2⟩=>⟨h1,ru h2.ext hk0 (h2.get (k:=0) O) hbx (h2.get (k:=1) O)⟩
theorem pF:∀{l:List Pxy} {k i:Nat},badIdx l k=some i→k≤i∧i- k<l.length∧(l.getD (i- k) Pxy.z).ok=false∧∀j,j<i- k→(l.getD j Pxy.z).ok=true
 | [],k,i,h=>by cases h
 | p::l,k,i,h=>by
  rw[badIdx] at h
  split at h
  ·rename_i hp
   obtain⟨h1,h2,h3,h4⟩:=pF h
   have e:i- k=(i- (k+1))+1:=by omega
   refine⟨by omega,by simp; omega,by rw[e]; exact h3,λj hj=>?_⟩
   cases j with
   | zero=>exact hp
   | succ j=>exact h4 j om
  ·rename_i hp
   cases h
   refine⟨Ay _,by simp,by rw[Bz]; simpa using hp,λj hj=>by omega⟩
theorem kC (l:List Pxy):badN l=match badIdx l 0 with|some i=>(i:Int)|none=> -1:=by
 cases h:badIdx l 0 with
 | none=>
  refine fq λj hj=>?_
  rw[dV h _ (bC hj)]; rfl
 | some i=>
  obtain⟨_,h2,h3,h4⟩:=pF h
  rw[Nat.sub_zero] at h2 h3 h4
  exact fj h2 (λj hj=>by rw[h4 j hj]; rfl) (by rw[h3]; rfl)
theorem pU {l:List Pxy} (h:badN l<0):badIdx l 0=none:=by
 rw[kC] at h
 cases hb:badIdx l 0 with
 | none=>rfl
 | some i=>rw[hb] at h; simp only at h; omega
theorem rk (x:Wsh) (l:List Pxy):(x.ok&&decide ((l.length:Int)≤4)&&decide (badN l<0))=ce x l:=by
 unfold ce
 rw[kC]
 congr 1
 ·congr 1
  exact decide_eq_decide.2 om
 ·cases badIdx l 0 with
  | none=>rfl
  | some i=>exact zW (by simp only; omega)
section
variable {ks:List By} {x:Wsh} {ps:List Pxy} {number t:Int}
abbrev formB (ks:List By) (x:Wsh) (ps:List Pxy):Prop:=64<ks.length∨(ks.all λs=>decide (s.length=32))=false∨x.ok=false∨4<ps.length
theorem gB:(ks.any λs=>!decide ((s.length:Int)=32))=!(ks.all λs=>decide (s.length=32)):=by
 rw[List.all_eq_not_any_not,Bool.not_not]
 congr 1
 funext s
 congr 1
 exact decide_eq_decide.2 om
theorem xq (h:¬formB ks x ps):∀s∈ks,s.length=32:=by
 have:(ks.all λs=>decide (s.length=32))=true:=by
  cases hh:(ks.all λs=>decide (s.length=32)) with
  | true=>rfl
  | false=>exact absurd (.inr (.inl hh)) h
 intro s hs
 exact of_decide_eq_true (Aj.1 this s hs)
theorem gx (h:formB ks x ps):whyH ks x ps number t=(1, -1):=by unfold whyH; rw[Am h]
theorem tb (h:¬formB ks x ps) (hb:0≤badN ps):whyH ks x ps number t=(1,badN ps):=by
 unfold whyH; rw[Ai h]
 rw[kC] at hb⊢
 cases he:badIdx ps 0 with
 | none=>rw[he] at hb; simp only at hb; omega
 | some i=>rfl
def whyP (ks:List By) (x:Wsh) (ps:List Pxy) (number t:Int):Prop:=¬formB ks x ps∧badIdx ps 0=none∧inB t x.sf (x.st- 1)=true∧inB number x.rf (x.rt- 1)=true
theorem kS (h:¬formB ks x ps) (hb:badIdx ps 0=none) (ht:inB t x.sf (x.st- 1)=false):whyH ks x ps number t=(2, -1):=by
 unfold whyH; rw[Ai h,hb]; simp only; rw[Am ht]
theorem oA (h:¬formB ks x ps) (hb:badIdx ps 0=none) (ht:inB t x.sf (x.st- 1)=true) (hn:inB number x.rf (x.rt- 1)=false):whyH ks x ps number t=(3, -1):=by
 unfold whyH; rw[Ai h,hb]; simp only; rw[Ai DF,Am hn]
theorem nE {i:Int} (h:whyP ks x ps number t) (hc:cA x.signer x.holder ps 0=some i):whyH ks x ps number t=(4,i):=by
 obtain⟨h,hb,ht,hn⟩:=h
 unfold whyH; rw[Ai h,hb]; simp only; rw[Ai DF,Ai (by rw[hn]; decide),hc]
theorem nF {i:Int} (h:whyP ks x ps number t) (hc:cA x.signer x.holder ps 0=none) (hs:bH x none ps 0=some i):whyH ks x ps number t=(5,i):=by
 obtain⟨h,hb,ht,hn⟩:=h
 unfold whyH; rw[Ai h,hb]; simp only; rw[Ai DF,Ai (by rw[hn]; decide),hc]; simp only; rw[hs]
theorem gr {i:Int} (h:whyP ks x ps number t) (hc:cA x.signer x.holder ps 0=none) (hs:bH x none ps 0=none) (hl:bV ks x ps 0=some i):whyH ks x ps number t=(6,i):=by
 obtain⟨h,hb,ht,hn⟩:=h
 unfold whyH; rw[Ai h,hb]; simp only; rw[Ai DF,Ai (by rw[hn]; decide),hc]; simp only; rw[hs]; simp only; rw[hl]
theorem kO (h:whyP ks x ps number t) (hc:cA x.signer x.holder ps 0=none) (hs:bH x none ps 0=none) (hl:bV ks x ps 0=none):whyH ks x ps number t=(0, -1):=by
 obtain⟨h,hb,ht,hn⟩:=h
 unfold whyH; rw[Ai h,hb]; simp only; rw[Ai DF,Ai (by rw[hn]; decide),hc]; simp only; rw[hs]; simp only; rw[hl]
def okQ (ps:List Pxy) (sg:Int) (z:Int × Int):Bool:=if 0≤z.1 then decide ((ps.getD z.1.toNat Pxy.z).frm=z.2) else decide (sg=z.2)
theorem xJ {sg:Int} {z:Int × Int} (h:0≤z.1) (h2:(ps.getD z.1.toNat Pxy.z).frm=z.2):okQ ps sg z=true:=by unfold okQ; rw[Am h]; exact zU h2
theorem yu {sg:Int} {z:Int × Int} (h:¬0≤z.1) (h2:sg=z.2):okQ ps sg z=true:=by unfold okQ; rw[Ai h]; exact zU h2
theorem yZ {sg:Int} {z:Int × Int} (h:0≤z.1) (h2:¬(ps.getD z.1.toNat Pxy.z).frm=z.2):okQ ps sg z=false:=by unfold okQ; rw[Am h]; exact zW h2
theorem yT {sg:Int} {z:Int × Int} (h:¬0≤z.1) (h2:¬sg=z.2):okQ ps sg z=false:=by unfold okQ; rw[Ai h]; exact zW h2
theorem iI {sg:Int}:∀(l:List Pxy) (k:Nat) (who:Int),l=ps.drop k→cA sg who l k=((pers who l k).find? λz=>!okQ ps sg z).map (·.1)
 | [],k,who,h=>by
  rw[cA,pers,List.find?_cons,List.find?_nil]
  unfold okQ
  rw[Ai (show ¬(0:Int)≤ -1 by decide)]
  by_cases hs:sg=who
  ·rw[Am hs,zU hs]; rfl
  ·rw[Ai hs,zW hs]; rfl
 | p::l,k,who,h=>by
  have hp:ps.getD k Pxy.z=p:=by rw[z6,show ps[k]?=some p from by rw[←List.head?_drop,←h]; rfl]; rfl
  have hl:l=ps.drop (k+1):=by rw[←Bs,←h,List.drop_one]; rfl
  rw[cA,pers,List.find?_cons,iI l (k+1) p.to hl]
  unfold okQ
  rw[Am (Int.natCast_nonneg k),AL,hp]
  by_cases hs:p.frm=who
  ·rw[Am hs,zU hs]; rfl
  ·rw[Ai hs,zW hs]; rfl
theorem pY {who:Int}:∀{l:List Pxy} {k:Nat} {who:Int} {z:Int × Int},z∈pers who l k→z.1<((k+l.length:Nat):Int)∧ -1≤z.1
 | [],k,who,z,h=>by
  rw[pers,Aq] at h
  subst h
  exact⟨by simp only; omega,by simp only; omega⟩
 | p::l,k,who,z,h=>by
  rw[pers] at h
  rcases zY.1 h with rfl|h
  ·exact⟨by simp only[z7]; omega,by simp only; omega⟩
  ·have:=pY (who:=who) h
   rw[z7]
   exact⟨by omega,this.2⟩
theorem tg {who:Int} {pre:List (Int × Int)} {z:Int × Int} (h:NxQ who ps pre z):z.1<(ps.length:Int):=by
 obtain⟨suf,h⟩:=h
 have:=(pY (who:=who) (l:=ps) (k:=0) (z:=z) (by rw[h]; simp)).1
 rwa [Nat.zero_add] at this
theorem sR {sg:Int} {pre:List (Int × Int)} {z:Int × Int} (h:∀y∈pre,okQ ps sg y=true) (hz:okQ ps sg z=true):∀y∈pre++[z],okQ ps sg y=true:=by
 intro y hy
 rcases AJ.1 hy with h1|h1
 ·exact h y h1
 ·rw[Aq.1 h1]; exact hz
theorem mJ {sg who:Int} {pre:List (Int × Int)} {z:Int × Int} (hn:NxQ who ps pre z) (h:∀y∈pre,okQ ps sg y=true) (hz:okQ ps sg z=false):cA sg who ps 0=some z.1:=by
 obtain⟨suf,e⟩:=hn
 rw[iI ps 0 who rfl,e,List.find?_append,Bj.2 (λy hy=>by rw[h y hy]; simp),Option.none_or,List.find?_cons,hz]
 rfl
theorem tU {sg who:Int} (h:∀y∈pers who ps 0,okQ ps sg y=true):cA sg who ps 0=none:=by
 rw[iI ps 0 who rfl,Bj.2 (λy hy=>by rw[h y hy]; simp)]
 rfl
theorem Pxy.ok_frm {p:Pxy} (h:p.ok=true):0≤p.frm∧p.frm≤63:=by
 simp only[Pxy.ok,inB,zT,zZ] at h; omega
theorem Wsh.ok_signer {x:Wsh} (h:x.ok=true):0≤x.signer∧x.signer≤63:=by
 simp only[Wsh.ok,inB,zT,zZ] at h; omega
theorem Wsh.ok_bnd {x:Wsh} (h:x.ok=true):0≤x.rf∧x.rf<x.rt∧x.rt≤100000000∧0≤x.sf∧x.sf<x.st∧x.st≤10000001:=by
 simp only[Wsh.ok,cG,dj,zT,zZ] at h; omega
theorem iR {n:Int} (h0:0≤n) (h1:n.toNat<ks.length):keyAt ks n=some (ks.getD n.toNat []):=by
 unfold keyAt; rw[Ai om,z6,z8 h1]; rfl
theorem nc {n:Int} (h0:0≤n) (h1:ks.length≤n.toNat):keyAt ks n=none:=by
 unfold keyAt; rw[Ai om,Bq h1]
theorem uA {k:Nat} (hk:k<ps.length) (h0:0≤(ps.getD k Pxy.z).frm) (h1:(ps.getD k Pxy.z).frm.toNat<ks.length) (h2:(ps.getD k Pxy.z).sig=sealH (ks.getD (ps.getD k Pxy.z).frm.toNat []) (ps.getD k Pxy.z).content):
  bV ks x (ps.drop k) k=bV ks x (ps.drop (k+1)) (k+1):=by
 rw[dP Pxy.z hk,bV,iR h0 h1,Am]
 exact zU h2
theorem pr {k:Nat} (hk:k<ps.length) (h0:0≤(ps.getD k Pxy.z).frm) (h1:ks.length≤(ps.getD k Pxy.z).frm.toNat):bV ks x (ps.drop k) k=some (k:Int):=by
 rw[dP Pxy.z hk,bV,nc h0 h1,Ai]; simp
theorem oW {k:Nat} (hk:k<ps.length) (h0:0≤(ps.getD k Pxy.z).frm) (h1:(ps.getD k Pxy.z).frm.toNat<ks.length) (h2:¬(ps.getD k Pxy.z).sig=sealH (ks.getD (ps.getD k Pxy.z).frm.toNat []) (ps.getD k Pxy.z).content):
  bV ks x (ps.drop k) k=some (k:Int):=by
 rw[dP Pxy.z hk,bV,iR h0 h1,Ai]
 rw[Option.any_some,zW h2]; simp
theorem mN {k:Nat} (h0:0≤x.signer) (h1:ks.length≤x.signer.toNat):bV ks x [] k=some (-1):=by
 rw[bV,nc h0 h1,Ai]; simp
theorem mG {k:Nat} (h0:0≤x.signer) (h1:x.signer.toNat<ks.length) (h2:¬x.sig=sealH (ks.getD x.signer.toNat []) x.content):bV ks x [] k=some (-1):=by
 rw[bV,iR h0 h1,Ai]
 rw[Option.any_some,zW h2]; simp
theorem tv {k:Nat} (h0:0≤x.signer) (h1:x.signer.toNat<ks.length) (h2:x.sig=sealH (ks.getD x.signer.toNat []) x.content):bV ks x [] k=none:=by
 rw[bV,iR h0 h1,Am]
 exact zU h2
end
theorem ve {x:Wsh} {ps:List Pxy} (h:(scopeV x ps).2=false):bH x none ps 0=none:=by
 unfold scopeV at h
 cases hs:bH x none ps 0 with
 | none=>rfl
 | some n=>rw[hs] at h; cases h
theorem tW {x:Wsh} {ps:List Pxy} (h:(scopeV x ps).2=true):bH x none ps 0=some (scopeV x ps).1:=by
 unfold scopeV at h⊢
 cases hs:bH x none ps 0 with
 | none=>rw[hs] at h; cases h
 | some n=>rfl
theorem zx (kv lv:Value) (ks:List By) (x:Wsh) (ps:List Pxy) (number t:Int) (w0:World) (hkv:SlAt w0 kv 1 (ks.map λs=>[sv s])) (hlv:SlAt w0 lv 7 (ps.map Pxy.cells)) (hk0:(blk 0 (kOf.map wv) 258).ok w0):
  Ret Tryz.prog 103 #[kv,.agg #[jv x.signer,jv x.holder,jv x.rf,jv x.rt,jv x.carrier,jv x.serial,jv x.sf,jv x.st,sv x.sig],lv,jv number,jv t] w0 λv w=>v=.tuple #[jv (whyH ks x ps number t).1,jv (whyH ks x ps number t).2]∧Ext No w0 w:=by
 have hxb:=hlv.2.1
 simp only[zR,big] at hxb
 have hyb:=hkv.2.1
 simp only[zR,big] at hyb
 refine BJ func103 O ntmps103 (lb O) λa Y U=>?_
 refine aa λ_ G1=>aS Y U O [jv x.signer,jv x.holder,jv x.rf,jv x.rt,jv x.carrier,jv x.serial,jv x.sf,jv x.st,sv x.sig] O λa w1 Y U=>aS Y U O [lv] (by rw[(U.arg hlv).cells]) λa w2 Y U=>aE Y U (zeroValue3 _) [jv 0] O λa w3 Y U=>aE Y U (zeroValue3 _) [jv 0] O λa w4 Y U=>G1<|aa λ_ G2=>?_
 refine wla Y O λa Y=>G2<|ah λ_ G3=>?_
 refine aa λ_ G4=>nv Y<|zN O<|zM ((aK (sT:=44) (U.arg hkv) O O (runUnderlying44 _)).asi (m':=(ks.length:Int)) B9)<|zM (v_gt O O)<|zN O<|λa Y=>?_
 rcases Decidable.em (64<(ks.length:Int)) with hb1|hb1
 ·rw[zU hb1] at Y
  refine nv Y<|zQ<|zQ<|zQ<|zM (ay O O)<|zN O<|zQ<|zQ<|zQ<|zM (ay O O)<|zN O<|zQ<|zQ<|zQ<|zM (ay O O)<|λa Y=>G4 ?_
  replace Y:=Y.p8 0 3 4 6 7 10 11 37 O
  refine aM Y O ?_
  refine aa λ_ G5=>aB 1 Y U [jv 1] O (sizeOf3 _) λa w5 Y U=>aB 0 Y U [jv (-1)] O (sizeOf3 _) λa w6 Y U=>G5<|aq ?_
  refine am Y results103 (ao O (aN (U.g 1 O) (isAgg3 _)) (ao O (aN (U.g 0 O) (isAgg3 _)) ag)) ?_
  exact⟨by rw[gx (by unfold formB; first|exact .inl om|exact .inr (.inr (.inr om))|exact .inr (.inr (.inl hb1))|exact .inr (.inl (by rw[gB] at hb1; simpa using hb1)))]; rfl,U.ext⟩
 rw[zW hb1] at Y
 refine nv Y<|zP (au O)<|zP (au O)<|λa Y=>aF Y U call146 O (su (λs=>!decide ((s.length:Int)=32)) _ call145 (U.arg hkv) (λx w _=>yS x w)) λa w7 Y U=>nv Y<|zM (al O O)<|zN O<|λa Y=>?_
 rcases zX (ks.any λs=>!decide ((s.length:Int)=32)) with hb2|hb2
 ·rw[hb2] at Y
  try simp only[qz] at hb2
  refine nv Y<|zQ<|zQ<|zQ<|zM (ay O O)<|zN O<|zQ<|zQ<|zQ<|zM (ay O O)<|λa Y=>G4 ?_
  replace Y:=Y.p8 0 3 4 6 7 10 11 37 O
  refine aM Y O ?_
  refine aa λ_ G6=>aB 1 Y U [jv 1] O (sizeOf3 _) λa w8 Y U=>aB 0 Y U [jv (-1)] O (sizeOf3 _) λa w9 Y U=>G6<|aq ?_
  refine am Y results103 (ao O (aN (U.g 1 O) (isAgg3 _)) (ao O (aN (U.g 0 O) (isAgg3 _)) ag)) ?_
  exact⟨by rw[gx (by unfold formB; first|exact .inl om|exact .inr (.inr (.inr om))|exact .inr (.inr (.inl hb2))|exact .inr (.inl (by rw[gB] at hb2; simpa using hb2)))]; rfl,U.ext⟩
 rw[hb2] at Y
 try simp only[qz] at hb2
 refine wly Y (ap (U.g 3 O) O (isAgg90 _) (sizeOf90 _)) λa Y=>aF Y U call85 O (jP x _) λa w10 Y U=>nv Y<|zP (bB O)<|zM (al O O)<|zN O<|λa Y=>?_
 rcases zX (!x.ok) with hb3|hb3
 ·rw[hb3] at Y
  try simp only[qz] at hb3
  refine nv Y<|zQ<|zQ<|zQ<|zM (ay O O)<|λa Y=>G4 ?_
  replace Y:=Y.p8 0 3 4 6 7 10 11 37 O
  refine aM Y O ?_
  refine aa λ_ G7=>aB 1 Y U [jv 1] O (sizeOf3 _) λa w11 Y U=>aB 0 Y U [jv (-1)] O (sizeOf3 _) λa w12 Y U=>G7<|aq ?_
  refine am Y results103 (ao O (aN (U.g 1 O) (isAgg3 _)) (ao O (aN (U.g 0 O) (isAgg3 _)) ag)) ?_
  exact⟨by rw[gx (by unfold formB; first|exact .inl om|exact .inr (.inr (.inr om))|exact .inr (.inr (.inl hb3))|exact .inr (.inl (by rw[gB] at hb3; simpa using hb3)))]; rfl,U.ext⟩
 rw[hb3] at Y
 try simp only[qz] at hb3
 refine nv Y<|zP (ld U 2 O O (isAgg91 _) O)<|zP ((aK (sT:=91) (U.arg hlv) O O (runUnderlying91 _)).asi (m':=(ps.length:Int)) B9)<|zP (v_gt O O)<|zM (al O O)<|λa Y=>G4 ?_
 replace Y:=Y.p8 0 3 4 6 7 10 11 37 O
 refine az Y O (λhc4=>?_) (λhc4=>?_)
 ·refine aa λ_ G8=>aB 1 Y U [jv 1] O (sizeOf3 _) λa w13 Y U=>aB 0 Y U [jv (-1)] O (sizeOf3 _) λa w14 Y U=>G8<|aq ?_
  refine am Y results103 (ao O (aN (U.g 1 O) (isAgg3 _)) (ao O (aN (U.g 0 O) (isAgg3 _)) ag)) ?_
  exact⟨by rw[gx (by unfold formB; first|exact .inl om|exact .inr (.inr (.inr om))|exact .inr (.inr (.inl hc4))|exact .inr (.inl (by rw[gB] at hc4; simpa using hc4)))]; rfl,U.ext⟩
 refine ar<|G3<|ah λ_ G9=>?_
 have hxo:x.ok=true:=hb3
 have hnf:¬formB ks x ps:=by
  rintro (h|h|h|h)
  ·omega
  ·rw[gB,h] at hb2; simp at hb2
  ·rw[hxo] at h; cases h
  ·omega
 have hk32:=xq hnf
 have hxd:=Wsh.ok_bnd hxo
 have hxg:=Wsh.ok_signer hxo
 refine aa λ_ G10=>wlv Y (ld U 2 O O (isAgg91 _) O) λa Y=>ax Y U call140 O (ka lv ps _ (U.arg hlv)) λa w15 Y U=>wla Y O λa Y=>G10<|aa λ_ G11=>?_
 refine nv Y<|zN O<|zM (v_ge O O)<|λa Y=>G11<|az Y O (λhc5=>?_) (λhc5=>?_)
 ·refine aa λ_ G12=>wlm Y O λa Y=>aB 1 Y U [jv 1] O (sizeOf3 _) λa w16 Y U=>aB 0 Y U [jv (badN ps)] O (sizeOf3 _) λa w17 Y U=>G12 ?_
  replace Y:=Y.p7 0 3 4 6 7 10 11 O
  refine aq<|am Y results103 (ao O (aN (U.g 1 O) (isAgg3 _)) (ao O (aN (U.g 0 O) (isAgg3 _)) ag)) ?_
  exact⟨by rw[tb hnf hc5]; rfl,U.ext⟩
 refine ar<|G9<|ah λ_ G13=>?_
 have hbn:=pU (l:=ps) om
 refine aa λ_ G14=>nv Y<|zN O<|zM (ac (v:=po w0.hz 6) O kr)<|zM (ac (v:=po w0.hz 6) O kr)<|zM (ld U 3 O O (isAgg3 _) O)<|zM (ac (v:=po w0.hz 6) O kr)<|zM (ac (v:=po w0.hz 7) O kr)<|zM (ld U 3 O O (isAgg3 _) O)<|zM (bJ O O ⟨om,om⟩)<|λa Y=>ax Y U call100 O (da t x.sf (x.st- 1) _) λa w18 Y U=>wlv Y (bB O) λa Y=>G14 ?_
 replace Y:=Y.p7 0 3 6 7 10 11 52 O
 refine bF Y O (λhc6=>?_) (λhc6=>?_)
 ·try simp only[qz] at hc6
  refine aa λ_ G15=>aB 1 Y U [jv 2] O (sizeOf3 _) λa w19 Y U=>aB 0 Y U [jv (-1)] O (sizeOf3 _) λa w20 Y U=>G15<|aq ?_
  refine am Y results103 (ao O (aN (U.g 1 O) (isAgg3 _)) (ao O (aN (U.g 0 O) (isAgg3 _)) ag)) ?_
  exact⟨by rw[kS hnf hbn hc6]; rfl,U.ext⟩
 try simp only[qz] at hc6
 refine ar<|G13<|ah λ_ G16=>aa λ_ G17=>nv Y<|zN O<|zM (ac (v:=po w0.hz 2) O kr)<|zM (ac (v:=po w0.hz 2) O kr)<|zM (ld U 3 O O (isAgg3 _) O)<|zM (ac (v:=po w0.hz 2) O kr)<|zM (ac (v:=po w0.hz 3) O kr)<|zM (ld U 3 O O (isAgg3 _) O)<|zM (bJ O O ⟨om,om⟩)<|λa Y=>ax Y U call100 O (da number x.rf (x.rt- 1) _) λa w21 Y U=>wlv Y (bB O) λa Y=>G17 ?_
 replace Y:=Y.p6 0 6 7 10 11 62 O
 refine bF Y O (λhc7=>?_) (λhc7=>?_)
 ·try simp only[qz] at hc7
  refine aa λ_ G18=>aB 1 Y U [jv 3] O (sizeOf3 _) λa w22 Y U=>aB 0 Y U [jv (-1)] O (sizeOf3 _) λa w23 Y U=>G18<|aq ?_
  refine am Y results103 (ao O (aN (U.g 1 O) (isAgg3 _)) (ao O (aN (U.g 0 O) (isAgg3 _)) ag)) ?_
  exact⟨by rw[oA hnf hbn hc6 hc7]; rfl,U.ext⟩
 try simp only[qz] at hc7
 refine ar<|G16<|ah λ_ G19=>?_
 have hwp:whyP ks x ps number t:=⟨hnf,hbn,hc6,hc7⟩
 refine aa λ_ G20=>nv Y<|zM (ac (v:=po w0.hz 1) O kr)<|zM (ld U 3 O O (isAgg3 _) O)<|zM (ld U 2 O O (isAgg91 _) O)<|λa Y=>bf Y U call147 O (q9 x.holder lv ps _ (U.arg hlv)) λa w24 x8 hp Y U=>?_
 obtain⟨bh,bl⟩:=x8
 clear hp
 try dsimp only at U
 replace U:=U.n6 O
 refine G20<|aw ?_
 replace U:=U.s6 [5,4,3,2,1,0] de rfl
 replace Y:=Y.p9 0 6 7 10 11 63 64 65 66 O
 refine dS (M:=No) (w0:=w0) (encs:=encQ) (Hi:=[blk bh [jv x.holder] 3,blk bl [lv] 91]) (Hc:=[blk w0.hz [jv x.signer,jv x.holder,jv x.rf,jv x.rt,jv x.carrier,jv x.serial,jv x.sf,jv x.st,sv x.sig] 90,blk w1.hz [lv] 91,blk w2.hz [jv 0] 3,blk w3.hz [jv 0] 3]) (λpre H=>(∀z∈pre,okQ ps x.signer z=true)∧H=[blk w0.hz [jv x.signer,jv x.holder,jv x.rf,jv x.rt,jv x.carrier,jv x.serial,jv x.sf,jv x.st,sv x.sig] 90,blk w1.hz [lv] 91,blk w2.hz [jv 0] 3,blk w3.hz [jv 0] 3]) (λc pre H=>c=.ret∧∃(i:Int),(cA x.signer x.holder ps 0=some i)∧H=[blk w0.hz [jv x.signer,jv x.holder,jv x.rf,jv x.rt,jv x.carrier,jv x.serial,jv x.sf,jv x.st,sv x.sig] 90,blk w1.hz [lv] 91,blk w2.hz [jv 4] 3,blk w3.hz [jv i] 3]) (λpre xs H a=>Fr 142 [(6,pq w0.hz),(7,pq w1.hz),(10,pq w2.hz),(11,pq w3.hz),(14,jv xs.1),(15,jv xs.2)] [] a∧(∀z∈pre,okQ ps x.signer z=true)∧H=[blk w0.hz [jv x.signer,jv x.holder,jv x.rf,jv x.rt,jv x.carrier,jv x.serial,jv x.sf,jv x.st,sv x.sig] 90,blk w1.hz [lv] 91,blk w2.hz [jv 0] 3,blk w3.hz [jv 0] 3]) O call183 Y U (oc x.holder lv ps bh bl (λH w h=>h.arg hlv)) de (λ_=>O) ⟨sm,O⟩ ?_ ?_ ?_ ?_
 ·clear Y U
  rintro lp pre xs _ a w25 hnx ⟨hpq,rfl⟩ Y U
  generalize (join [blk w0.hz [jv x.signer,jv x.holder,jv x.rf,jv x.rt,jv x.carrier,jv x.serial,jv x.sf,jv x.st,sv x.sig] 90,blk w1.hz [lv] 91,blk w2.hz [jv 0] 3,blk w3.hz [jv 0] 3]).foot=M1 at U⊢
  refine aa λ_ G21=>wla (Y.p11 68 67 0 6 7 10 11 63 64 65 66 O) O λa Y=>G21 ?_
  refine aj<|wla (Y.p6 68 6 7 10 11 14 O) O λa Y=>ab ?_
  exact⟨_,⟨Y.pick [6,7,10,11,14,15],hpq,O⟩,U⟩
 ·rintro lp pre xs _ a w26 hnx ⟨Y,hpq,rfl⟩ hout hrec hnl U
  clear hrec hnl
  generalize (join [blk w0.hz [jv x.signer,jv x.holder,jv x.rf,jv x.rt,jv x.carrier,jv x.serial,jv x.sf,jv x.st,sv x.sig] 90,blk w1.hz [lv] 91,blk w2.hz [jv 0] 3,blk w3.hz [jv 0] 3]).foot=M1 at U hout⊢
  refine aw<|aa λ_ G22=>nv Y<|zN O<|zM (v_ge O O)<|zN O<|λa Y=>?_
  rcases Decidable.em (0≤xs.1) with hb9|hb9
  ·rw[zU hb9] at Y
   have hqlt:=tg hnx
   refine nv Y<|zP (ld U 1 O O (isAgg91 _) O)<|zP (au O)<|zP ((ai (i:=xs.1) (sT:=91) (hlv.grow (hout _ U.ext)) O O (runUnderlying91 _) (sizeOf144 _) om BQ).as (v':=slAddr lv (xs.1.toNat*7)) (by rw[show (xs.1).toNat=xs.1.toNat from by omega]))<|zP (bA (k:=xs.1.toNat*7) (j:=0) (hlv.grow (hout _ U.ext)) (i:=xs.1.toNat) BQ O (λ_ _=>by kernel_rfl))<|zP (aA (u:=jv ((ps.getD xs.1.toNat Pxy.z).frm)) (i:=xs.1.toNat) (j:=0) (hlv.grow (hout _ U.ext)) BQ O (isAgg3 _) CB)<|zP (au O)<|zP (v_ne O O)<|zM (ay O O)<|zN O<|λa Y=>?_
   rcases (Decidable.em ((ps.getD xs.1.toNat Pxy.z).frm=xs.2)).symm with hb10|hb10
   ·rw[zW hb10] at Y
    refine nv Y<|zQ<|zQ<|zQ<|λa Y=>cf Y λa Y=>cf Y λa Y=>cf Y λa Y=>cf Y λa Y=>nv Y<|zQ<|zM (ay O O)<|λa Y=>G22 ?_
    replace Y:=Y.p4 10 11 14 89 O
    refine aM Y O ?_
    refine aa λ_ G23=>wlm Y O λa Y=>aB 2 Y U [jv 4] O (sizeOf3 _) λa w27 Y U=>aB 3 Y U [jv xs.1] O (sizeOf3 _) λa w28 Y U=>G23<|aq ?_
    exact⟨_,⟨O,xs.1,mJ hnx hpq (yZ hb9 hb10),O⟩,U.select [0,1,2,3] de⟩
   rw[zU hb10] at Y
   refine nv Y<|zP (au O)<|zP ((v_lt O O).asb (b':=false) CI)<|zP (au O)<|zQ<|zQ<|zQ<|zQ<|zP (al O O)<|zM (al O O)<|λa Y=>G22 ?_
   replace Y:=Y.p4 10 11 14 89 O
   refine aG Y O ?_
   refine ar ?_
   exact⟨_,⟨sR hpq (xJ hb9 hb10),O⟩,U.select [0,1,2,3] de⟩
  rw[zW hb9] at Y
  have hqlt:=tg hnx
  refine nv Y<|zQ<|zQ<|zQ<|zQ<|zQ<|zQ<|zQ<|zM (al O O)<|zN O<|zP (au O)<|zP ((v_lt O O).asb (b':=true) Db)<|zP (au O)<|zP (ac (v:=pq w0.hz) O kr)<|zP (ld U 0 O O (isAgg3 _) O)<|zP (au O)<|zP (v_ne O O)<|zP (ay O O)<|zM (al O O)<|λa Y=>G22 ?_
  replace Y:=Y.p4 10 11 14 89 O
  refine cN Y O (λhc11=>?_) (λhc11=>?_)
  ·refine aa λ_ G24=>wlm Y O λa Y=>aB 2 Y U [jv 4] O (sizeOf3 _) λa w29 Y U=>aB 3 Y U [jv xs.1] O (sizeOf3 _) λa w30 Y U=>G24<|aq ?_
   exact⟨_,⟨O,xs.1,mJ hnx hpq (yT om hc11),O⟩,U.select [0,1,2,3] de⟩
  refine ar ?_
  exact⟨_,⟨sR hpq (yu om hc11),O⟩,U.select [0,1,2,3] de⟩
 ·rintro D pre _ _ a w31 ⟨rfl,rfl⟩ ⟨hpq,rfl⟩ U Y
  replace Y:=Y.p9 0 6 7 10 11 63 64 65 66 O
  replace U:=U.n7 O
  refine G19<|ah λ_ G25=>?_
  have hch:=tU hpq
  refine aa λ_ G26=>nv Y<|zM (ap (U.g 1 O) O (isAgg90 _) (sizeOf90 _))<|zM (ld U 2 O O (isAgg91 _) O)<|λa Y=>ax Y U call148 O (wn x lv ps _ (U.arg hlv)) λa w32 Y U=>nv Y<|zN O<|zM (ak O O)<|zM (ak O O)<|zO O<|zO O<|λa Y=>G26 ?_
  replace Y:=Y.p7 0 6 7 10 11 16 17 O
  refine aa λ_ G27=>wlm Y O λa Y=>G27<|bF Y O (λhc12=>?_) (λhc12=>?_)
  ·refine aa λ_ G28=>wlm Y O λa Y=>aB 3 Y U [jv 5] O (sizeOf3 _) λa w33 Y U=>aB 4 Y U [jv ((scopeV x ps).1)] O (sizeOf3 _) λa w34 Y U=>G28<|aq ?_
   have hD:=U.g 0 rfl
   replace U:=U.unmark (i:=0) (o':=.deferred none) O
   replace U:=U.n6 O
   refine cF Y hD results103 (ao O (aN (U.g 2 O) (isAgg3 _)) (ao O (aN (U.g 3 O) (isAgg3 _)) ag)) ?_
   exact⟨by rw[nF hwp hch (tW hc12)]; rfl,U.ext⟩
  refine ar<|G25<|ah λ_ G29=>?_
  have hsc:bH x none ps 0=none:=ve hc12
  refine aa λ_ G30=>nv Y<|zM (ld U 2 O O (isAgg91 _) O)<|zM ((aK (sT:=91) (U.arg hlv) O O (runUnderlying91 _)).asi (m':=(ps.length:Int)) B9)<|zN O<|λa Y=>G30<|aw ?_
  refine aZ (λm a w=>∃(k:Nat),m=ps.length- k∧(k≤ps.length)∧(bV ks x ps 0=bV ks x (ps.drop k) k)∧Fr 142 [(0,kv),(6,pq w0.hz),(10,pq w2.hz),(11,pq w3.hz),(99,lv),(100,jv (ps.length:Int)),(101,jv (k:Int))] [{target:=.collected D,args:=#[]}] a∧St No w0 [obj D (.deferred (some [])),blk w0.hz [jv x.signer,jv x.holder,jv x.rf,jv x.rt,jv x.carrier,jv x.serial,jv x.sf,jv x.st,sv x.sig] 90,blk w1.hz [lv] 91,blk w2.hz [jv 0] 3,blk w3.hz [jv 0] 3,blk bh [jv x.holder] 3,blk bl [lv] 91] w) _ ⟨0,O,Ah _,O,Y.pick [0,6,10,11,99,100,101],U.select [0,1,2,3,4,5,6] de⟩ ?_
  rintro _ a w35 ⟨k,rfl,hk,hsb,Y,U⟩
  refine aa λ_ G31=>wlv Y (v_lt O O) λa Y=>G31<|ah λ_ G32=>?_
  refine az Y O (λhc13=>?_) (λhc13=>?_)
  ·have hkx:k<ps.length:=by omega
   have hpk:=dV hbn _ (bC (d:=Pxy.z) hkx)
   have hp0:=Pxy.ok_frm hpk
   refine ar<|G32<|ah λ_ G33=>aw<|aa λ_ G34=>nv Y<|zN O<|zM ((ai (i:=(k:Int)) (sT:=91) (U.arg hlv) O O (runUnderlying91 _) (sizeOf144 _) om BQ).as (v':=slAddr lv (k*7)) O)<|zM ((bN (U.arg hlv) (i:=k) BQ O (isAgg144 _) (sizeOf144 _)).as (v':=.agg #[jv ((ps.getD k Pxy.z).frm),jv ((ps.getD k Pxy.z).to),jv ((ps.getD k Pxy.z).rf),jv ((ps.getD k Pxy.z).rt),jv ((ps.getD k Pxy.z).sf),jv ((ps.getD k Pxy.z).st),sv ((ps.getD k Pxy.z).sig)]) CB)<|λa Y=>aE Y U (zeroValue144 _) [jv 0,jv 0,jv 0,jv 0,jv 0,jv 0,.string (⟨#[]⟩)] O λa w36 Y U=>?_
   refine wla Y O λa Y=>aB 0 Y U [jv ((ps.getD k Pxy.z).frm),jv ((ps.getD k Pxy.z).to),jv ((ps.getD k Pxy.z).rf),jv ((ps.getD k Pxy.z).rt),jv ((ps.getD k Pxy.z).sf),jv ((ps.getD k Pxy.z).st),sv ((ps.getD k Pxy.z).sig)] O (sizeOf144 _) λa w37 Y U=>G34 ?_
   replace Y:=Y.p9 0 6 10 11 99 100 101 19 18 O
   refine ah λ_ G35=>aH (aI λw38 hxz=>?_)
   replace U:=U.grow hxz
   refine aQ (k:=0) 4 [1,3] Y ?_
   refine bI 4 (Y.p9 0 6 10 11 99 100 101 19 18 O) U<|pl_v (ac (v:=pq w35.hz) O kr)<|pl_w (λU=>ld U 0 O O (isAgg3 _) O)<|pl_m O<|pl_w (λU=>(aK (sT:=44) (U.arg hkv) O O (runUnderlying44 _)).asi (m':=(ks.length:Int)) B9) λa w39 Y U=>ab<|aJ (k:=4) 6 [5] ?_
   refine nv Y<|zM (v_ge O O)<|zN O<|λa Y=>ab ?_
   rcases Decidable.em ((ks.length:Int)≤(ps.getD k Pxy.z).frm) with hb14|hb14
   ·rw[zU hb14] at Y
    refine dk (k:=6) 15 [7,14] (Y.p15 0 6 10 11 99 100 101 19 18 106 107 108 109 110 111 O) λa Y=>?_
    replace Y:Fr 142 [(112,undef),(113,undef),(114,undef),(115,undef),(116,undef),(117,undef),(118,undef),(119,undef),(120,undef),(0,kv),(6,pq w0.hz),(10,pq w2.hz),(11,pq w3.hz),(99,lv),(100,jv (ps.length:Int)),(101,jv (k:Int)),(19,pq w35.hz),(18,jv (k:Int)),(106,pq w35.hz),(107,jv ((ps.getD k Pxy.z).frm)),(108,kv),(109,jv (ks.length:Int)),(110,.bool true),(111,.bool true)] [{target:=.collected D,args:=#[]}] a:=Y
    refine aJ (k:=15) 17 [16] ?_
    refine nv Y<|zQ<|zM (ay O O)<|λa Y=>ab<|aR<|G35 ?_
    replace Y:=Y.p9 0 6 10 11 99 100 101 18 122 O
    replace U:=U.k7 254 O
    refine aM Y O ?_
    refine aa λ_ G36=>wlm Y O λa Y=>aB 3 Y U [jv 6] O (sizeOf3 _) λa w40 Y U=>aB 4 Y U [jv (k:Int)] O (sizeOf3 _) λa w41 Y U=>G36<|aq ?_
    have hD:=U.g 0 rfl
    replace U:=U.unmark (i:=0) (o':=.deferred none) O
    replace U:=U.n6 O
    refine cF Y hD results103 (ao O (aN (U.g 2 O) (isAgg3 _)) (ao O (aN (U.g 3 O) (isAgg3 _)) ag)) ?_
    exact⟨by rw[gr hwp hch hsc (by rw[hsb]; first|exact pr hkx hp0.1 om|exact oW hkx hp0.1 om hb14)]; rfl,U.ext⟩
   rw[zW hb14] at Y
   refine aQ (k:=6) 15 [7,14] Y ?_
   replace Y:=Y.p15 0 6 10 11 99 100 101 19 18 106 107 108 109 110 111 O
   refine bI 9 Y U<|pl_v (ac (v:=po w35.hz 6) O kr)<|pl_w (λU=>ld U 0 O O (isAgg9 _) O)<|pl_m O<|pl_v (ac (v:=pq w35.hz) O kr)<|pl_w (λU=>ld U 0 O O (isAgg3 _) O)<|pl_w (λU=>(ai (i:=(ps.getD k Pxy.z).frm) (sT:=44) (U.arg hkv) O O (runUnderlying44 _) (sizeOf9 _) om BQ).as (v':=slAddr kv (((ps.getD k Pxy.z).frm.toNat)*1)) (by rw[show ((ps.getD k Pxy.z).frm).toNat=(ps.getD k Pxy.z).frm.toNat from by omega])) ?_
   refine pl_w (λU=>aA (u:=sv (ks.getD ((ps.getD k Pxy.z).frm.toNat) [])) (i:=((ps.getD k Pxy.z).frm.toNat)) (j:=0) (U.arg hkv) BQ O (isAgg9 _) CQ)<|pl_v (ck O O) ?_
   refine pl_r (λU=>bD call86 O (mz (ks.getD ((ps.getD k Pxy.z).frm.toNat) []) (ps.getD k Pxy.z).content 149 w35.hz [jv ((ps.getD k Pxy.z).frm),jv ((ps.getD k Pxy.z).to),jv ((ps.getD k Pxy.z).rf),jv ((ps.getD k Pxy.z).rt),jv ((ps.getD k Pxy.z).sf),jv ((ps.getD k Pxy.z).st),sv ((ps.getD k Pxy.z).sig)] 144 _ call149 (λb v ws h=>yY b w35.hz v (ps.getD k Pxy.z) ws (Pxy.smalls_of hpk) h) iS (by have:=hk32 _ (bC (d:=[]) (by omega:((ps.getD k Pxy.z).frm.toNat)<ks.length)); omega) (AD ((ps.getD k Pxy.z).content_len) de) (U.keepb hk0) (U.g 0 O) (pB U (i:=0) O hk0))) λa w42 Y U=>?_
   replace Y:=Y.p11 0 6 10 11 99 100 101 18 111 113 120 O
   refine ab<|aJ (k:=15) 17 [16] ?_
   refine nv Y<|zP (pV O O)<|zM (al O O)<|λa Y=>ab<|aR<|G35<|cN Y O (λhc15=>?_) (λhc15=>?_)
   ·refine aa λ_ G37=>wlm Y O λa Y=>aB 4 Y U [jv 6] O (sizeOf3 _) λa w43 Y U=>aB 5 Y U [jv (k:Int)] O (sizeOf3 _) λa w44 Y U=>G37 ?_
    replace Y:=Y.p7 0 6 10 11 99 100 101 O
    replace U:=U.k7 254 O
    refine aq ?_
    have hD:=U.g 0 rfl
    replace U:=U.unmark (i:=0) (o':=.deferred none) O
    replace U:=U.n6 O
    refine cF Y hD results103 (ao O (aN (U.g 2 O) (isAgg3 _)) (ao O (aN (U.g 3 O) (isAgg3 _)) ag)) ?_
    exact⟨by rw[gr hwp hch hsc (by rw[hsb]; first|exact pr hkx hp0.1 om|exact oW hkx hp0.1 om hc15)]; rfl,U.ext⟩
   refine ar<|G33<|aj<|nv Y<|zM (aL O O ⟨om,om⟩)<|zN O<|λa Y=>ab ?_
   refine⟨_,?_,k+1,O,om,(by rw[hsb]; exact uA hkx hp0.1 om hc15),Y.pick [0,6,10,11,99,100,101],U.select [1,2,3,4,5,6,7] de⟩
   omega
  have hke:k=ps.length:=by omega
  rw[hke,List.drop_length] at hsb
  refine aP<|G29<|ah λ_ G38=>ah λ_ G39=>aH (aI λw45 hxz=>?_)
  replace U:=U.grow hxz
  refine aQ (k:=0) 4 [1,3] Y ?_
  refine bI 4 (Y.p7 0 6 10 11 99 100 101 O) U<|pl_v (ac (v:=pq w0.hz) O kr)<|pl_w (λU=>ld U 1 O O (isAgg3 _) O)<|pl_m O<|pl_w (λU=>(aK (sT:=44) (U.arg hkv) O O (runUnderlying44 _)).asi (m':=(ks.length:Int)) B9) λa w46 Y U=>?_
  replace Y:=Y.p6 0 6 10 11 126 128 O
  refine ab<|aJ (k:=4) 6 [5] ?_
  refine nv Y<|zM (v_ge O O)<|zN O<|λa Y=>ab ?_
  rcases Decidable.em ((ks.length:Int)≤x.signer) with hb16|hb16
  ·rw[zU hb16] at Y
   refine dk (k:=6) 15 [7,14] (Y.p8 0 6 10 11 126 128 129 130 O) λa Y=>?_
   replace Y:=Y.p17 131 132 133 134 135 136 137 138 139 0 6 10 11 126 128 129 130 O
   refine aJ (k:=15) 17 [16] ?_
   refine nv Y<|zQ<|zM (ay O O)<|λa Y=>ab<|aR<|G39 ?_
   replace Y:=Y.p3 10 11 141 O
   refine aM Y O ?_
   refine aa λ_ G40=>aB 3 Y U [jv 6] O (sizeOf3 _) λa w47 Y U=>aB 4 Y U [jv (-1)] O (sizeOf3 _) λa w48 Y U=>G40<|aq ?_
   have hD:=U.g 0 rfl
   replace U:=U.unmark (i:=0) (o':=.deferred none) O
   replace U:=U.n6 O
   refine cF Y hD results103 (ao O (aN (U.g 2 O) (isAgg3 _)) (ao O (aN (U.g 3 O) (isAgg3 _)) ag)) ?_
   exact⟨by rw[gr hwp hch hsc (by rw[hsb]; first|exact mN (Wsh.ok_signer hxo).1 om|exact mG (Wsh.ok_signer hxo).1 om hb16)]; rfl,U.ext⟩
  rw[zW hb16] at Y
  refine aQ (k:=6) 15 [7,14] Y ?_
  replace Y:=Y.p8 0 6 10 11 126 128 129 130 O
  refine bI 9 Y U<|pl_v (ac (v:=po w0.hz 8) O kr)<|pl_w (λU=>ld U 1 O O (isAgg9 _) O)<|pl_m O<|pl_v (ac (v:=pq w0.hz) O kr)<|pl_w (λU=>ld U 1 O O (isAgg3 _) O)<|pl_w (λU=>(ai (i:=x.signer) (sT:=44) (U.arg hkv) O O (runUnderlying44 _) (sizeOf9 _) om BQ).as (v':=slAddr kv (x.signer.toNat*1)) (by rw[show (x.signer).toNat=x.signer.toNat from by omega]))<|pl_w (λU=>aA (u:=sv (ks.getD x.signer.toNat [])) (i:=x.signer.toNat) (j:=0) (U.arg hkv) BQ O (isAgg9 _) CQ)<|pl_v (ck O O) ?_
  refine pl_r (λU=>bD call86 O (mz (ks.getD x.signer.toNat []) x.content 150 w0.hz [jv x.signer,jv x.holder,jv x.rf,jv x.rt,jv x.carrier,jv x.serial,jv x.sf,jv x.st,sv x.sig] 90 _ call150 (λb v ws h=>yo b w0.hz v x ws (Wsh.smalls_of hxo) h) iS (by have:=hk32 _ (bC (d:=[]) (by omega:x.signer.toNat<ks.length)); omega) (AD (x.content_len) de) (U.keepb hk0) (U.g 1 O) (pB U (i:=1) O hk0))) λa w49 Y U=>?_
  replace Y:=Y.p5 10 11 130 132 139 O
  refine ab<|aJ (k:=15) 17 [16] ?_
  refine nv Y<|zP (pV O O)<|zM (al O O)<|λa Y=>ab<|aR<|G39<|cN Y O (λhc17=>?_) (λhc17=>?_)
  ·refine aa λ_ G41=>aB 3 Y U [jv 6] O (sizeOf3 _) λa w50 Y U=>aB 4 Y U [jv (-1)] O (sizeOf3 _) λa w51 Y U=>G41<|aq ?_
   have hD:=U.g 0 rfl
   replace U:=U.unmark (i:=0) (o':=.deferred none) O
   replace U:=U.n6 O
   refine cF Y hD results103 (ao O (aN (U.g 2 O) (isAgg3 _)) (ao O (aN (U.g 3 O) (isAgg3 _)) ag)) ?_
   exact⟨by rw[gr hwp hch hsc (by rw[hsb]; first|exact mN (Wsh.ok_signer hxo).1 om|exact mG (Wsh.ok_signer hxo).1 om hc17)]; rfl,U.ext⟩
  refine ar<|G38<|aa λ_ G42=>aB 3 Y U [jv 0] O (sizeOf3 _) λa w52 Y U=>aB 4 Y U [jv (-1)] O (sizeOf3 _) λa w53 Y U=>G42<|aq ?_
  have hD:=U.g 0 rfl
  replace U:=U.unmark (i:=0) (o':=.deferred none) O
  replace U:=U.n6 O
  refine cF Y hD results103 (ao O (aN (U.g 2 O) (isAgg3 _)) (ao O (aN (U.g 3 O) (isAgg3 _)) ag)) ?_
  exact⟨by rw[kO hwp hch hsc (by rw[hsb]; exact tv (Wsh.ok_signer hxo).1 om hc17)]; rfl,U.ext⟩
 ·rintro D _ pre _ _ a w54 rfl ⟨rfl,i,hci,rfl⟩ U Y
  replace Y:=Y.p9 0 6 7 10 11 63 64 65 66 O
  replace U:=U.n7 O
  refine aq ?_
  have hD:=U.g 0 rfl
  replace U:=U.unmark (i:=0) (o':=.deferred none) O
  replace U:=U.n6 O
  refine cF Y hD results103 (ao O (aN (U.g 2 O) (isAgg3 _)) (ao O (aN (U.g 3 O) (isAgg3 _)) ag)) ?_
  exact⟨by rw[nE hwp hci]; rfl,U.ext⟩
end Go.Proofs.YtliklcmddmpdfaaGreatDoor
namespace Go.Proofs.YtliklcmddmpdfaaGreatDoor
open Go.RowKit Go.PW _root_.Go.Proofs.Tryz
theorem vH (kv lv:Value) (ks:List By) (x:Wsh) (ps:List Pxy) (number t:Int) (w0:World) (hkv:SlAt w0 kv 1 (ks.map λs=>[sv s])) (hlv:SlAt w0 lv 7 (ps.map Pxy.cells)) (hk0:(blk 0 (kOf.map wv) 258).ok w0):
  Ret Tryz.prog 40 #[kv,.agg #[jv x.signer,jv x.holder,jv x.rf,jv x.rt,jv x.carrier,jv x.serial,jv x.sf,jv x.st,sv x.sig],lv,jv number,jv t] w0 λv w=>v=.bool (validH ks x ps number t)∧Ext No w0 w:=by
 refine BJ func40 O ntmps40 (lb O) λa Y U=>?_
 refine aa λ_ G1=>aS Y U O [jv x.signer,jv x.holder,jv x.rf,jv x.rt,jv x.carrier,jv x.serial,jv x.sf,jv x.st,sv x.sig] O λa w1 Y U=>wla Y O λa Y=>G1<|aa λ_ G2=>?_
 refine nv Y<|zN O<|zM (ap (U.g 0 O) O (isAgg90 _) (sizeOf90 _))<|zN O<|zN O<|zN O<|λa Y=>ax Y U call103 O (zx kv lv ks x ps number t _ (U.arg hkv) (U.arg hlv) (U.keepb hk0)) λa w2 Y U=>nv Y<|zN O<|zM (ak O O)<|zM (ak O O)<|zO O<|zO O<|λa Y=>G2 ?_
 replace U:=U.k0 0 O
 refine aa λ_ G3=>nv (Y.p2 10 11 O)<|zN O<|zM (v_eq O O)<|zO O<|λa Y=>G3<|aq ?_
 refine am Y results40 (ae O ag) ?_
 exact⟨by rfl,U.ext⟩
theorem pA {x:Wsh} {lv:Value} {ps:List Pxy} {w0:World} (hlv:SlAt w0 lv 7 (ps.map Pxy.cells)):Ret Tryz.prog 90 #[.agg #[jv x.signer,jv x.holder,jv x.rf,jv x.rt,jv x.carrier,jv x.serial,jv x.sf,jv x.st,sv x.sig],lv] w0 λv w=>v=.bool (ce x ps)∧Ext No w0 w:=by
 have:=t6 x lv ps w0 hlv
 rwa [rk] at this
theorem jQ:∀{l:List Pxy},(∀p∈l,p.sig.length=32)→(l.flatMap Pxy.text).length≤1000*l.length
 | [],h=>by simp
 | p::l,h=>by
  have h1:=h p sm
  have h2:=jQ (l:=l) (λq hq=>h q CL)
  have h3:p.content.length≤9*7:=eh _
  rw[AA,zS,Pxy.text,zS,z7]
  omega
theorem ig {x:Wsh} {ps:List Pxy} (h:ce x ps=true):ps.length≤4:=by
 simp only[ce,zT,zZ] at h; exact h.1.2
theorem iJ {x:Wsh} {ps:List Pxy} (h:ce x ps=true):x.ok=true:=by
 simp only[ce,zT,zZ] at h; exact h.1.1
theorem lT {x:Wsh} {ps:List Pxy} (h:ce x ps=true):∀p∈ps,p.ok=true:=by
 simp only[ce,zT,zZ,Option.isNone_iff_eq_none] at h; exact dV h.2
theorem yq {ps:List Pxy} (h:(ps.any λp=>!decide ((p.sig.length:Int)=32))=false):∀p∈ps,p.sig.length=32:=by
 intro p hp
 have:=A5.1 h p hp
 simp only[AG,BB,At,Classical.not_not] at this
 omega
theorem tI {ps:List Pxy} (h:(ps.any λp=>!decide ((p.sig.length:Int)=32))=true):¬∀p∈ps,p.sig.length=32:=by
 intro hh
 obtain⟨p,hp,h⟩:=AQ.1 h
 simp[hh p hp] at h
theorem gq {x:Wsh} {ps:List Pxy} (h:ce x ps=false∨¬(x.sig.length:Int)=32∨(ps.any λp=>!decide ((p.sig.length:Int)=32))=true):cx x ps=none:=by
 cases he:cx x ps with
 | none=>rfl
 | some s=>
  obtain⟨h1,h2,h3,_⟩:=cV.1 he
  rcases h with h|h|h
  ·rw[h1] at h; cases h
  ·omega
  ·exact absurd h3 (tI h)
def encX (ps:List Pxy) (k:Nat):By:=puts [(ps.length:Int)]++(ps.take k).flatMap Pxy.text
theorem mA {ps:List Pxy} {k:Nat} (h:k<ps.length):encX ps (k+1)=encX ps k++(ps.getD k Pxy.z).content++(ps.getD k Pxy.z).sig:=by
 unfold encX
 rw[cH Pxy.z h,List.flatMap_append]
 simp[Pxy.text,Aw]
theorem jp {ps:List Pxy} {k:Nat} (h4:ps.length≤4) (h:∀p∈ps,p.sig.length=32):(encX ps k).length≤10000:=by
 unfold encX
 have h1:=eh [(ps.length:Int)]
 have h2:=jQ (l:=ps.take k) (λp hp=>h p (AF hp))
 rw[zS]
 rw[zV] at h2
 simp only[z7,Aa] at h1
 omega
theorem vZ {x:Wsh} {ps:List Pxy}:encX ps ps.length++x.content++x.sig=putI (ps.length:Int)++(ps.flatMap Pxy.text++x.text):=by
 unfold encX Wsh.text; simp[puts,Aw]
theorem td {x:Wsh} {ps:List Pxy} (h1:ce x ps=true) (h2:x.sig.length=32) (h3:∀p∈ps,p.sig.length=32):cx x ps=some (encX ps ps.length++x.content++x.sig):=
 cV.2 ⟨h1,h2,h3,vZ⟩
theorem xu {ps:List Pxy} {k:Nat} {a b:By}:encX ps k++a++b≠[]:=by
 intro h
 unfold encX at h
 simp only[List.append_eq_nil_iff] at h
 exact iS h.1.1.1
theorem fM (x:Pxy):x.content.length≤63:=eh _
theorem fP (x:Wsh):x.content.length≤81:=eh _
theorem tA (x:Wsh) (lv:Value) (ps:List Pxy) (w0:World) (hlv:SlAt w0 lv 7 (ps.map Pxy.cells)):
  Ret Tryz.prog 35 #[.agg #[jv x.signer,jv x.holder,jv x.rf,jv x.rt,jv x.carrier,jv x.serial,jv x.sf,jv x.st,sv x.sig],lv] w0 λv w=>v=(match cx x ps with|some s=>.tuple #[sv s,jv 0]|none=>.tuple #[sv [],jv 150])∧Ext No w0 w:=by
 have hxb:=hlv.2.1
 simp only[zR,big] at hxb
 refine BF func35 O ntmps35 (lb O) λa Y U=>?_
 refine aa λ_ G1=>aS Y U O [jv x.signer,jv x.holder,jv x.rf,jv x.rt,jv x.carrier,jv x.serial,jv x.sf,jv x.st,sv x.sig] O λa w1 Y U=>nv Y<|zO O<|zO O<|λa Y=>G1<|aa λ_ G2=>?_
 refine wla Y O λa Y=>G2<|ah λ_ G3=>?_
 refine aa λ_ G4=>nv Y<|zM (ap (U.g 0 O) O (isAgg90 _) (sizeOf90 _))<|zN O<|λa Y=>ax Y U call90 O (pA (U.arg hlv)) λa w2 Y U=>nv Y<|zM (bB O)<|zN O<|λa Y=>?_
 rcases zX (!(ce x ps)) with hb1|hb1
 ·rw[hb1] at Y
  try simp only[qz] at hb1
  refine nv Y<|zQ<|zQ<|zQ<|zQ<|zM (ay O O)<|zN O<|zQ<|zQ<|zQ<|zM (ay O O)<|λa Y=>G4 ?_
  replace Y:=Y.p5 1 2 4 5 24 O
  refine aM Y O ?_
  refine aa λ_ G5=>nv Y<|zO O<|zO O<|λa Y=>G5<|aq ?_
  refine am Y results35 (ae O (ae O ag)) ?_
  exact⟨by simp only[retv]; rw[gq (.inl hb1)]; rfl,U.ext⟩
 rw[hb1] at Y
 try simp only[qz] at hb1
 refine nv Y<|zP (ac (v:=po w0.hz 8) O kr)<|zP (ld U 0 O O (isAgg9 _) O)<|zP (bp O O (runUnderlying9 _))<|zP (v_ne O O)<|zM (al O O)<|zN O<|λa Y=>?_
 rcases (Decidable.em ((x.sig.length:Int)=32)).symm with hb2|hb2
 ·rw[zW hb2] at Y
  refine nv Y<|zQ<|zQ<|zQ<|zM (ay O O)<|λa Y=>G4 ?_
  replace Y:=Y.p5 1 2 4 5 24 O
  refine aM Y O ?_
  refine aa λ_ G6=>nv Y<|zO O<|zO O<|λa Y=>G6<|aq ?_
  refine am Y results35 (ae O (ae O ag)) ?_
  exact⟨by simp only[retv]; rw[gq (.inr (.inl hb2))]; rfl,U.ext⟩
 rw[zU hb2] at Y
 refine nv Y<|zP (au O)<|zP (au O)<|λa Y=>aF Y U call91 O (yg (λp=>!decide ((p.sig.length:Int)=32)) _ call89 (U.arg hlv) (λx w _=>xO x w)) λa w3 Y U=>wlv Y (al O O) λa Y=>G4 ?_
 replace Y:=Y.p5 1 2 4 5 24 O
 refine bF Y O (λhc3=>?_) (λhc3=>?_)
 ·try simp only[qz] at hc3
  refine aa λ_ G7=>nv Y<|zO O<|zO O<|λa Y=>G7<|aq ?_
  refine am Y results35 (ae O (ae O ag)) ?_
  exact⟨by simp only[retv]; rw[gq (.inr (.inr hc3))]; rfl,U.ext⟩
 try simp only[qz] at hc3
 refine ar<|G3 ?_
 have hfo:=hb1
 have hsx:x.sig.length=32:=by omega
 have hop:=yq hc3
 have h4:=ig hfo
 have hxo:=iJ hfo
 refine aa λ_ G8=>aE Y U (zeroValue162 _) [.pointer none,.slice none 0 0] O λa w4 Y U=>G8 ?_
 replace U:St No w0 (own (.slice none 0 0) 5 1 []::[blk w3.hz [.pointer none,.slice none 0 0] 162,blk w0.hz [jv x.signer,jv x.holder,jv x.rf,jv x.rt,jv x.carrier,jv x.serial,jv x.sf,jv x.st,sv x.sig] 90]) w4:=U.nil_own
 replace U:=U.s3 [1,0,2] de rfl
 replace U:St No w0 [bld 162 w3.hz (.pointer none) (.slice none 0 0) ([]:By),blk w0.hz [jv x.signer,jv x.holder,jv x.rf,jv x.rt,jv x.carrier,jv x.serial,jv x.sf,jv x.st,sv x.sig] 90] w4:=St.join [blk w3.hz [.pointer none,.slice none 0 0] 162,own (.slice none 0 0) 5 1 ([])] [blk w0.hz [jv x.signer,jv x.holder,jv x.rf,jv x.rt,jv x.carrier,jv x.serial,jv x.sf,jv x.st,sv x.sig] 90] U
 refine aa λ_ G9=>nv Y<|zN O<|zM ((aK (sT:=91) (U.arg hlv) O O (runUnderlying91 _)).asi (m':=(ps.length:Int)) B9)<|λa Y=>aD (E:=3) (sz:=1) O [[jv (ps.length:Int)]] kr sm O de de Y U λa w5 Y U=>?_
 replace U:=U.s3 [1,0,2] de rfl
 replace U:=St.join [bld 162 w3.hz (.pointer none) (.slice none 0 0) ([]:By),own (.slice (some ⟨w4.hz,0,none⟩) 1 1) 3 1 ([[jv (ps.length:Int)]])] [blk w0.hz [jv x.signer,jv x.holder,jv x.rf,jv x.rt,jv x.carrier,jv x.serial,jv x.sf,jv x.st,sv x.sig] 90] U
 refine br (R:=λu e'=>u=.tuple #[]∧∃v2,e'=bld 162 w3.hz (pq w3.hz) v2 (puts [(ps.length:Int)])) 0 Y U O de call92 O (λh=>(iz 162 w3.hz _ _ _ [] [(ps.length:Int)] _ kr (.inl O) (λz hz=>by rw[Aq.1 hz]; unfold small; omega) sm sm (St.unjoin [bld 162 w3.hz (.pointer none) (.slice none 0 0) ([]:By),own (.slice (some ⟨w4.hz,0,none⟩) 1 1) 3 1 ([[jv (ps.length:Int)]])] [] h)).mono λu w ⟨h1,v2,h2⟩=>⟨_,⟨h1,v2,O⟩,h2⟩) ?_
 clear Y U
 rintro a w6 _ _ ⟨rfl,v4,rfl⟩ Y U
 replace U:St No w0 [bld 162 w3.hz (pq w3.hz) v4 (encX ps 0),blk w0.hz [jv x.signer,jv x.holder,jv x.rf,jv x.rt,jv x.carrier,jv x.serial,jv x.sf,jv x.st,sv x.sig] 90] w6:=by rw[show encX ps 0=puts [(ps.length:Int)] from by unfold encX; simp]; exact U
 refine G9<|ah λ_ G10=>?_
 refine aa λ_ G11=>nv Y<|zN O<|zM ((aK (sT:=91) (U.arg hlv) O O (runUnderlying91 _)).asi (m':=(ps.length:Int)) B9)<|zN O<|λa Y=>G11 ?_
 replace Y:=Y.p7 2 4 5 7 29 30 31 O
 refine aw<|aZ (λm a w=>∃(k:Nat) (v:Value),m=ps.length- k∧(k≤ps.length)∧Fr 50 [(2,pq w0.hz),(4,sv ([])),(5,jv 0),(7,pq w3.hz),(29,lv),(30,jv (ps.length:Int)),(31,jv (k:Int))] [] a∧St No w0 [bld 162 w3.hz (pq w3.hz) v (encX ps k),blk w0.hz [jv x.signer,jv x.holder,jv x.rf,jv x.rt,jv x.carrier,jv x.serial,jv x.sf,jv x.st,sv x.sig] 90] w) _ ⟨0,v4,O,Ah _,Y.pick [2,4,5,7,29,30,31],U.select [0,1] de⟩ ?_
 rintro _ a w7 ⟨k,v,rfl,hk,Y,U⟩
 refine aa λ_ G12=>wlv Y (v_lt O O) λa Y=>G12<|ah λ_ G13=>?_
 refine az Y O (λhc5=>?_) (λhc5=>?_)
 ·have hkx:k<ps.length:=by omega
  have hpk:=lT hfo _ (bC (d:=Pxy.z) hkx)
  have hsk:=hop _ (bC (d:=Pxy.z) hkx)
  refine ar<|G13<|ah λ_ G14=>aw<|aa λ_ G15=>nv Y<|zM ((ai (i:=(k:Int)) (sT:=91) (U.arg hlv) O O (runUnderlying91 _) (sizeOf144 _) om BQ).as (v':=slAddr lv (k*7)) O)<|zM ((bN (U.arg hlv) (i:=k) BQ O (isAgg144 _) (sizeOf144 _)).as (v':=.agg #[jv ((ps.getD k Pxy.z).frm),jv ((ps.getD k Pxy.z).to),jv ((ps.getD k Pxy.z).rf),jv ((ps.getD k Pxy.z).rt),jv ((ps.getD k Pxy.z).sf),jv ((ps.getD k Pxy.z).st),sv ((ps.getD k Pxy.z).sig)]) CB)<|λa Y=>aE Y U (zeroValue144 _) [jv 0,jv 0,jv 0,jv 0,jv 0,jv 0,.string (⟨#[]⟩)] O λa w8 Y U=>?_
  refine aB 0 Y U [jv ((ps.getD k Pxy.z).frm),jv ((ps.getD k Pxy.z).to),jv ((ps.getD k Pxy.z).rf),jv ((ps.getD k Pxy.z).rt),jv ((ps.getD k Pxy.z).sf),jv ((ps.getD k Pxy.z).st),sv ((ps.getD k Pxy.z).sig)] O (sizeOf144 _) λa w9 Y U=>G15<|aa λ_ G16=>?_
  refine wlv Y (ap (U.g 0 O) O (isAgg144 _) (sizeOf144 _)) λa Y=>br (R:=λu e'=>u=.tuple #[]∧∃v2,e'=bld 162 w3.hz (pq w3.hz) v2 ((encX ps k)++(ps.getD k Pxy.z).content)) 1 Y U O de call93 O (λh=>(jN 162 w3.hz _ _ _ (ps.getD k Pxy.z) _ kr (.inr O) (Pxy.smalls_of hpk) (by have:=jp (k:=k) h4 hop; omega) h).mono λu w ⟨h1,v2,h2⟩=>⟨_,⟨h1,v2,O⟩,h2⟩) ?_
  clear Y U
  rintro a w10 _ _ ⟨rfl,v6,rfl⟩ Y U
  try dsimp only at U
  replace U:=U.n3 O
  refine G16<|aj ?_
  refine nv Y<|zM (ac (v:=pq w3.hz) O kr)<|zM (ac (v:=po w7.hz 6) O kr)<|zM (ld U 0 O O (isAgg9 _) O)<|λa Y=>br (R:=λu e'=>u=.tuple #[jv (((ps.getD k Pxy.z).sig).length:Int),.nilIface]∧∃v2,e'=bld 162 w3.hz (pq w3.hz) v2 (((encX ps k)++(ps.getD k Pxy.z).content)++((ps.getD k Pxy.z).sig))) 1 Y U O de call94 O (λh=>(gl 162 w3.hz _ _ _ ((ps.getD k Pxy.z).sig) _ kr (.inr O) (by intro h; have h9:=Ap List.length h; rw[Aa] at h9; omega) (by have h7:=jp (k:=k) h4 hop; have h8:=fM (ps.getD k Pxy.z); rw[zS]; omega) h).mono λu w ⟨h1,v2,h2⟩=>⟨_,⟨h1,v2,O⟩,h2⟩) ?_
  clear Y U
  rintro a w11 _ _ ⟨rfl,v7,rfl⟩ Y U
  try dsimp only at U
  replace U:=U.n3 O
  refine ab<|G14 ?_
  replace U:=U.k2 6 O
  refine aj<|nv (Y.p7 2 4 5 7 29 30 31 O)<|zM (aL O O ⟨om,om⟩)<|zN O<|λa Y=>ab ?_
  replace U:St No w0 [bld 162 w3.hz (pq w3.hz) v7 (encX ps (k+1)),blk w0.hz [jv x.signer,jv x.holder,jv x.rf,jv x.rt,jv x.carrier,jv x.serial,jv x.sf,jv x.st,sv x.sig] 90] w11:=by rw[mA hkx]; exact U
  refine⟨_,?_,k+1,v7,O,om,Y.pick [2,4,5,7,29,30,31],U.select [0,1] de⟩
  omega
 have hke:k=ps.length:=by omega
 subst hke
 refine aP<|G10<|aa λ_ G17=>wlv Y (ap (U.g 1 O) O (isAgg90 _) (sizeOf90 _)) λa Y=>br (R:=λu e'=>u=.tuple #[]∧∃v2,e'=bld 162 w3.hz (pq w3.hz) v2 ((encX ps ps.length)++x.content)) 0 Y U O de call88 O (λh=>(kU 162 w3.hz _ _ _ x _ kr (.inr O) (Wsh.smalls_of hxo) (by have:=jp (k:=ps.length) h4 hop; omega) h).mono λu w ⟨h1,v2,h2⟩=>⟨_,⟨h1,v2,O⟩,h2⟩) ?_
 clear Y U
 rintro a w12 _ _ ⟨rfl,v8,rfl⟩ Y U
 try dsimp only at U
 replace U:=U.n2 O
 refine G17 ?_
 refine aa λ_ G18=>nv (Y.p4 2 4 5 7 O)<|zM (ac (v:=pq w3.hz) O kr)<|zM (ac (v:=po w0.hz 8) O kr)<|zM (ld U 1 O O (isAgg9 _) O)<|λa Y=>br (R:=λu e'=>u=.tuple #[jv (x.sig.length:Int),.nilIface]∧∃v2,e'=bld 162 w3.hz (pq w3.hz) v2 (((encX ps ps.length)++x.content)++x.sig)) 0 Y U O de call94 O (λh=>(gl 162 w3.hz _ _ _ x.sig _ kr (.inr O) (by intro h; have h9:=Ap List.length h; rw[Aa] at h9; omega) (by have h7:=jp (k:=ps.length) h4 hop; have h8:=fP x; rw[zS]; omega) h).mono λu w ⟨h1,v2,h2⟩=>⟨_,⟨h1,v2,O⟩,h2⟩) ?_
 clear Y U
 rintro a w13 _ _ ⟨rfl,v9,rfl⟩ Y U
 try dsimp only at U
 replace U:=U.n2 O
 refine G18<|aa λ_ G19=>?_
 refine wlv Y (ac (v:=pq w3.hz) O kr) λa Y=>br (R:=λu e'=>u=sv (((encX ps ps.length)++x.content)++x.sig)∧e'=blk w3.hz [pq w3.hz,v9] 162) 0 Y U O de call95 O (λh=>(ip 162 w3.hz _ _ _ xu h).mono λu w ⟨h1,h2⟩=>⟨_,⟨h1,O⟩,h2⟩) ?_
 clear Y U
 rintro a w14 _ _ ⟨rfl,rfl⟩ Y U
 try dsimp only at U
 replace U:=U.n2 O
 refine nv Y<|zO O<|zO O<|λa Y=>G19 ?_
 replace Y:=Y.p2 4 5 O
 refine aq<|am Y results35 (ae O (ae O ag)) ?_
 exact⟨by simp only[retv]; rw[td hfo hsx hop]; try rfl,U.ext⟩
theorem p128 (i:Nat):(128:Nat) ^ i=2 ^ (7*i):=by rw[Nat.pow_mul]
theorem v_ixz {P:Program} {w:World} {L:List (Nat × Value)} {dst:Option Tmp} {T T' ty:TypeId} {pos:String} {af:Array Edge} {gd:Option (Nat × Bool)} {x y:Operand} {z:Nat} (hz:z<9223372036854775808)
  (hx:ev L x=some (jv ((z / 2:Nat):Int))) (hy:ev L y=some (jv (-((z%2:Nat):Int)))):OpV P ⟨dst,.binOp .xor T x y T',ty,pos,af,gd⟩ L w (jv (uz z)):=by
 have h:=zH (P:=P) (w:=w) (dst:=dst) (T:=T) (T':=T') (ty:=ty) (pos:=pos) (af:=af) (gd:=gd) (n:=((z / 2:Nat):Int)) (decide (z%2=1)) om om hx (hy.trans (by
  congr 2
  by_cases h:z%2=1
  ·rw[zU h,h]; rfl
  ·rw[zW h,show z%2=0 from by omega]; rfl))
 refine h.as ?_
 congr 1
 unfold uz
 by_cases h:z%2=1
 ·rw[zU h,Am rfl,Ai om]
 ·rw[zW h,Ai de,Am om]
theorem zE {f i z:Nat}:wI f i z []=none:=by cases f<;>rfl
theorem kx {s:By} {p:Nat} (h:p<s.length):s.drop p=s.getD p 0::s.drop (p+1):=by
 rw[AO h,z6,z8 h]; rfl
theorem yn {s:By} {p i z:Nat} (hi:i<9) (hp:p+i<s.length) (hb:128≤(s.getD (p+i) 0).toNat):
  wI (9- i) i z (s.drop (p+i))=wI (9- (i+1)) (i+1) (z+(s.getD (p+i) 0).toNat%128*2 ^ (7*i)) (s.drop (p+(i+1))):=by
 rw[kx hp,show 9- i=(9- (i+1))+1 from by omega,wI,Ai om,p128]; rfl
theorem rH {s:By} {p i z:Nat} (hi:i<9) (hp:p+i<s.length) (hb:(s.getD (p+i) 0).toNat<128) (h:((s.getD (p+i) 0).toNat=0∧0<i)∨uz (z+(s.getD (p+i) 0).toNat%128*2 ^ (7*i))< -4611686018427387903):
  wI (9- i) i z (s.drop (p+i))=none:=by
 rw[kx hp,show 9- i=(9- (i+1))+1 from by omega,wI,Am hb,p128,Am]
 exact h.imp_left λ⟨h1,h2⟩=>⟨UInt8.toNat_inj.1 (by rw[h1]; rfl),h2⟩
theorem sO {s:By} {p i z:Nat} (hi:i<9) (hp:p+i<s.length) (hb:(s.getD (p+i) 0).toNat<128) (h:¬((s.getD (p+i) 0).toNat=0∧0<i)) (h2:¬uz (z+(s.getD (p+i) 0).toNat%128*2 ^ (7*i))< -4611686018427387903):
  wI (9- i) i z (s.drop (p+i))=some (uz (z+(s.getD (p+i) 0).toNat%128*2 ^ (7*i)),i+1):=by
 rw[kx hp,show 9- i=(9- (i+1))+1 from by omega,wI,Am hb,p128,Ai]
 rintro (⟨h3,h4⟩|h3)
 ·exact h ⟨by rw[h3]; rfl,h4⟩
 ·exact h2 h3
theorem we {z i b:Nat} (hz:z<2 ^ (7*i)) (hb:b<128):z+b*2 ^ (7*i)<2 ^ (7*(i+1)):=by
 have e:2 ^ (7*(i+1))=128*2 ^ (7*i):=by rw[Nat.mul_add,Nat.pow_add,Nat.mul_comm]
 rw[e]
 have:(b+1)*2 ^ (7*i)≤128*2 ^ (7*i):=Nat.mul_le_mul_right _ om
 rw[Nat.add_mul] at this
 omega
theorem z_63 {z i:Nat} (hi:i<9) (hz:z<2 ^ (7*(i+1))):z<9223372036854775808:=by
 have:(2:Nat) ^ (7*(i+1))≤2 ^ 63:=Nat.pow_le_pow_right de om
 omega
def intV (s:By) (p:Nat):Value:=match rdI (s.drop p) with
 | some (n,r)=>.tuple #[jv n,jv ((s.length- r.length:Nat):Int),jv 0]
 | none=>.tuple #[jv 0,jv 0,jv 10]
theorem gy {s:By} {p:Nat} (h:wI 9 0 0 (s.drop p)=none):intV s p=.tuple #[jv 0,jv 0,jv 10]:=by
 rw[vQ] at h
 unfold intV
 cases hr:rdI (s.drop p) with
 | none=>rfl
 | some x=>rw[hr] at h; cases h
theorem pX {s:By} {p k:Nat} {n:Int} (hp:p≤s.length) (h:wI 9 0 0 (s.drop p)=some (n,k)):intV s p=.tuple #[jv n,jv ((p+k:Nat):Int),jv 0]:=by
 rw[vQ] at h
 unfold intV
 cases hr:rdI (s.drop p) with
 | none=>rw[hr] at h; cases h
 | some x=>
  obtain⟨n2,r⟩:=x
  rw[hr] at h
  simp only[Option.map_some,Option.some.injEq,Prod.mk.injEq] at h
  obtain⟨rfl,rfl⟩:=h
  obtain⟨_,h2⟩:=eF hr
  have h3:=Ap List.length h2
  rw[Ag,zS] at h3
  have h4:=(bQ n2).1
  simp only
  rw[Ag,show p+(s.length- p- r.length)=s.length- r.length from by omega]
theorem je (s:By) (p:Nat) (w0:World) (hp:p≤s.length) (hsl:s.length≤1000000):
  Ret Tryz.prog 63 #[sv s,jv (p:Int)] w0 λv w=>v=intV s p∧Ext No w0 w:=by
 refine BF func63 O ntmps63 (lb O) λa Y U=>?_
 refine aa λ_ G1=>nv Y<|zO O<|zO O<|zO O<|λa Y=>G1<|ah λ_ G2=>?_
 refine aa λ_ G3=>nv Y<|zN O<|zM ((v_lt O O).asb (b':=false) CI)<|zN O<|zP (au O)<|zP (au O)<|zP (bp O O (runUnderlying9 _))<|zP ((v_gt O O).asb (b':=false) CI)<|zM (al O O)<|λa Y=>G3 ?_
 replace Y:=Y.p6 0 1 4 5 6 18 O
 refine aG Y O ?_
 refine ar<|G2<|aa λ_ G4=>wla Y O λa Y=>G4<|ah λ_ G5=>?_
 refine aa λ_ G6=>wlm Y O λa Y=>G6<|aw ?_
 refine aZ (λm a w=>∃(i:Nat) (z:Nat),m=9- i∧(i≤9)∧(wI 9 0 0 (s.drop p)=wI (9- i) i z (s.drop (p+i)))∧(z<2 ^ (7*i))∧Fr 67 [(0,sv s),(1,jv (p:Int)),(7,.int .u64 (z:Int)),(19,jv (i:Int))] [] a∧St No w0 [] w) _ ⟨0,0,O,de,O,de,Y.pick [0,1,7,19],U.select [] de⟩ ?_
 rintro _ a w1 ⟨i,z,rfl,hi,hw,hz,Y,U⟩
 refine aa λ_ G7=>wlv Y (v_lt O O) λa Y=>G7<|ah λ_ G8=>?_
 refine az Y O (λhc1=>?_) (λhc1=>?_)
 ·refine ar<|G8<|ah λ_ G9=>aw<|aa λ_ G10=>nv Y<|zN O<|zO O<|λa Y=>G10<|ah λ_ G11=>?_
  refine aa λ_ G12=>nv Y<|zN O<|zN O<|zM (aL O O ⟨om,om⟩)<|zN O<|zM (bp O O (runUnderlying9 _))<|zM (v_ge O O)<|λa Y=>G12 ?_
  replace Y:=Y.p6 0 1 7 19 8 27 O
  refine az Y O (λhc2=>?_) (λhc2=>?_)
  ·have hwn:wI 9 0 0 (s.drop p)=none:=by rw[hw,List.drop_eq_nil_of_le om]; exact zE
   refine aP<|G5<|aa λ_ G13=>nv Y<|zO O<|zO O<|zO O<|λa Y=>G13 ?_
   replace Y:=Y.p3 4 5 6 O
   refine aq<|am Y results63 (ae O (ae O (ae O ag))) ?_
   exact⟨(gy hwn).symm,U.ext⟩
  have hpi:p+i<s.length:=by omega
  have hm8:(s.getD (p+i) 0).toNat%128<128:=Nat.mod_lt _ de
  have hzl:=we hz hm8
  have hz6:=z_63 (i:=i) om hzl
  refine ar<|G11<|aa λ_ G14=>nv Y<|zN O<|zN O<|zN O<|zM (aL O O ⟨om,om⟩)<|zM (gn (k:=(p+i)) O O (runUnderlying9 _) om om)<|zO O<|λa Y=>G14 ?_
  refine aa λ_ G15=>nv (Y.p6 0 1 7 19 8 9 O)<|zN O<|zN O<|zM (zj (a:=s.getD (p+i) 0) (b:=(127:UInt8)) O O)<|zM ((nN O kr underlying190).asi (m':=(((s.getD (p+i) 0).toNat%128:Nat):Int)) (by rw[y127]))<|zN O<|zM ((ej O O ⟨om,om⟩).asi (m':=((7*i:Nat):Int)) om)<|zM ((qN (m:=(s.getD (p+i) 0).toNat%128) (n:=7*i) om O O).asi (m':=(((s.getD (p+i) 0).toNat%128*2 ^ (7*i):Nat):Int)) (by rw[Nat.mod_eq_of_lt om]))<|zM (v_uor (m:=z) (n:=(s.getD (p+i) 0).toNat%128) (k:=7*i) hz om O O)<|zO O<|λa Y=>G15 ?_
  replace Y:=Y.p6 0 1 19 8 9 7 O
  refine ah λ_ G16=>aa λ_ G17=>nv Y<|zN O<|zM (v_ge O O)<|λa Y=>G17<|az Y O (λhc3=>?_) (λhc3=>?_)
  ·refine aP<|G9<|aj<|nv Y<|zM (aL O O ⟨om,om⟩)<|zN O<|λa Y=>ab ?_
   refine⟨_,?_,i+1,(z+(s.getD (p+i) 0).toNat%128*2 ^ (7*i)),O,om,(by rw[hw]; exact yn om hpi om),hzl,Y.pick [0,1,7,19],U.select [] de⟩
   omega
  refine ar<|G16<|aa λ_ G18=>nv Y<|zN O<|zM ((qP (m:=(z+(s.getD (p+i) 0).toNat%128*2 ^ (7*i))) (n:=1) de O O).asi (m':=(((z+(s.getD (p+i) 0).toNat%128*2 ^ (7*i)) / 2:Nat):Int)) O)<|zM (gZ (n:=(z+(s.getD (p+i) 0).toNat%128*2 ^ (7*i)) / 2) om O kr underlying3)<|zN O<|zM ((wY (m:=(z+(s.getD (p+i) 0).toNat%128*2 ^ (7*i))) (k:=1) om de O O).asi (m':=(((z+(s.getD (p+i) 0).toNat%128*2 ^ (7*i))%2:Nat):Int)) O)<|zM (gZ (n:=(z+(s.getD (p+i) 0).toNat%128*2 ^ (7*i))%2) om O kr underlying3)<|zM (j2 O om om)<|zM (v_ixz (z:=(z+(s.getD (p+i) 0).toNat%128*2 ^ (7*i))) om O O)<|zO O<|λa Y=>G18 ?_
  refine ah λ_ G19=>aa λ_ G20=>nv (Y.p7 0 1 19 8 9 7 10 O)<|zN O<|zM (v_eq O O)<|zN O<|λa Y=>?_
  rcases Decidable.em (((s.getD (p+i) 0).toNat:Int)=0) with hb4|hb4
  ·rw[zU hb4] at Y
   refine nv Y<|zP (au O)<|zP (v_gt O O)<|zM (ay O O)<|zN O<|λa Y=>?_
   rcases Decidable.em (0<(i:Int)) with hb5|hb5
   ·rw[zU hb5] at Y
    have hwn:wI 9 0 0 (s.drop p)=none:=by rw[hw]; exact rH om hpi om (.inl ⟨om,om⟩)
    refine nv Y<|zQ<|zQ<|zM (ay O O)<|λa Y=>G20 ?_
    replace Y:=Y.p7 0 1 19 8 7 10 60 O
    refine aM Y O ?_
    refine aP<|G5<|aa λ_ G21=>nv Y<|zO O<|zO O<|zO O<|λa Y=>G21 ?_
    replace Y:=Y.p3 4 5 6 O
    refine aq<|am Y results63 (ae O (ae O (ae O ag))) ?_
    exact⟨(gy hwn).symm,U.ext⟩
   rw[zW hb5] at Y
   have hng:¬((s.getD (p+i) 0).toNat=0∧0<i):=by omega
   refine nv Y<|zP (au O)<|zP (v_lt O O)<|zM (al O O)<|λa Y=>G20 ?_
   replace Y:=Y.p7 0 1 19 8 7 10 60 O
   refine az Y O (λhc6=>?_) (λhc6=>?_)
   ·have hwn:wI 9 0 0 (s.drop p)=none:=by rw[hw]; exact rH om hpi om (.inr hc6)
    refine aP<|G5<|aa λ_ G22=>nv Y<|zO O<|zO O<|zO O<|λa Y=>G22 ?_
    replace Y:=Y.p3 4 5 6 O
    refine aq<|am Y results63 (ae O (ae O (ae O ag))) ?_
    exact⟨(gy hwn).symm,U.ext⟩
   have hwg:=hw.trans (sO om hpi om om hc6)
   refine ar<|G19<|aa λ_ G23=>nv Y<|zN O<|zN O<|zN O<|zM (aL O O ⟨om,om⟩)<|zM (aL O O ⟨om,om⟩)<|zO O<|zO O<|zO O<|λa Y=>G23 ?_
   replace Y:=Y.p7 0 1 19 7 4 5 6 O
   refine aq<|am Y results63 (ae O (ae O (ae O ag))) ?_
   exact⟨((pX hp hwg).trans (by simp only[retv]; congr 3; all_goals omega)).symm,U.ext⟩
  rw[zW hb4] at Y
  refine nv Y<|zQ<|zQ<|zM (al O O)<|zN O<|zP (au O)<|zP (v_lt O O)<|zM (al O O)<|λa Y=>G20 ?_
  replace Y:=Y.p7 0 1 19 8 7 10 60 O
  refine az Y O (λhc7=>?_) (λhc7=>?_)
  ·have hwn:wI 9 0 0 (s.drop p)=none:=by rw[hw]; exact rH om hpi om (.inr hc7)
   refine aP<|G5<|aa λ_ G24=>nv Y<|zO O<|zO O<|zO O<|λa Y=>G24 ?_
   replace Y:=Y.p3 4 5 6 O
   refine aq<|am Y results63 (ae O (ae O (ae O ag))) ?_
   exact⟨(gy hwn).symm,U.ext⟩
  have hwg:=hw.trans (sO om hpi om om hc7)
  refine ar<|G19<|aa λ_ G25=>nv Y<|zN O<|zN O<|zN O<|zM (aL O O ⟨om,om⟩)<|zM (aL O O ⟨om,om⟩)<|zO O<|zO O<|zO O<|λa Y=>G25 ?_
  replace Y:=Y.p7 0 1 19 7 4 5 6 O
  refine aq<|am Y results63 (ae O (ae O (ae O ag))) ?_
  exact⟨((pX hp hwg).trans (by simp only[retv]; congr 3; all_goals omega)).symm,U.ext⟩
 have hwn:wI 9 0 0 (s.drop p)=none:=by rw[hw,show 9- i=0 from by omega]; rfl
 refine aP<|G5<|aa λ_ G26=>nv Y<|zO O<|zO O<|zO O<|λa Y=>G26<|aq ?_
 refine am Y results63 (ae O (ae O (ae O ag))) ?_
 exact⟨(gy hwn).symm,U.ext⟩
def kdI (x:Int) (r:By):Option By:=match rdI r with
 | some (n,q)=>if n=x then some q else none
 | none=>none
def dgI (r:By):Option (By × By):=if 32≤r.length then some (r.take 32,r.drop 32) else none
section
variable {α:Type} {r q g:By} {x n:Int}
theorem lA (h:kdI x r=some q):rdI r=some (x,q):=by
 unfold kdI at h
 split at h
 ·rename_i n q2 hq
  split at h
  ·rename_i e; cases h; rw[hq,e]
  ·cases h
 ·cases h
theorem pR (h:kdI x r=none):rdI r=none∨∃n q,rdI r=some (n,q)∧¬n=x:=by
 unfold kdI at h
 split at h
 ·rename_i n q2 hq
  split at h
  ·cases h
  ·rename_i e; exact .inr ⟨n,q2,hq,e⟩
 ·rename_i hq; exact .inl hq
theorem pp {k:By→Option α} (h:kdI x r=some q):kindI x r k=k q:=by
 unfold kindI; rw[cX (lA h),Am rfl]
theorem nB {k:By→Option α} (h:kdI x r=none):kindI x r k=none:=by
 unfold kindI
 rcases pR h with h|⟨n,q,h,e⟩
 ·exact cS h
 ·rw[cX h,Ai e]
theorem nl {k:By→By→Option α} (h:dgI r=some (g,q)):getD32 r k=k g q:=by
 unfold dgI at h; unfold getD32
 split at h
 ·rename_i hl; cases h; rw[Am hl]
 ·cases h
theorem lY {k:By→By→Option α} (h:dgI r=none):getD32 r k=none:=by
 unfold dgI at h; unfold getD32
 split at h
 ·cases h
 ·rename_i hl; rw[Ai hl]
theorem dr (h:rdI r=some (n,q)):q<:+r:=by
 obtain⟨_,rfl⟩:=eF h; exact List.suffix_append _ _
theorem sN (h:kdI x r=some q):q<:+r:=dr (lA h)
theorem sQ (h:dgI r=some (g,q)):q<:+r:=by
 unfold dgI at h
 split at h
 ·cases h; exact List.drop_suffix _ _
 ·cases h
end
theorem zF {s r r2:By} {n z:Int} {w0:World} (hz:z=((s.length- r.length:Nat):Int)) (hsf:r<:+s) (hsl:s.length≤1000000) (hq:rdI r=some (n,r2)):
  Ret Tryz.prog 63 #[sv s,jv z] w0 λv w=>v=.tuple #[jv n,jv ((s.length- r2.length:Nat):Int),jv 0]∧Ext No w0 w:=by
 subst hz
 have:=je s (s.length- r.length) w0 om hsl
 unfold intV at this
 rw[←List.suffix_iff_eq_drop.1 hsf,hq] at this
 exact this
theorem xE {s r:By} {z:Int} {w0:World} (hz:z=((s.length- r.length:Nat):Int)) (hsf:r<:+s) (hsl:s.length≤1000000) (hq:rdI r=none):
  Ret Tryz.prog 63 #[sv s,jv z] w0 λv w=>v=.tuple #[jv 0,jv 0,jv 10]∧Ext No w0 w:=by
 subst hz
 have:=je s (s.length- r.length) w0 om hsl
 unfold intV at this
 rw[←List.suffix_iff_eq_drop.1 hsf,hq] at this
 exact this
theorem cB {M:Nat→Prop} {w0:World} (b:Nat) (s r r2:By) (n z:Int) (ws:World) (hz:z=((s.length- r.length:Nat):Int)) (hsf:r<:+s) (hsl:s.length≤1000000) (hq:rdI r=some (n,r2)) (U:St M w0 [blk b [sv s,jv z] 174] ws):
  Ret Tryz.prog 99 #[pq b] ws λu w=>u=jv n∧St M w0 [blk b [sv s,jv ((s.length- r2.length:Nat):Int)] 174] w:=by
 refine aC func99 O ntmps99 (lb O) λa Y=>?_
 replace Y:=Y.p1 0 O
 skip
 refine aa λ_ G1=>wla Y O λa Y=>G1<|ah λ_ G2=>?_
 refine aH (aI λw1 hxz=>?_)
 replace U:=U.grow hxz
 refine aQ (k:=0) 8 [3,7] Y ?_
 refine bI 8 (Y.p2 0 2 O) U<|pl_m O<|pl_v (aU O)<|pl_v (ac (v:=pq b) O kr)<|pl_w (λU=>ld U 0 O O (isAgg9 _) O)<|pl_m O<|pl_v (aU O)<|pl_v (ac (v:=po b 1) O kr)<|pl_w (λU=>ld U 0 O O (isAgg3 _) O) λa w2 Y U=>?_
 replace Y:=Y.p4 0 2 10 14 O
 refine ab<|aJ (k:=8) 10 [9] ?_
 refine ax Y U call63 O (zF hz hsf hsl hq) λa w3 Y U=>wlm Y O λa Y=>ab<|aQ (k:=10) 15 [12,14] Y ?_
 refine bI 5 (Y.p6 0 2 10 14 15 6 O) U<|pl_v (ak O O)<|pl_v (ak O O)<|pl_v (ak O O)<|pl_v (bX O)<|pl_v (bX O) λa w4 Y U=>?_
 replace Y:=Y.p5 0 2 18 3 4 O
 refine ab<|aJ (k:=15) 16 [15] ?_
 refine wla Y O λa Y=>ab<|aR<|G2<|ah λ_ G3=>aa λ_ G4=>nv Y<|zN O<|zM ((v_ne O O).asb (b':=false) O)<|λa Y=>G4<|aG Y O ?_
 refine ar<|G3<|aa λ_ G5=>nv Y<|zN O<|zN O<|zM (aU O)<|zM (ac (v:=po b 1) O kr)<|λa Y=>aB 0 Y U [sv s,jv ((s.length- r2.length:Nat):Int)] O (sizeOf3 _) λa w5 Y U=>G5 ?_
 refine aa λ_ G6=>nv (Y.p2 2 3 O)<|zN O<|zO O<|λa Y=>G6<|aq ?_
 refine am Y results99 (ae O ag) ?_
 exact⟨O,U.select [0] de⟩
theorem co {M:Nat→Prop} {w0:World} (b:Nat) (s r:By) (z:Int) (ws:World) (hz:z=((s.length- r.length:Nat):Int)) (hsf:r<:+s) (hsl:s.length≤1000000) (hq:rdI r=none) (U:St M w0 [blk b [sv s,jv z] 174] ws):
  Pan Tryz.prog 99 #[pq b] ws λc w=>c=[{v:=.iface 171 (.agg #[]),recovered:=false}]∧St M w0 [blk b [sv s,jv z] 174] w:=by
 refine ol func99 O ntmps99 (lb O) λa Y=>?_
 replace Y:=Y.p1 0 O
 skip
 refine aa λ_ G1=>wla Y O λa Y=>G1<|ah λ_ G2=>?_
 refine aH (aI λw1 hxz=>?_)
 replace U:=U.grow hxz
 refine aQ (k:=0) 8 [3,7] Y ?_
 refine bI 8 (Y.p2 0 2 O) U<|pl_m O<|pl_v (aU O)<|pl_v (ac (v:=pq b) O kr)<|pl_w (λU=>ld U 0 O O (isAgg9 _) O)<|pl_m O<|pl_v (aU O)<|pl_v (ac (v:=po b 1) O kr)<|pl_w (λU=>ld U 0 O O (isAgg3 _) O) λa w2 Y U=>?_
 replace Y:=Y.p4 0 2 10 14 O
 refine ab<|aJ (k:=8) 10 [9] ?_
 refine ax Y U call63 O (xE hz hsf hsl hq) λa w3 Y U=>wlm Y O λa Y=>ab<|aQ (k:=10) 15 [12,14] Y ?_
 refine bI 5 (Y.p6 0 2 10 14 15 6 O) U<|pl_v (ak O O)<|pl_v (ak O O)<|pl_v (ak O O)<|pl_v (bX O)<|pl_v (bX O) λa w4 Y U=>?_
 replace Y:=Y.p5 0 2 18 3 4 O
 refine ab<|aJ (k:=15) 16 [15] ?_
 refine wla Y O λa Y=>ab<|aR<|G2<|ah λ_ G3=>aa λ_ G4=>nv Y<|zN O<|zM ((v_ne O O).asb (b':=true) O)<|λa Y=>G4<|aM Y O ?_
 refine bK<|aW 2 ?_
 refine nv Y<|zM (aV (v:=.agg #[]) O kr)<|zM (di O underlying171)<|λa Y=>ab<|ef Y O ?_
 exact fd (X:=λc w=>c=[{v:=.iface 171 (.agg #[]),recovered:=false}]∧St M w0 [blk b [sv s,jv z] 174] w) Y ⟨O,U.select [0] de⟩
theorem sw {M:Nat→Prop} {w0:World} (b:Nat) (s r r2:By) (x z:Int) (ws:World) (hz:z=((s.length- r.length:Nat):Int)) (hsf:r<:+s) (hsl:s.length≤1000000) (hq:kdI x r=some r2) (U:St M w0 [blk b [sv s,jv z] 174] ws):
  Ret Tryz.prog 101 #[pq b,jv x] ws λu w=>u=.tuple #[]∧St M w0 [blk b [sv s,jv ((s.length- r2.length:Nat):Int)] 174] w:=by
 refine aC func101 O ntmps101 (lb O) λa Y=>?_
 replace Y:=Y.p2 0 1 O
 skip
 refine aa λ_ G1=>wlm Y O λa Y=>br (R:=λu e'=>u=jv x∧e'=blk b [sv s,jv ((s.length- r2.length:Nat):Int)] 174) 0 Y U O de call99 O (λh=>(cB b s _ r2 x _ _ hz hsf hsl (lA hq) h).mono λu w ⟨h1,h2⟩=>⟨_,⟨h1,O⟩,h2⟩) ?_
 clear Y U
 rintro a w1 _ _ ⟨rfl,rfl⟩ Y U
 try dsimp only at U
 replace U:=U.n1 O
 refine nv Y<|zN O<|zM ((v_ne O O).asb (b':=false) sm)<|λa Y=>G1<|aG Y O ?_
 refine ar<|cY Y results101 ag ?_
 exact⟨O,U.select [0] de⟩
theorem pO {M:Nat→Prop} {w0:World} (b:Nat) (s r:By) (x z:Int) (ws:World) (hz:z=((s.length- r.length:Nat):Int)) (hsf:r<:+s) (hsl:s.length≤1000000) (hq:kdI x r=none) (U:St M w0 [blk b [sv s,jv z] 174] ws):
  Pan Tryz.prog 101 #[pq b,jv x] ws λc w=>c=[{v:=.iface 171 (.agg #[]),recovered:=false}]∧Ext M w0 w:=by
 refine ol func101 O ntmps101 (lb O) λa Y=>?_
 replace Y:=Y.p2 0 1 O
 skip
 refine bY λ_ G1 hP1=>aW 1 ?_
 refine wlm Y O λa Y=>ab ?_
 rcases pR hq with hq1|⟨n,r2,hq1,hnx⟩
 ·refine cQ (X:=λc=>c=[{v:=.iface 171 (.agg #[]),recovered:=false}]) 0 Y U O call99 O (λh=>(co b s r z _ hz hsf hsl hq1 h).mono λe w ⟨c,h1,h2,h3⟩=>⟨c,h1,_,h2,h3⟩) ?_
  clear U
  rintro _ w1 e9 rfl U
  refine hP1 _ _ _ ?_
  exact fd (X:=λc w=>c=[{v:=.iface 171 (.agg #[]),recovered:=false}]∧Ext M w0 w) Y ⟨O,U.ext⟩
 refine aW 1 ?_
 refine br (R:=λu e'=>u=jv n∧e'=blk b [sv s,jv ((s.length- r2.length:Nat):Int)] 174) 0 Y U O de call99 O (λh=>(cB b s _ r2 n _ _ hz hsf hsl hq1 h).mono λu w ⟨h1,h2⟩=>⟨_,⟨h1,O⟩,h2⟩) ?_
 clear Y U
 rintro a w2 _ _ ⟨rfl,rfl⟩ Y U
 try dsimp only at U
 replace U:=U.n1 O
 refine ab<|dN<|nv Y<|zN O<|zM (v_ne O O)<|λa Y=>G1<|cN Y O (λhc1=>?_) (λhc1=>?_)
 ·refine bK<|aW 2 ?_
  refine nv Y<|zM (aV (v:=.agg #[]) O kr)<|zM (di O underlying171)<|λa Y=>ab<|ef Y O ?_
  exact fd (X:=λc w=>c=[{v:=.iface 171 (.agg #[]),recovered:=false}]∧Ext M w0 w) Y ⟨O,U.ext⟩
 exact absurd hc1 hnx
theorem wo {r g q:By} (h:dgI r=some (g,q)):32≤r.length∧q.length+32=r.length∧g=r.take 32:=by
 unfold dgI at h
 split at h
 ·rename_i hl; cases h; exact⟨hl,by rw[Ag]; omega,rfl⟩
 ·cases h
theorem zv {s r g q:By} (h:dgI r=some (g,q)) (hs:r<:+s):g=(s.drop (s.length- r.length)).take (s.length- r.length+32- (s.length- r.length)):=by
 rw[←List.suffix_iff_eq_drop.1 hs,show s.length- r.length+32- (s.length- r.length)=32 from by omega]; exact (wo h).2.2
theorem dg_no {r:By} (h:dgI r=none):r.length<32:=by
 unfold dgI at h
 split at h
 ·cases h
 ·omega
theorem wc {M:Nat→Prop} {w0:World} (b:Nat) (s r r2 g:By) (z:Int) (ws:World) (hz:z=((s.length- r.length:Nat):Int)) (hsf:r<:+s) (hsl:s.length≤1000000) (hq:dgI r=some (g,r2)) (U:St M w0 [blk b [sv s,jv z] 174] ws):
  Ret Tryz.prog 102 #[pq b] ws λu w=>u=sv g∧St M w0 [blk b [sv s,jv ((s.length- r2.length:Nat):Int)] 174] w:=by
 have hsu:=hsf.length_le
 obtain⟨hd1,hd2, -⟩:=wo hq
 have hzz:=hz
 refine aC func102 O ntmps102 (lb O) λa Y=>?_
 replace Y:=Y.p1 0 O
 skip
 refine aa λ_ G1=>wla Y O λa Y=>G1<|ah λ_ G2=>?_
 refine ah λ_ G3=>aH (aI λw1 hxz=>?_)
 replace U:=U.grow hxz
 refine aQ (k:=0) 9 [4,8] Y ?_
 refine bI 9 (Y.p2 0 2 O) U<|pl_m O<|pl_v (aU O)<|pl_v (ac (v:=pq b) O kr)<|pl_w (λU=>ld U 0 O O (isAgg9 _) O)<|pl_v (bp O O (runUnderlying9 _))<|pl_m O<|pl_v (aU O)<|pl_v (ac (v:=po b 1) O kr)<|pl_w (λU=>ld U 0 O O (isAgg3 _) O) λa w2 Y U=>?_
 replace Y:=Y.p4 0 2 8 12 O
 refine ab<|aJ (k:=9) 11 [10] ?_
 refine nv Y<|zM (bJ O O ⟨om,om⟩)<|zM ((v_lt O O).asb (b':=false) (by exact zW (by rw[hz]; omega)))<|λa Y=>ab<|aR<|G3<|aG Y O ?_
 refine ar<|G2<|ah λ_ G4=>aH (aI λw3 hxz=>?_)
 replace U:=U.grow hxz
 refine aQ (k:=0) 13 [3,7,12] Y ?_
 refine bI 13 (Y.p6 0 2 8 12 13 14 O) U<|pl_m O<|pl_v (aU O)<|pl_v (ac (v:=pq b) O kr)<|pl_w (λU=>ld U 0 O O (isAgg9 _) O)<|pl_m O<|pl_v (aU O)<|pl_v (ac (v:=po b 1) O kr)<|pl_w (λU=>ld U 0 O O (isAgg3 _) O)<|pl_m O<|pl_v (aU O)<|pl_v (ac (v:=po b 1) O kr)<|pl_w (λU=>ld U 0 O O (isAgg3 _) O)<|pl_v ((aL O O ⟨om,om⟩).asi (m':=((s.length- r2.length:Nat):Int)) om) λa w4 Y U=>?_
 replace Y:=Y.p5 0 2 20 24 29 O
 refine ab<|aJ (k:=13) 15 [14] ?_
 refine nv Y<|zM ((iM (xs:=s) (l:=s.length- r.length) (h:=s.length- r.length+32) O O O underlying9 (.inr ⟨.i64,Ap (λi=>some (jv i)) hz⟩) (.inr ⟨.i64,Ap (λi=>some (jv i)) om⟩) om om).as (v':=sv g) (by rw[←zv hq hsf]))<|zO O<|λa Y=>ab<|aR<|G4<|aa λ_ G5=>nv Y<|zN O<|zM (aU O)<|zM (ac (v:=po b 1) O kr)<|zM (ld U 0 O O (isAgg3 _) O)<|zM ((aL O O ⟨om,om⟩).asi (m':=((s.length- r2.length:Nat):Int)) om)<|zM (aU O)<|zM (ac (v:=po b 1) O kr)<|λa Y=>aB 0 Y U [sv s,jv ((s.length- r2.length:Nat):Int)] O (sizeOf3 _) λa w5 Y U=>G5 ?_
 refine aa λ_ G6=>nv (Y.p2 2 3 O)<|zN O<|zO O<|λa Y=>G6<|aq ?_
 refine am Y results102 (ae O ag) ?_
 exact⟨O,U.select [0] de⟩
theorem sy {M:Nat→Prop} {w0:World} (b:Nat) (s r:By) (z:Int) (ws:World) (hz:z=((s.length- r.length:Nat):Int)) (hsf:r<:+s) (hsl:s.length≤1000000) (hq:dgI r=none) (U:St M w0 [blk b [sv s,jv z] 174] ws):
  Pan Tryz.prog 102 #[pq b] ws λc w=>c=[{v:=.iface 171 (.agg #[]),recovered:=false}]∧St M w0 [blk b [sv s,jv z] 174] w:=by
 have hsu:=hsf.length_le
 have hd1:=dg_no hq
 refine ol func102 O ntmps102 (lb O) λa Y=>?_
 replace Y:=Y.p1 0 O
 skip
 refine aa λ_ G1=>wla Y O λa Y=>G1<|ah λ_ G2=>?_
 refine ah λ_ G3=>aH (aI λw1 hxz=>?_)
 replace U:=U.grow hxz
 refine aQ (k:=0) 9 [4,8] Y ?_
 refine bI 9 (Y.p2 0 2 O) U<|pl_m O<|pl_v (aU O)<|pl_v (ac (v:=pq b) O kr)<|pl_w (λU=>ld U 0 O O (isAgg9 _) O)<|pl_v (bp O O (runUnderlying9 _))<|pl_m O<|pl_v (aU O)<|pl_v (ac (v:=po b 1) O kr)<|pl_w (λU=>ld U 0 O O (isAgg3 _) O) λa w2 Y U=>?_
 replace Y:=Y.p4 0 2 8 12 O
 refine ab<|aJ (k:=9) 11 [10] ?_
 refine nv Y<|zM (bJ O O ⟨om,om⟩)<|zM ((v_lt O O).asb (b':=true) (by exact zU (by rw[hz]; omega)))<|λa Y=>ab<|aR<|G3<|aM Y O ?_
 refine bK<|aW 2 ?_
 refine nv Y<|zM (aV (v:=.agg #[]) O kr)<|zM (di O underlying171)<|λa Y=>ab<|ef Y O ?_
 exact fd (X:=λc w=>c=[{v:=.iface 171 (.agg #[]),recovered:=false}]∧St M w0 [blk b [sv s,jv z] 174] w) Y ⟨O,U.select [0] de⟩
end Go.Proofs.YtliklcmddmpdfaaGreatDoor
namespace Go.Proofs.YtliklcmddmpdfaaGreatDoor
open Go.RowKit Go.PW _root_.Go.Proofs.Tryz
theorem tP {P:Program} {w:World} {L:List (Nat × Value)} {dst:Option Tmp} {T T' ty:TypeId} {pos:String} {af:Array Edge} {x y:Operand} (hx:ev L x=some .nilIface) (hy:ev L y=some .nilIface) (hr:(binOp .eql T .nilIface .nilIface).run P w=.ok (.bool true) w) (hg:(eqGuard .eql T x y .nilIface .nilIface).run P w=.ok () w):OpV P ⟨dst,.binOp .eql T x y T',ty,pos,af,none⟩ L w (.bool true):=
 ⟨rfl,λN df a h=>by
  simp only[execOp,h.eval hx,h.eval hy,Av,hg,hr,Al]; rfl⟩
theorem cj {M:Nat→Prop} {w0:World} (b2 b3 b4:Nat) (c0 c1 c2 c3 c4 c5 c6 c7 c8 c9 c10:Value) (ws:World) (U:St M w0 [blk b2 [c0,c1,c2,c3,c4,c5,c6,c7,c8] 90,blk b3 [c9] 91,blk b4 [c10] 41] ws):
  CallsDIn Fence.wide 0 Tryz.prog 98 #[pq b2,pq b3,pq b4] (.panicking [{v:=.iface 171 (.agg #[]),recovered:=false}]) ws λe u' w=>u'=(.panicking [{v:=.iface 171 (.agg #[]),recovered:=true}])∧∃x,e=.returned x∧St M w0 [blk b2 [jv 0,jv 0,jv 0,jv 0,jv 0,jv 0,jv 0,jv 0,sv ([]:By)] 90,blk b3 [.slice none 0 0] 91,blk b4 [jv 150] 41] w:=by
 refine oL (args:=[pq b2,pq b3,pq b4]) func98 O ntmps98 (lb O) O O de (λ_ _=>O) (.inr ⟨O,O⟩) λa Y=>?_
 replace Y:=Y.p4 6 0 1 2 O
 skip
 refine aw<|aa λ_ G1=>wlv Y (lu O O kr kr) λa Y=>G1<|aG Y O ?_
 refine aa λ_ G2=>nv Y<|zM (iL O underlying171)<|zM (ak O O)<|zM (ak O O)<|λa Y=>G2<|aM Y O ?_
 refine aa λ_ G3=>aE Y U (zeroValue171 _) [] O λa w1 Y U=>aB 0 Y U [] O (sizeOf171 _) λa w2 Y U=>G3 ?_
 replace U:=U.k3 14 O
 refine aj<|wlv (Y.p3 0 1 2 O) (aV (v:=.agg #[jv 0,jv 0,jv 0,jv 0,jv 0,jv 0,jv 0,jv 0,.string (⟨#[]⟩)]) O kr) λa Y=>aB 0 Y U [jv 0,jv 0,jv 0,jv 0,jv 0,jv 0,jv 0,jv 0,.string (⟨#[]⟩)] O (sizeOf90 _) λa w3 Y U=>aB 1 Y U [.slice none 0 0] O (sizeOf91 _) λa w4 Y U=>aB 2 Y U [jv 150] O (sizeOf41 _) λa w5 Y U=>ab ?_
 refine jz Y results98 ag ?_
 exact U.select [0,1,2] de
theorem xd (b2 b3 b4:Nat) (ws:World):
  CallsDIn Fence.wide 0 Tryz.prog 98 #[pq b2,pq b3,pq b4] .returning ws λe u' w=>u'=.returning∧∃x,e=.returned x∧Ext No ws w:=by
 refine oL (args:=[pq b2,pq b3,pq b4]) func98 O ntmps98 (lb O) O O de (λ_ _=>O) (.inl ⟨O,O,O⟩) λa Y=>?_
 replace U:St No ws [] ws:=St.init ws
 refine aw<|aa λ_ G1=>wlv (Y.p4 6 0 1 2 O) (tP O O kr kr) λa Y=>G1<|aM Y O ?_
 refine aj<|wla Y O λa Y=>ab ?_
 refine jz Y results98 ag ?_
 exact U.ext
theorem qm {M:Nat→Prop} {w0 w:World} (h:Ext M w0 w):St M w0 [join []] w:=
 ⟨h,λe he=>by rw[Aq.1 he]; exact⟨⟨λe he=>(by cases he),List.Pairwise.nil⟩,λk ⟨e,he,_⟩=>(by cases he)⟩,List.pairwise_singleton _ _⟩
theorem wB {l:List Pxy} {w:Wsh} {r:By} (h:r≠[]):shutH l w r=none:=Ai λhh=>h hh.1
theorem wE {l:List Pxy} {w:Wsh} {r:By} (h:ce w l=false):shutH l w r=none:=Ai λhh=>by rw[h] at hh; cases hh.2
theorem wp {l:List Pxy} {w:Wsh} {r:By} (h1:r=[]) (h2:ce w l=true):shutH l w r=some (w,l):=Am ⟨h1,h2⟩
theorem xP {n a b:Int} (h:inB n a b=true):a≤n∧n≤b:=by simpa [inB] using h
theorem lC (s:By) (w0:World) (hsl:s.length≤1000000):
  Ret Tryz.prog 39 #[sv s] w0 λv w=>(∃x ps,bL s=some (x,ps)∧MemR w0 (λlv:Value=>.tuple #[.agg x.cells.toArray,lv,jv 0]) (λlv=>[own lv 144 7 (ps.map Pxy.cells)]) (λ_=>True) v w)∨(bL s=none∧v=.tuple #[.agg #[jv 0,jv 0,jv 0,jv 0,jv 0,jv 0,jv 0,jv 0,sv ([]:By)],.slice none 0 0,jv 150]∧Ext No w0 w):=by
 refine sx func39 O ntmps39 (lb O) λa Y=>?_
 replace U:St No w0 [] w0:=St.init w0
 refine aa λ_ G1=>aE (Y.p1 0 O) U (zeroValue90 _) [jv 0,jv 0,jv 0,jv 0,jv 0,jv 0,jv 0,jv 0,.string (⟨#[]⟩)] O λa w1 Y U=>aE Y U (zeroValue91 _) [.slice none 0 0] O λa w2 Y U=>aE Y U (zeroValue41 _) [jv 0] O λa w3 Y U=>G1<|aa λ_ G2=>?_
 refine wlv Y (ck O O) λa Y=>pL Y O λa Y=>G2<|aa λ_ G3=>?_
 refine nv Y<|zN O<|zM (aV (v:=.agg #[sv s,jv 0]) O kr)<|λa Y=>aS Y U O [sv s,jv 0] O λa w4 Y U=>wla Y O λa Y=>G3 ?_
 have hd0:bL s=getI s (λn r=>if inB n 0 4=true then rdPxys n.toNat [] r tailH else none):=rfl
 refine bY λ_ G4 hP4=>aW 1 ?_
 refine wlm Y O λa Y=>ab ?_
 rcases hq1:rdI s with _|⟨n3,r2⟩
 ·have hdn:=hd0.trans (cS hq1)
  refine cQ (X:=λc=>c=[{v:=.iface 171 (.agg #[]),recovered:=false}]) 0 Y U O call99 O (λh=>(co w3.hz s s 0 _ sm (List.suffix_refl s) hsl hq1 h).mono λe w ⟨c,h1,h2,h3⟩=>⟨c,h1,_,h2,h3⟩) ?_
  clear U
  rintro _ w5 e9 rfl U
  refine hP4 _ _ _ ?_
  replace U:=U.s3 [3,2,1] de rfl
  exact bE Y call98 (cj _ _ _ _ _ _ _ _ _ _ _ _ _ _ _ U) results39 (λw9 U=>⟨(ao O (bd (U.g 0 O) (isAgg90 _) (sizeOf90 _)) (ao O (aN (U.g 1 O) (isAgg91 _)) (ao O (aN (U.g 2 O) (isAgg41 _)) ag))),.inr ⟨hdn,O,U.ext⟩⟩)
 have hd4:=hd0.trans (cX hq1)
 have hs5:=(dr hq1).trans (List.suffix_refl s)
 refine aW 1 ?_
 refine br (R:=λu e'=>u=jv n3∧e'=blk w3.hz [sv s,jv ((s.length- r2.length:Nat):Int)] 174) 0 Y U O de call99 O (λh=>(cB w3.hz s s r2 n3 0 _ sm (List.suffix_refl s) hsl hq1 h).mono λu w ⟨h1,h2⟩=>⟨_,⟨h1,O⟩,h2⟩) ?_
 clear Y U
 rintro a w6 _ _ ⟨rfl,rfl⟩ Y U
 try dsimp only at U
 replace U:=U.n4 O
 refine ab<|dN<|wla Y O λa Y=>G4 ?_
 replace Y:=Y.p6 0 2 3 4 5 6 O
 refine ah λ_ G5=>aa λ_ G6=>wlm Y O λa Y=>ax Y U call100 O (da n3 0 4 _) λa w7 Y U=>wlv Y (bB O) λa Y=>G6<|bF Y O (λhc6=>?_) (λhc6=>?_)
 ·try simp only[qz] at hc6
  have hdn:bL s=none:=hd4.trans (Ai (by rw[hc6]; decide))
  refine bK<|aW 2 ?_
  refine nv Y<|zM (aV (v:=.agg #[]) O kr)<|zM (di O underlying171)<|λa Y=>ab<|ef Y O ?_
  replace U:=U.s3 [3,2,1] de rfl
  exact bE Y call98 (cj _ _ _ _ _ _ _ _ _ _ _ _ _ _ _ U) results39 (λw9 U=>⟨(ao O (bd (U.g 0 O) (isAgg90 _) (sizeOf90 _)) (ao O (aN (U.g 1 O) (isAgg91 _)) (ao O (aN (U.g 2 O) (isAgg41 _)) ag))),.inr ⟨hdn,O,U.ext⟩⟩)
 try simp only[qz] at hc6
 have hd9:=hd4.trans (Am hc6)
 have hib:=xP hc6
 refine ar<|G5<|ah λ_ G7=>?_
 replace U:St No w0 [own (.slice none 0 0) 144 7 (([]:List Pxy).map Pxy.cells),blk w3.hz [sv s,jv ((s.length- r2.length:Nat):Int)] 174,blk w2.hz [jv 0] 41,blk w1.hz [.slice none 0 0] 91,blk w0.hz [jv 0,jv 0,jv 0,jv 0,jv 0,jv 0,jv 0,jv 0,.string (⟨#[]⟩)] 90] w7:=U.nil_own
 refine aa λ_ G8=>nv Y<|zN O<|zN O<|λa Y=>G8<|aw ?_
 refine aZ (λm a w=>∃(k:Nat) (acc:List Pxy) (r:By) (lv:Value),m=n3.toNat- k∧((k:Int)≤n3)∧(bL s=rdPxys (n3.toNat- k) acc r tailH)∧(r<:+s)∧(acc.length=k)∧Fr 98 [(0,sv s),(2,pq w0.hz),(3,pq w1.hz),(4,pq w2.hz),(5,pq w3.hz),(23,jv n3),(24,jv (k:Int))] [{target:=.fn (.func 98) #[pq w0.hz,pq w1.hz,pq w2.hz],args:=#[]}] a∧St No w0 [blk w3.hz [sv s,jv ((s.length- r.length:Nat):Int)] 174,blk w0.hz [jv 0,jv 0,jv 0,jv 0,jv 0,jv 0,jv 0,jv 0,.string (⟨#[]⟩)] 90,blk w1.hz [lv] 91,blk w2.hz [jv 0] 41,own lv 144 7 ((acc).map Pxy.cells)] w) _ ⟨0,[],r2,.slice none 0 0,O,om,hd9,hs5,O,Y.pick [0,2,3,4,5,23,24],U.select [1,4,3,2,0] de⟩ ?_
 rintro _ a w8 ⟨k,acc,r,lv,rfl,hk,hdl,hsl2,hal,Y,U⟩
 refine aa λ_ G9=>wlv Y (v_lt O O) λa Y=>G9<|ah λ_ G10=>?_
 refine az Y O (λhc7=>?_) (λhc7=>?_)
 ·obtain⟨mm,hm⟩:∃m,n3.toNat- k=m+1:=⟨n3.toNat- k- 1,by omega⟩
  rw[hm] at hdl
  have hdk:bL s=kindI 2 r _:=hdl
  refine ar<|G10<|ah λ_ G11=>aw<|aa λ_ G12=>aE Y U (zeroValue144 _) [jv 0,jv 0,jv 0,jv 0,jv 0,jv 0,.string (⟨#[]⟩)] O λa w9 Y U=>G12<|bY λ_ G13 hP13=>?_
  refine aW 1 ?_
  refine wlm Y O λa Y=>ab ?_
  rcases hq8:kdI 2 r with _|r9
  ·have hdn:=hdk.trans (nB hq8)
   refine cQ (X:=λc=>c=[{v:=.iface 171 (.agg #[]),recovered:=false}]) 1 Y U O call101 O (λh=>(pO w3.hz s r 2 ((s.length- r.length:Nat):Int) _ O hsl2 hsl hq8 h).mono λe w ⟨c,h1,h2,h3⟩=>⟨c,h1,_,h2,qm h3⟩) ?_
   clear U
   rintro _ w10 e9 rfl U
   refine hP13 _ _ _ ?_
   replace U:=U.s3 [2,3,4] de rfl
   exact bE Y call98 (cj _ _ _ _ _ _ _ _ _ _ _ _ _ _ _ U) results39 (λw9 U=>⟨(ao O (bd (U.g 0 O) (isAgg90 _) (sizeOf90 _)) (ao O (aN (U.g 1 O) (isAgg91 _)) (ao O (aN (U.g 2 O) (isAgg41 _)) ag))),.inr ⟨hdn,O,U.ext⟩⟩)
  have hd10:=hdk.trans (pp hq8)
  have hs11:=(sN hq8).trans hsl2
  refine aW 1 ?_
  refine br (R:=λu e'=>u=.tuple #[]∧e'=blk w3.hz [sv s,jv ((s.length- r9.length:Nat):Int)] 174) 1 Y U O de call101 O (λh=>(sw w3.hz s r r9 2 ((s.length- r.length:Nat):Int) _ O hsl2 hsl hq8 h).mono λu w ⟨h1,h2⟩=>⟨_,⟨h1,O⟩,h2⟩) ?_
  clear Y U
  rintro a w11 _ _ ⟨rfl,rfl⟩ Y U
  try dsimp only at U
  replace U:=U.n6 O
  refine ab<|dN<|G13<|ah λ_ G14=>?_
  refine aa λ_ G15=>nv Y<|zM (ac (v:=pq w8.hz) O kr)<|zM (ac (v:=po w8.hz 1) O kr)<|zM (ac (v:=po w8.hz 2) O kr)<|zM (ac (v:=po w8.hz 2) O kr)<|zM (ac (v:=po w8.hz 2) O kr)<|zM (ac (v:=po w8.hz 3) O kr)<|zM (ac (v:=po w8.hz 4) O kr)<|zM (ac (v:=po w8.hz 4) O kr)<|zM (ac (v:=po w8.hz 4) O kr)<|zM (ac (v:=po w8.hz 5) O kr)<|zM (aV (v:=.agg #[pq w8.hz,po w8.hz 1,po w8.hz 2,po w8.hz 3,po w8.hz 4,po w8.hz 5]) O kr)<|zN O<|λa Y=>G15 ?_
  replace Y:=Y.p10 0 2 3 4 5 23 24 7 38 39 O
  refine aw<|eO 7 ?_
  refine bU<|aa λ_ G16=>wlv Y ((v_lt O O).asb (b':=true) O) λa Y=>G16<|ah λ_ G17=>?_
  refine aM Y O ?_
  refine ar<|G17<|ah λ_ G18=>aw<|aa λ_ G19=>nv Y<|zM (cw (v:=pq w8.hz) O O kr)<|zO O<|λa Y=>G19<|bK ?_
  refine aW 2 ?_
  refine nv Y<|zN O<|zN O<|λa Y=>ab ?_
  rcases hq12:rdI r9 with _|⟨n14,r13⟩
  ·have hdn:=hd10.trans (cS hq12)
   refine cQ (X:=λc=>c=[{v:=.iface 171 (.agg #[]),recovered:=false}]) 1 Y U O call99 O (λh=>(co w3.hz s r9 ((s.length- r9.length:Nat):Int) _ O hs11 hsl hq12 h).mono λe w ⟨c,h1,h2,h3⟩=>⟨c,h1,_,h2,h3⟩) ?_
   clear U
   rintro _ w12 e9 rfl U
   replace U:=U.s3 [2,3,4] de rfl
   exact bE Y call98 (cj _ _ _ _ _ _ _ _ _ _ _ _ _ _ _ U) results39 (λw9 U=>⟨(ao O (bd (U.g 0 O) (isAgg90 _) (sizeOf90 _)) (ao O (aN (U.g 1 O) (isAgg91 _)) (ao O (aN (U.g 2 O) (isAgg41 _)) ag))),.inr ⟨hdn,O,U.ext⟩⟩)
  have hd15:=hd10.trans (cX hq12)
  have hs16:=(dr hq12).trans hs11
  refine aW 1 ?_
  refine br (R:=λu e'=>u=jv n14∧e'=blk w3.hz [sv s,jv ((s.length- r13.length:Nat):Int)] 174) 1 Y U O de call99 O (λh=>(cB w3.hz s r9 r13 n14 ((s.length- r9.length:Nat):Int) _ O hs11 hsl hq12 h).mono λu w ⟨h1,h2⟩=>⟨_,⟨h1,O⟩,h2⟩) ?_
  clear Y U
  rintro a w13 _ _ ⟨rfl,rfl⟩ Y U
  try dsimp only at U
  replace U:=U.n6 O
  refine ab<|dN<|wlv Y (aU O) λa Y=>aB 0 Y U [jv n14,jv 0,jv 0,jv 0,jv 0,jv 0,.string (⟨#[]⟩)] O (sizeOf3 _) λa w14 Y U=>ab<|G18 ?_
  refine aj<|nv (Y.p10 0 2 3 4 5 23 24 7 38 39 O)<|zM ((aL O O de).asi (m':=1) O)<|zN O<|λa Y=>ab<|bU<|aa λ_ G20=>wlv Y ((v_lt O O).asb (b':=true) O) λa Y=>G20<|ah λ_ G21=>?_
  refine aM Y O ?_
  refine ar<|G21<|ah λ_ G22=>aw<|aa λ_ G23=>nv Y<|zM (cw (v:=po w8.hz 1) O O kr)<|zO O<|λa Y=>G23<|bK ?_
  refine aW 2 ?_
  refine nv Y<|zN O<|zN O<|λa Y=>ab ?_
  rcases hq17:rdI r13 with _|⟨n19,r18⟩
  ·have hdn:=hd15.trans (cS hq17)
   refine cQ (X:=λc=>c=[{v:=.iface 171 (.agg #[]),recovered:=false}]) 1 Y U O call99 O (λh=>(co w3.hz s r13 ((s.length- r13.length:Nat):Int) _ O hs16 hsl hq17 h).mono λe w ⟨c,h1,h2,h3⟩=>⟨c,h1,_,h2,h3⟩) ?_
   clear U
   rintro _ w15 e9 rfl U
   replace U:=U.s3 [2,3,4] de rfl
   exact bE Y call98 (cj _ _ _ _ _ _ _ _ _ _ _ _ _ _ _ U) results39 (λw9 U=>⟨(ao O (bd (U.g 0 O) (isAgg90 _) (sizeOf90 _)) (ao O (aN (U.g 1 O) (isAgg91 _)) (ao O (aN (U.g 2 O) (isAgg41 _)) ag))),.inr ⟨hdn,O,U.ext⟩⟩)
  have hd20:=hd15.trans (cX hq17)
  have hs21:=(dr hq17).trans hs16
  refine aW 1 ?_
  refine br (R:=λu e'=>u=jv n19∧e'=blk w3.hz [sv s,jv ((s.length- r18.length:Nat):Int)] 174) 1 Y U O de call99 O (λh=>(cB w3.hz s r13 r18 n19 ((s.length- r13.length:Nat):Int) _ O hs16 hsl hq17 h).mono λu w ⟨h1,h2⟩=>⟨_,⟨h1,O⟩,h2⟩) ?_
  clear Y U
  rintro a w16 _ _ ⟨rfl,rfl⟩ Y U
  try dsimp only at U
  replace U:=U.n6 O
  refine ab<|dN<|wlv Y (aU O) λa Y=>aB 0 Y U [jv n14,jv n19,jv 0,jv 0,jv 0,jv 0,.string (⟨#[]⟩)] O (sizeOf3 _) λa w17 Y U=>ab<|G22 ?_
  refine aj<|nv (Y.p10 0 2 3 4 5 23 24 7 38 39 O)<|zM ((aL O O de).asi (m':=2) O)<|zN O<|λa Y=>ab<|bU<|aa λ_ G24=>wlv Y ((v_lt O O).asb (b':=true) O) λa Y=>G24<|ah λ_ G25=>?_
  refine aM Y O ?_
  refine ar<|G25<|ah λ_ G26=>aw<|aa λ_ G27=>nv Y<|zM (cw (v:=po w8.hz 2) O O kr)<|zO O<|λa Y=>G27<|bK ?_
  refine aW 2 ?_
  refine nv Y<|zN O<|zN O<|λa Y=>ab ?_
  rcases hq22:rdI r18 with _|⟨n24,r23⟩
  ·have hdn:=hd20.trans (cS hq22)
   refine cQ (X:=λc=>c=[{v:=.iface 171 (.agg #[]),recovered:=false}]) 1 Y U O call99 O (λh=>(co w3.hz s r18 ((s.length- r18.length:Nat):Int) _ O hs21 hsl hq22 h).mono λe w ⟨c,h1,h2,h3⟩=>⟨c,h1,_,h2,h3⟩) ?_
   clear U
   rintro _ w18 e9 rfl U
   replace U:=U.s3 [2,3,4] de rfl
   exact bE Y call98 (cj _ _ _ _ _ _ _ _ _ _ _ _ _ _ _ U) results39 (λw9 U=>⟨(ao O (bd (U.g 0 O) (isAgg90 _) (sizeOf90 _)) (ao O (aN (U.g 1 O) (isAgg91 _)) (ao O (aN (U.g 2 O) (isAgg41 _)) ag))),.inr ⟨hdn,O,U.ext⟩⟩)
  have hd25:=hd20.trans (cX hq22)
  have hs26:=(dr hq22).trans hs21
  refine aW 1 ?_
  refine br (R:=λu e'=>u=jv n24∧e'=blk w3.hz [sv s,jv ((s.length- r23.length:Nat):Int)] 174) 1 Y U O de call99 O (λh=>(cB w3.hz s r18 r23 n24 ((s.length- r18.length:Nat):Int) _ O hs21 hsl hq22 h).mono λu w ⟨h1,h2⟩=>⟨_,⟨h1,O⟩,h2⟩) ?_
  clear Y U
  rintro a w19 _ _ ⟨rfl,rfl⟩ Y U
  try dsimp only at U
  replace U:=U.n6 O
  refine ab<|dN<|wlv Y (aU O) λa Y=>aB 0 Y U [jv n14,jv n19,jv n24,jv 0,jv 0,jv 0,.string (⟨#[]⟩)] O (sizeOf3 _) λa w20 Y U=>ab<|G26 ?_
  refine aj<|nv (Y.p10 0 2 3 4 5 23 24 7 38 39 O)<|zM ((aL O O de).asi (m':=3) O)<|zN O<|λa Y=>ab<|bU<|aa λ_ G28=>wlv Y ((v_lt O O).asb (b':=true) O) λa Y=>G28<|ah λ_ G29=>?_
  refine aM Y O ?_
  refine ar<|G29<|ah λ_ G30=>aw<|aa λ_ G31=>nv Y<|zM (cw (v:=po w8.hz 3) O O kr)<|zO O<|λa Y=>G31<|bK ?_
  refine aW 2 ?_
  refine nv Y<|zN O<|zN O<|λa Y=>ab ?_
  rcases hq27:rdI r23 with _|⟨n29,r28⟩
  ·have hdn:=hd25.trans (cS hq27)
   refine cQ (X:=λc=>c=[{v:=.iface 171 (.agg #[]),recovered:=false}]) 1 Y U O call99 O (λh=>(co w3.hz s r23 ((s.length- r23.length:Nat):Int) _ O hs26 hsl hq27 h).mono λe w ⟨c,h1,h2,h3⟩=>⟨c,h1,_,h2,h3⟩) ?_
   clear U
   rintro _ w21 e9 rfl U
   replace U:=U.s3 [2,3,4] de rfl
   exact bE Y call98 (cj _ _ _ _ _ _ _ _ _ _ _ _ _ _ _ U) results39 (λw9 U=>⟨(ao O (bd (U.g 0 O) (isAgg90 _) (sizeOf90 _)) (ao O (aN (U.g 1 O) (isAgg91 _)) (ao O (aN (U.g 2 O) (isAgg41 _)) ag))),.inr ⟨hdn,O,U.ext⟩⟩)
  have hd30:=hd25.trans (cX hq27)
  have hs31:=(dr hq27).trans hs26
  refine aW 1 ?_
  refine br (R:=λu e'=>u=jv n29∧e'=blk w3.hz [sv s,jv ((s.length- r28.length:Nat):Int)] 174) 1 Y U O de call99 O (λh=>(cB w3.hz s r23 r28 n29 ((s.length- r23.length:Nat):Int) _ O hs26 hsl hq27 h).mono λu w ⟨h1,h2⟩=>⟨_,⟨h1,O⟩,h2⟩) ?_
  clear Y U
  rintro a w22 _ _ ⟨rfl,rfl⟩ Y U
  try dsimp only at U
  replace U:=U.n6 O
  refine ab<|dN<|wlv Y (aU O) λa Y=>aB 0 Y U [jv n14,jv n19,jv n24,jv n29,jv 0,jv 0,.string (⟨#[]⟩)] O (sizeOf3 _) λa w23 Y U=>ab<|G30 ?_
  refine aj<|nv (Y.p10 0 2 3 4 5 23 24 7 38 39 O)<|zM ((aL O O de).asi (m':=4) O)<|zN O<|λa Y=>ab<|bU<|aa λ_ G32=>wlv Y ((v_lt O O).asb (b':=true) O) λa Y=>G32<|ah λ_ G33=>?_
  refine aM Y O ?_
  refine ar<|G33<|ah λ_ G34=>aw<|aa λ_ G35=>nv Y<|zM (cw (v:=po w8.hz 4) O O kr)<|zO O<|λa Y=>G35<|bK ?_
  refine aW 2 ?_
  refine nv Y<|zN O<|zN O<|λa Y=>ab ?_
  rcases hq32:rdI r28 with _|⟨n34,r33⟩
  ·have hdn:=hd30.trans (cS hq32)
   refine cQ (X:=λc=>c=[{v:=.iface 171 (.agg #[]),recovered:=false}]) 1 Y U O call99 O (λh=>(co w3.hz s r28 ((s.length- r28.length:Nat):Int) _ O hs31 hsl hq32 h).mono λe w ⟨c,h1,h2,h3⟩=>⟨c,h1,_,h2,h3⟩) ?_
   clear U
   rintro _ w24 e9 rfl U
   replace U:=U.s3 [2,3,4] de rfl
   exact bE Y call98 (cj _ _ _ _ _ _ _ _ _ _ _ _ _ _ _ U) results39 (λw9 U=>⟨(ao O (bd (U.g 0 O) (isAgg90 _) (sizeOf90 _)) (ao O (aN (U.g 1 O) (isAgg91 _)) (ao O (aN (U.g 2 O) (isAgg41 _)) ag))),.inr ⟨hdn,O,U.ext⟩⟩)
  have hd35:=hd30.trans (cX hq32)
  have hs36:=(dr hq32).trans hs31
  refine aW 1 ?_
  refine br (R:=λu e'=>u=jv n34∧e'=blk w3.hz [sv s,jv ((s.length- r33.length:Nat):Int)] 174) 1 Y U O de call99 O (λh=>(cB w3.hz s r28 r33 n34 ((s.length- r28.length:Nat):Int) _ O hs31 hsl hq32 h).mono λu w ⟨h1,h2⟩=>⟨_,⟨h1,O⟩,h2⟩) ?_
  clear Y U
  rintro a w25 _ _ ⟨rfl,rfl⟩ Y U
  try dsimp only at U
  replace U:=U.n6 O
  refine ab<|dN<|wlv Y (aU O) λa Y=>aB 0 Y U [jv n14,jv n19,jv n24,jv n29,jv n34,jv 0,.string (⟨#[]⟩)] O (sizeOf3 _) λa w26 Y U=>ab<|G34 ?_
  refine aj<|nv (Y.p10 0 2 3 4 5 23 24 7 38 39 O)<|zM ((aL O O de).asi (m':=5) O)<|zN O<|λa Y=>ab<|bU<|aa λ_ G36=>wlv Y ((v_lt O O).asb (b':=true) O) λa Y=>G36<|ah λ_ G37=>?_
  refine aM Y O ?_
  refine ar<|G37<|ah λ_ G38=>aw<|aa λ_ G39=>nv Y<|zM (cw (v:=po w8.hz 5) O O kr)<|zO O<|λa Y=>G39<|bK ?_
  refine aW 2 ?_
  refine nv Y<|zN O<|zN O<|λa Y=>ab ?_
  rcases hq37:rdI r33 with _|⟨n39,r38⟩
  ·have hdn:=hd35.trans (cS hq37)
   refine cQ (X:=λc=>c=[{v:=.iface 171 (.agg #[]),recovered:=false}]) 1 Y U O call99 O (λh=>(co w3.hz s r33 ((s.length- r33.length:Nat):Int) _ O hs36 hsl hq37 h).mono λe w ⟨c,h1,h2,h3⟩=>⟨c,h1,_,h2,h3⟩) ?_
   clear U
   rintro _ w27 e9 rfl U
   replace U:=U.s3 [2,3,4] de rfl
   exact bE Y call98 (cj _ _ _ _ _ _ _ _ _ _ _ _ _ _ _ U) results39 (λw9 U=>⟨(ao O (bd (U.g 0 O) (isAgg90 _) (sizeOf90 _)) (ao O (aN (U.g 1 O) (isAgg91 _)) (ao O (aN (U.g 2 O) (isAgg41 _)) ag))),.inr ⟨hdn,O,U.ext⟩⟩)
  have hd40:=hd35.trans (cX hq37)
  have hs41:=(dr hq37).trans hs36
  refine aW 1 ?_
  refine br (R:=λu e'=>u=jv n39∧e'=blk w3.hz [sv s,jv ((s.length- r38.length:Nat):Int)] 174) 1 Y U O de call99 O (λh=>(cB w3.hz s r33 r38 n39 ((s.length- r33.length:Nat):Int) _ O hs36 hsl hq37 h).mono λu w ⟨h1,h2⟩=>⟨_,⟨h1,O⟩,h2⟩) ?_
  clear Y U
  rintro a w28 _ _ ⟨rfl,rfl⟩ Y U
  try dsimp only at U
  replace U:=U.n6 O
  refine ab<|dN<|wlv Y (aU O) λa Y=>aB 0 Y U [jv n14,jv n19,jv n24,jv n29,jv n34,jv n39,.string (⟨#[]⟩)] O (sizeOf3 _) λa w29 Y U=>ab<|G38 ?_
  refine aj<|nv (Y.p10 0 2 3 4 5 23 24 7 38 39 O)<|zM ((aL O O de).asi (m':=6) O)<|zN O<|λa Y=>ab<|bU<|aa λ_ G40=>wlv Y ((v_lt O O).asb (b':=false) O) λa Y=>G40<|ah λ_ G41=>?_
  refine aG Y O ?_
  refine aP<|G14<|bY λ_ G42 hP42=>aW 1 ?_
  refine wlm Y O λa Y=>ab ?_
  rcases hq42:dgI r38 with _|⟨n44,r43⟩
  ·have hdn:=hd40.trans (lY hq42)
   refine cQ (X:=λc=>c=[{v:=.iface 171 (.agg #[]),recovered:=false}]) 1 Y U O call102 O (λh=>(sy w3.hz s r38 ((s.length- r38.length:Nat):Int) _ O hs41 hsl hq42 h).mono λe w ⟨c,h1,h2,h3⟩=>⟨c,h1,_,h2,h3⟩) ?_
   clear U
   rintro _ w30 e9 rfl U
   refine hP42 _ _ _ ?_
   replace U:=U.s3 [2,3,4] de rfl
   exact bE Y call98 (cj _ _ _ _ _ _ _ _ _ _ _ _ _ _ _ U) results39 (λw9 U=>⟨(ao O (bd (U.g 0 O) (isAgg90 _) (sizeOf90 _)) (ao O (aN (U.g 1 O) (isAgg91 _)) (ao O (aN (U.g 2 O) (isAgg41 _)) ag))),.inr ⟨hdn,O,U.ext⟩⟩)
  have hd45:=hd40.trans (nl hq42)
  have hs46:=(sQ hq42).trans hs41
  refine aW 1 ?_
  refine br (R:=λu e'=>u=sv n44∧e'=blk w3.hz [sv s,jv ((s.length- r43.length:Nat):Int)] 174) 1 Y U O de call102 O (λh=>(wc w3.hz s r38 r43 n44 ((s.length- r38.length:Nat):Int) _ O hs41 hsl hq42 h).mono λu w ⟨h1,h2⟩=>⟨_,⟨h1,O⟩,h2⟩) ?_
  clear Y U
  rintro a w31 _ _ ⟨rfl,rfl⟩ Y U
  try dsimp only at U
  replace U:=U.n6 O
  refine ab<|dN<|wlv Y (ac (v:=po w8.hz 6) O kr) λa Y=>aB 0 Y U [jv n14,jv n19,jv n24,jv n29,jv n34,jv n39,sv n44] O (sizeOf9 _) λa w32 Y U=>G42 ?_
  refine aj<|nv (Y.p8 0 2 3 4 5 23 24 7 O)<|zM (ld U 3 O O (isAgg91 _) O)<|zM (ap (U.g 0 O) O (isAgg144 _) (sizeOf144 _))<|λa Y=>aD (E:=144) (sz:=7) O [[jv n14,jv n19,jv n24,jv n29,jv n34,jv n39,sv n44]] kr sm O de de Y U λa w33 Y U=>aY (i:=6) (sT:=91) (inf:=Tryz.t144) (z:=.agg #[jv 0,jv 0,jv 0,jv 0,jv 0,jv 0,.string (⟨#[]⟩)]) (b:=0) (off:=0) (m:=0) (c:=0) O O O (U.ow 0 O) sm underlying91 O O O O de BS CE CE de Y U λa w34 s47 Y U _=>?_
  replace U:St No w0 [own (.slice (some ⟨w32.hz,0,none⟩) 1 1) 144 7 ([[jv n14,jv n19,jv n24,jv n29,jv n34,jv n39,sv n44]]),blk w8.hz [jv n14,jv n19,jv n24,jv n29,jv n34,jv n39,sv n44] 144,blk w3.hz [sv s,jv ((s.length- r43.length:Nat):Int)] 174,blk w0.hz [jv 0,jv 0,jv 0,jv 0,jv 0,jv 0,jv 0,jv 0,.string (⟨#[]⟩)] 90,blk w1.hz [lv] 91,blk w2.hz [jv 0] 41,own s47 144 7 ((acc++[(⟨n14,n19,n24,n29,n34,n39,n44⟩:Pxy)]).map Pxy.cells)] w34:=by rw[AH]; exact U
  refine cb 4 Y U (U.ow 6 O) O O O (sizeOf91 _) (lb O) (ds:=[s47]) O O λa w35 Y U=>ab<|G11<|aj<|nv Y<|zM (aL O O ⟨om,om⟩)<|zN O<|λa Y=>ab ?_
  refine⟨_,?_,k+1,acc++[(⟨n14,n19,n24,n29,n34,n39,n44⟩:Pxy)],r43,s47,O,om,(by rw[show n3.toNat- (k+1)=mm from by omega]; exact hd45),hs46,(by rw[zS,hal]; rfl),Y.pick [0,2,3,4,5,23,24],U.select [2,3,4,5,6] de⟩
  omega
 have hm:n3.toNat- k=0:=by omega
 rw[hm] at hdl
 have hdk:bL s=kindI 1 r _:=hdl
 refine aP<|G7<|bY λ_ G43 hP43=>aW 1 ?_
 refine wlm Y O λa Y=>ab ?_
 rcases hq48:kdI 1 r with _|r49
 ·have hdn:=hdk.trans (nB hq48)
  refine cQ (X:=λc=>c=[{v:=.iface 171 (.agg #[]),recovered:=false}]) 0 Y U O call101 O (λh=>(pO w3.hz s r 1 ((s.length- r.length:Nat):Int) _ O hsl2 hsl hq48 h).mono λe w ⟨c,h1,h2,h3⟩=>⟨c,h1,_,h2,qm h3⟩) ?_
  clear U
  rintro _ w36 e9 rfl U
  refine hP43 _ _ _ ?_
  replace U:=U.s3 [1,2,3] de rfl
  exact bE Y call98 (cj _ _ _ _ _ _ _ _ _ _ _ _ _ _ _ U) results39 (λw9 U=>⟨(ao O (bd (U.g 0 O) (isAgg90 _) (sizeOf90 _)) (ao O (aN (U.g 1 O) (isAgg91 _)) (ao O (aN (U.g 2 O) (isAgg41 _)) ag))),.inr ⟨hdn,O,U.ext⟩⟩)
 have hd50:=hdk.trans (pp hq48)
 have hs51:=(sN hq48).trans hsl2
 refine aW 1 ?_
 refine br (R:=λu e'=>u=.tuple #[]∧e'=blk w3.hz [sv s,jv ((s.length- r49.length:Nat):Int)] 174) 0 Y U O de call101 O (λh=>(sw w3.hz s r r49 1 ((s.length- r.length:Nat):Int) _ O hsl2 hsl hq48 h).mono λu w ⟨h1,h2⟩=>⟨_,⟨h1,O⟩,h2⟩) ?_
 clear Y U
 rintro a w37 _ _ ⟨rfl,rfl⟩ Y U
 try dsimp only at U
 replace U:=U.n5 O
 refine ab<|dN<|G43 ?_
 refine ah λ_ G44=>aa λ_ G45=>nv (Y.p5 0 2 3 4 5 O)<|zM (ac (v:=pq w0.hz) O kr)<|zM (ac (v:=po w0.hz 1) O kr)<|zM (ac (v:=po w0.hz 2) O kr)<|zM (ac (v:=po w0.hz 2) O kr)<|zM (ac (v:=po w0.hz 2) O kr)<|zM (ac (v:=po w0.hz 3) O kr)<|zM (ac (v:=po w0.hz 4) O kr)<|zM (ac (v:=po w0.hz 5) O kr)<|zM (ac (v:=po w0.hz 6) O kr)<|zM (ac (v:=po w0.hz 6) O kr)<|zM (ac (v:=po w0.hz 6) O kr)<|zM (ac (v:=po w0.hz 7) O kr)<|zM (aV (v:=.agg #[pq w0.hz,po w0.hz 1,po w0.hz 2,po w0.hz 3,po w0.hz 4,po w0.hz 5,po w0.hz 6,po w0.hz 7]) O kr)<|zN O<|λa Y=>G45 ?_
 replace Y:=Y.p7 0 2 3 4 5 69 70 O
 refine aw<|eO 9 ?_
 refine bU<|aa λ_ G46=>wlv Y ((v_lt O O).asb (b':=true) O) λa Y=>G46<|ah λ_ G47=>?_
 refine aM Y O ?_
 refine ar<|G47<|ah λ_ G48=>aw<|aa λ_ G49=>nv Y<|zM (cw (v:=pq w0.hz) O O kr)<|zO O<|λa Y=>G49<|bK ?_
 refine aW 2 ?_
 refine nv Y<|zN O<|zN O<|λa Y=>ab ?_
 rcases hq52:rdI r49 with _|⟨n54,r53⟩
 ·have hdn:=hd50.trans (cS hq52)
  refine cQ (X:=λc=>c=[{v:=.iface 171 (.agg #[]),recovered:=false}]) 0 Y U O call99 O (λh=>(co w3.hz s r49 ((s.length- r49.length:Nat):Int) _ O hs51 hsl hq52 h).mono λe w ⟨c,h1,h2,h3⟩=>⟨c,h1,_,h2,h3⟩) ?_
  clear U
  rintro _ w38 e9 rfl U
  replace U:=U.s3 [1,2,3] de rfl
  exact bE Y call98 (cj _ _ _ _ _ _ _ _ _ _ _ _ _ _ _ U) results39 (λw9 U=>⟨(ao O (bd (U.g 0 O) (isAgg90 _) (sizeOf90 _)) (ao O (aN (U.g 1 O) (isAgg91 _)) (ao O (aN (U.g 2 O) (isAgg41 _)) ag))),.inr ⟨hdn,O,U.ext⟩⟩)
 have hd55:=hd50.trans (cX hq52)
 have hs56:=(dr hq52).trans hs51
 refine aW 1 ?_
 refine br (R:=λu e'=>u=jv n54∧e'=blk w3.hz [sv s,jv ((s.length- r53.length:Nat):Int)] 174) 0 Y U O de call99 O (λh=>(cB w3.hz s r49 r53 n54 ((s.length- r49.length:Nat):Int) _ O hs51 hsl hq52 h).mono λu w ⟨h1,h2⟩=>⟨_,⟨h1,O⟩,h2⟩) ?_
 clear Y U
 rintro a w39 _ _ ⟨rfl,rfl⟩ Y U
 try dsimp only at U
 replace U:=U.n5 O
 refine ab<|dN<|wlv Y (aU O) λa Y=>aB 1 Y U [jv n54,jv 0,jv 0,jv 0,jv 0,jv 0,jv 0,jv 0,.string (⟨#[]⟩)] O (sizeOf3 _) λa w40 Y U=>ab<|G48 ?_
 refine aj<|nv (Y.p7 0 2 3 4 5 69 70 O)<|zM ((aL O O de).asi (m':=1) O)<|zN O<|λa Y=>ab<|bU<|aa λ_ G50=>wlv Y ((v_lt O O).asb (b':=true) O) λa Y=>G50<|ah λ_ G51=>?_
 refine aM Y O ?_
 refine ar<|G51<|ah λ_ G52=>aw<|aa λ_ G53=>nv Y<|zM (cw (v:=po w0.hz 1) O O kr)<|zO O<|λa Y=>G53<|bK ?_
 refine aW 2 ?_
 refine nv Y<|zN O<|zN O<|λa Y=>ab ?_
 rcases hq57:rdI r53 with _|⟨n59,r58⟩
 ·have hdn:=hd55.trans (cS hq57)
  refine cQ (X:=λc=>c=[{v:=.iface 171 (.agg #[]),recovered:=false}]) 0 Y U O call99 O (λh=>(co w3.hz s r53 ((s.length- r53.length:Nat):Int) _ O hs56 hsl hq57 h).mono λe w ⟨c,h1,h2,h3⟩=>⟨c,h1,_,h2,h3⟩) ?_
  clear U
  rintro _ w41 e9 rfl U
  replace U:=U.s3 [1,2,3] de rfl
  exact bE Y call98 (cj _ _ _ _ _ _ _ _ _ _ _ _ _ _ _ U) results39 (λw9 U=>⟨(ao O (bd (U.g 0 O) (isAgg90 _) (sizeOf90 _)) (ao O (aN (U.g 1 O) (isAgg91 _)) (ao O (aN (U.g 2 O) (isAgg41 _)) ag))),.inr ⟨hdn,O,U.ext⟩⟩)
 have hd60:=hd55.trans (cX hq57)
 have hs61:=(dr hq57).trans hs56
 refine aW 1 ?_
 refine br (R:=λu e'=>u=jv n59∧e'=blk w3.hz [sv s,jv ((s.length- r58.length:Nat):Int)] 174) 0 Y U O de call99 O (λh=>(cB w3.hz s r53 r58 n59 ((s.length- r53.length:Nat):Int) _ O hs56 hsl hq57 h).mono λu w ⟨h1,h2⟩=>⟨_,⟨h1,O⟩,h2⟩) ?_
 clear Y U
 rintro a w42 _ _ ⟨rfl,rfl⟩ Y U
 try dsimp only at U
 replace U:=U.n5 O
 refine ab<|dN<|wlv Y (aU O) λa Y=>aB 1 Y U [jv n54,jv n59,jv 0,jv 0,jv 0,jv 0,jv 0,jv 0,.string (⟨#[]⟩)] O (sizeOf3 _) λa w43 Y U=>ab<|G52 ?_
 refine aj<|nv (Y.p7 0 2 3 4 5 69 70 O)<|zM ((aL O O de).asi (m':=2) O)<|zN O<|λa Y=>ab<|bU<|aa λ_ G54=>wlv Y ((v_lt O O).asb (b':=true) O) λa Y=>G54<|ah λ_ G55=>?_
 refine aM Y O ?_
 refine ar<|G55<|ah λ_ G56=>aw<|aa λ_ G57=>nv Y<|zM (cw (v:=po w0.hz 2) O O kr)<|zO O<|λa Y=>G57<|bK ?_
 refine aW 2 ?_
 refine nv Y<|zN O<|zN O<|λa Y=>ab ?_
 rcases hq62:rdI r58 with _|⟨n64,r63⟩
 ·have hdn:=hd60.trans (cS hq62)
  refine cQ (X:=λc=>c=[{v:=.iface 171 (.agg #[]),recovered:=false}]) 0 Y U O call99 O (λh=>(co w3.hz s r58 ((s.length- r58.length:Nat):Int) _ O hs61 hsl hq62 h).mono λe w ⟨c,h1,h2,h3⟩=>⟨c,h1,_,h2,h3⟩) ?_
  clear U
  rintro _ w44 e9 rfl U
  replace U:=U.s3 [1,2,3] de rfl
  exact bE Y call98 (cj _ _ _ _ _ _ _ _ _ _ _ _ _ _ _ U) results39 (λw9 U=>⟨(ao O (bd (U.g 0 O) (isAgg90 _) (sizeOf90 _)) (ao O (aN (U.g 1 O) (isAgg91 _)) (ao O (aN (U.g 2 O) (isAgg41 _)) ag))),.inr ⟨hdn,O,U.ext⟩⟩)
 have hd65:=hd60.trans (cX hq62)
 have hs66:=(dr hq62).trans hs61
 refine aW 1 ?_
 refine br (R:=λu e'=>u=jv n64∧e'=blk w3.hz [sv s,jv ((s.length- r63.length:Nat):Int)] 174) 0 Y U O de call99 O (λh=>(cB w3.hz s r58 r63 n64 ((s.length- r58.length:Nat):Int) _ O hs61 hsl hq62 h).mono λu w ⟨h1,h2⟩=>⟨_,⟨h1,O⟩,h2⟩) ?_
 clear Y U
 rintro a w45 _ _ ⟨rfl,rfl⟩ Y U
 try dsimp only at U
 replace U:=U.n5 O
 refine ab<|dN<|wlv Y (aU O) λa Y=>aB 1 Y U [jv n54,jv n59,jv n64,jv 0,jv 0,jv 0,jv 0,jv 0,.string (⟨#[]⟩)] O (sizeOf3 _) λa w46 Y U=>ab<|G56 ?_
 refine aj<|nv (Y.p7 0 2 3 4 5 69 70 O)<|zM ((aL O O de).asi (m':=3) O)<|zN O<|λa Y=>ab<|bU<|aa λ_ G58=>wlv Y ((v_lt O O).asb (b':=true) O) λa Y=>G58<|ah λ_ G59=>?_
 refine aM Y O ?_
 refine ar<|G59<|ah λ_ G60=>aw<|aa λ_ G61=>nv Y<|zM (cw (v:=po w0.hz 3) O O kr)<|zO O<|λa Y=>G61<|bK ?_
 refine aW 2 ?_
 refine nv Y<|zN O<|zN O<|λa Y=>ab ?_
 rcases hq67:rdI r63 with _|⟨n69,r68⟩
 ·have hdn:=hd65.trans (cS hq67)
  refine cQ (X:=λc=>c=[{v:=.iface 171 (.agg #[]),recovered:=false}]) 0 Y U O call99 O (λh=>(co w3.hz s r63 ((s.length- r63.length:Nat):Int) _ O hs66 hsl hq67 h).mono λe w ⟨c,h1,h2,h3⟩=>⟨c,h1,_,h2,h3⟩) ?_
  clear U
  rintro _ w47 e9 rfl U
  replace U:=U.s3 [1,2,3] de rfl
  exact bE Y call98 (cj _ _ _ _ _ _ _ _ _ _ _ _ _ _ _ U) results39 (λw9 U=>⟨(ao O (bd (U.g 0 O) (isAgg90 _) (sizeOf90 _)) (ao O (aN (U.g 1 O) (isAgg91 _)) (ao O (aN (U.g 2 O) (isAgg41 _)) ag))),.inr ⟨hdn,O,U.ext⟩⟩)
 have hd70:=hd65.trans (cX hq67)
 have hs71:=(dr hq67).trans hs66
 refine aW 1 ?_
 refine br (R:=λu e'=>u=jv n69∧e'=blk w3.hz [sv s,jv ((s.length- r68.length:Nat):Int)] 174) 0 Y U O de call99 O (λh=>(cB w3.hz s r63 r68 n69 ((s.length- r63.length:Nat):Int) _ O hs66 hsl hq67 h).mono λu w ⟨h1,h2⟩=>⟨_,⟨h1,O⟩,h2⟩) ?_
 clear Y U
 rintro a w48 _ _ ⟨rfl,rfl⟩ Y U
 try dsimp only at U
 replace U:=U.n5 O
 refine ab<|dN<|wlv Y (aU O) λa Y=>aB 1 Y U [jv n54,jv n59,jv n64,jv n69,jv 0,jv 0,jv 0,jv 0,.string (⟨#[]⟩)] O (sizeOf3 _) λa w49 Y U=>ab<|G60 ?_
 refine aj<|nv (Y.p7 0 2 3 4 5 69 70 O)<|zM ((aL O O de).asi (m':=4) O)<|zN O<|λa Y=>ab<|bU<|aa λ_ G62=>wlv Y ((v_lt O O).asb (b':=true) O) λa Y=>G62<|ah λ_ G63=>?_
 refine aM Y O ?_
 refine ar<|G63<|ah λ_ G64=>aw<|aa λ_ G65=>nv Y<|zM (cw (v:=po w0.hz 4) O O kr)<|zO O<|λa Y=>G65<|bK ?_
 refine aW 2 ?_
 refine nv Y<|zN O<|zN O<|λa Y=>ab ?_
 rcases hq72:rdI r68 with _|⟨n74,r73⟩
 ·have hdn:=hd70.trans (cS hq72)
  refine cQ (X:=λc=>c=[{v:=.iface 171 (.agg #[]),recovered:=false}]) 0 Y U O call99 O (λh=>(co w3.hz s r68 ((s.length- r68.length:Nat):Int) _ O hs71 hsl hq72 h).mono λe w ⟨c,h1,h2,h3⟩=>⟨c,h1,_,h2,h3⟩) ?_
  clear U
  rintro _ w50 e9 rfl U
  replace U:=U.s3 [1,2,3] de rfl
  exact bE Y call98 (cj _ _ _ _ _ _ _ _ _ _ _ _ _ _ _ U) results39 (λw9 U=>⟨(ao O (bd (U.g 0 O) (isAgg90 _) (sizeOf90 _)) (ao O (aN (U.g 1 O) (isAgg91 _)) (ao O (aN (U.g 2 O) (isAgg41 _)) ag))),.inr ⟨hdn,O,U.ext⟩⟩)
 have hd75:=hd70.trans (cX hq72)
 have hs76:=(dr hq72).trans hs71
 refine aW 1 ?_
 refine br (R:=λu e'=>u=jv n74∧e'=blk w3.hz [sv s,jv ((s.length- r73.length:Nat):Int)] 174) 0 Y U O de call99 O (λh=>(cB w3.hz s r68 r73 n74 ((s.length- r68.length:Nat):Int) _ O hs71 hsl hq72 h).mono λu w ⟨h1,h2⟩=>⟨_,⟨h1,O⟩,h2⟩) ?_
 clear Y U
 rintro a w51 _ _ ⟨rfl,rfl⟩ Y U
 try dsimp only at U
 replace U:=U.n5 O
 refine ab<|dN<|wlv Y (aU O) λa Y=>aB 1 Y U [jv n54,jv n59,jv n64,jv n69,jv n74,jv 0,jv 0,jv 0,.string (⟨#[]⟩)] O (sizeOf3 _) λa w52 Y U=>ab<|G64 ?_
 refine aj<|nv (Y.p7 0 2 3 4 5 69 70 O)<|zM ((aL O O de).asi (m':=5) O)<|zN O<|λa Y=>ab<|bU<|aa λ_ G66=>wlv Y ((v_lt O O).asb (b':=true) O) λa Y=>G66<|ah λ_ G67=>?_
 refine aM Y O ?_
 refine ar<|G67<|ah λ_ G68=>aw<|aa λ_ G69=>nv Y<|zM (cw (v:=po w0.hz 5) O O kr)<|zO O<|λa Y=>G69<|bK ?_
 refine aW 2 ?_
 refine nv Y<|zN O<|zN O<|λa Y=>ab ?_
 rcases hq77:rdI r73 with _|⟨n79,r78⟩
 ·have hdn:=hd75.trans (cS hq77)
  refine cQ (X:=λc=>c=[{v:=.iface 171 (.agg #[]),recovered:=false}]) 0 Y U O call99 O (λh=>(co w3.hz s r73 ((s.length- r73.length:Nat):Int) _ O hs76 hsl hq77 h).mono λe w ⟨c,h1,h2,h3⟩=>⟨c,h1,_,h2,h3⟩) ?_
  clear U
  rintro _ w53 e9 rfl U
  replace U:=U.s3 [1,2,3] de rfl
  exact bE Y call98 (cj _ _ _ _ _ _ _ _ _ _ _ _ _ _ _ U) results39 (λw9 U=>⟨(ao O (bd (U.g 0 O) (isAgg90 _) (sizeOf90 _)) (ao O (aN (U.g 1 O) (isAgg91 _)) (ao O (aN (U.g 2 O) (isAgg41 _)) ag))),.inr ⟨hdn,O,U.ext⟩⟩)
 have hd80:=hd75.trans (cX hq77)
 have hs81:=(dr hq77).trans hs76
 refine aW 1 ?_
 refine br (R:=λu e'=>u=jv n79∧e'=blk w3.hz [sv s,jv ((s.length- r78.length:Nat):Int)] 174) 0 Y U O de call99 O (λh=>(cB w3.hz s r73 r78 n79 ((s.length- r73.length:Nat):Int) _ O hs76 hsl hq77 h).mono λu w ⟨h1,h2⟩=>⟨_,⟨h1,O⟩,h2⟩) ?_
 clear Y U
 rintro a w54 _ _ ⟨rfl,rfl⟩ Y U
 try dsimp only at U
 replace U:=U.n5 O
 refine ab<|dN<|wlv Y (aU O) λa Y=>aB 1 Y U [jv n54,jv n59,jv n64,jv n69,jv n74,jv n79,jv 0,jv 0,.string (⟨#[]⟩)] O (sizeOf3 _) λa w55 Y U=>ab<|G68 ?_
 refine aj<|nv (Y.p7 0 2 3 4 5 69 70 O)<|zM ((aL O O de).asi (m':=6) O)<|zN O<|λa Y=>ab<|bU<|aa λ_ G70=>wlv Y ((v_lt O O).asb (b':=true) O) λa Y=>G70<|ah λ_ G71=>?_
 refine aM Y O ?_
 refine ar<|G71<|ah λ_ G72=>aw<|aa λ_ G73=>nv Y<|zM (cw (v:=po w0.hz 6) O O kr)<|zO O<|λa Y=>G73<|bK ?_
 refine aW 2 ?_
 refine nv Y<|zN O<|zN O<|λa Y=>ab ?_
 rcases hq82:rdI r78 with _|⟨n84,r83⟩
 ·have hdn:=hd80.trans (cS hq82)
  refine cQ (X:=λc=>c=[{v:=.iface 171 (.agg #[]),recovered:=false}]) 0 Y U O call99 O (λh=>(co w3.hz s r78 ((s.length- r78.length:Nat):Int) _ O hs81 hsl hq82 h).mono λe w ⟨c,h1,h2,h3⟩=>⟨c,h1,_,h2,h3⟩) ?_
  clear U
  rintro _ w56 e9 rfl U
  replace U:=U.s3 [1,2,3] de rfl
  exact bE Y call98 (cj _ _ _ _ _ _ _ _ _ _ _ _ _ _ _ U) results39 (λw9 U=>⟨(ao O (bd (U.g 0 O) (isAgg90 _) (sizeOf90 _)) (ao O (aN (U.g 1 O) (isAgg91 _)) (ao O (aN (U.g 2 O) (isAgg41 _)) ag))),.inr ⟨hdn,O,U.ext⟩⟩)
 have hd85:=hd80.trans (cX hq82)
 have hs86:=(dr hq82).trans hs81
 refine aW 1 ?_
 refine br (R:=λu e'=>u=jv n84∧e'=blk w3.hz [sv s,jv ((s.length- r83.length:Nat):Int)] 174) 0 Y U O de call99 O (λh=>(cB w3.hz s r78 r83 n84 ((s.length- r78.length:Nat):Int) _ O hs81 hsl hq82 h).mono λu w ⟨h1,h2⟩=>⟨_,⟨h1,O⟩,h2⟩) ?_
 clear Y U
 rintro a w57 _ _ ⟨rfl,rfl⟩ Y U
 try dsimp only at U
 replace U:=U.n5 O
 refine ab<|dN<|wlv Y (aU O) λa Y=>aB 1 Y U [jv n54,jv n59,jv n64,jv n69,jv n74,jv n79,jv n84,jv 0,.string (⟨#[]⟩)] O (sizeOf3 _) λa w58 Y U=>ab<|G72 ?_
 refine aj<|nv (Y.p7 0 2 3 4 5 69 70 O)<|zM ((aL O O de).asi (m':=7) O)<|zN O<|λa Y=>ab<|bU<|aa λ_ G74=>wlv Y ((v_lt O O).asb (b':=true) O) λa Y=>G74<|ah λ_ G75=>?_
 refine aM Y O ?_
 refine ar<|G75<|ah λ_ G76=>aw<|aa λ_ G77=>nv Y<|zM (cw (v:=po w0.hz 7) O O kr)<|zO O<|λa Y=>G77<|bK ?_
 refine aW 2 ?_
 refine nv Y<|zN O<|zN O<|λa Y=>ab ?_
 rcases hq87:rdI r83 with _|⟨n89,r88⟩
 ·have hdn:=hd85.trans (cS hq87)
  refine cQ (X:=λc=>c=[{v:=.iface 171 (.agg #[]),recovered:=false}]) 0 Y U O call99 O (λh=>(co w3.hz s r83 ((s.length- r83.length:Nat):Int) _ O hs86 hsl hq87 h).mono λe w ⟨c,h1,h2,h3⟩=>⟨c,h1,_,h2,h3⟩) ?_
  clear U
  rintro _ w59 e9 rfl U
  replace U:=U.s3 [1,2,3] de rfl
  exact bE Y call98 (cj _ _ _ _ _ _ _ _ _ _ _ _ _ _ _ U) results39 (λw9 U=>⟨(ao O (bd (U.g 0 O) (isAgg90 _) (sizeOf90 _)) (ao O (aN (U.g 1 O) (isAgg91 _)) (ao O (aN (U.g 2 O) (isAgg41 _)) ag))),.inr ⟨hdn,O,U.ext⟩⟩)
 have hd90:=hd85.trans (cX hq87)
 have hs91:=(dr hq87).trans hs86
 refine aW 1 ?_
 refine br (R:=λu e'=>u=jv n89∧e'=blk w3.hz [sv s,jv ((s.length- r88.length:Nat):Int)] 174) 0 Y U O de call99 O (λh=>(cB w3.hz s r83 r88 n89 ((s.length- r83.length:Nat):Int) _ O hs86 hsl hq87 h).mono λu w ⟨h1,h2⟩=>⟨_,⟨h1,O⟩,h2⟩) ?_
 clear Y U
 rintro a w60 _ _ ⟨rfl,rfl⟩ Y U
 try dsimp only at U
 replace U:=U.n5 O
 refine ab<|dN<|wlv Y (aU O) λa Y=>aB 1 Y U [jv n54,jv n59,jv n64,jv n69,jv n74,jv n79,jv n84,jv n89,.string (⟨#[]⟩)] O (sizeOf3 _) λa w61 Y U=>ab<|G76 ?_
 refine aj<|nv (Y.p7 0 2 3 4 5 69 70 O)<|zM ((aL O O de).asi (m':=8) O)<|zN O<|λa Y=>ab<|bU<|aa λ_ G78=>wlv Y ((v_lt O O).asb (b':=false) O) λa Y=>G78<|ah λ_ G79=>?_
 refine aG Y O ?_
 refine aP<|G44<|bY λ_ G80 hP80=>aW 1 ?_
 refine wlm Y O λa Y=>ab ?_
 rcases hq92:dgI r88 with _|⟨n94,r93⟩
 ·have hdn:=hd90.trans (lY hq92)
  refine cQ (X:=λc=>c=[{v:=.iface 171 (.agg #[]),recovered:=false}]) 0 Y U O call102 O (λh=>(sy w3.hz s r88 ((s.length- r88.length:Nat):Int) _ O hs91 hsl hq92 h).mono λe w ⟨c,h1,h2,h3⟩=>⟨c,h1,_,h2,h3⟩) ?_
  clear U
  rintro _ w62 e9 rfl U
  refine hP80 _ _ _ ?_
  replace U:=U.s3 [1,2,3] de rfl
  exact bE Y call98 (cj _ _ _ _ _ _ _ _ _ _ _ _ _ _ _ U) results39 (λw9 U=>⟨(ao O (bd (U.g 0 O) (isAgg90 _) (sizeOf90 _)) (ao O (aN (U.g 1 O) (isAgg91 _)) (ao O (aN (U.g 2 O) (isAgg41 _)) ag))),.inr ⟨hdn,O,U.ext⟩⟩)
 have hd95:=hd90.trans (nl hq92)
 have hs96:=(sQ hq92).trans hs91
 refine aW 1 ?_
 refine br (R:=λu e'=>u=sv n94∧e'=blk w3.hz [sv s,jv ((s.length- r93.length:Nat):Int)] 174) 0 Y U O de call102 O (λh=>(wc w3.hz s r88 r93 n94 ((s.length- r88.length:Nat):Int) _ O hs91 hsl hq92 h).mono λu w ⟨h1,h2⟩=>⟨_,⟨h1,O⟩,h2⟩) ?_
 clear Y U
 rintro a w63 _ _ ⟨rfl,rfl⟩ Y U
 try dsimp only at U
 replace U:=U.n5 O
 refine ab<|dN<|wlv Y (ac (v:=po w0.hz 8) O kr) λa Y=>aB 1 Y U [jv n54,jv n59,jv n64,jv n69,jv n74,jv n79,jv n84,jv n89,sv n94] O (sizeOf9 _) λa w64 Y U=>G80 ?_
 refine ah λ_ G81=>aa λ_ G82=>nv (Y.p5 0 2 3 4 5 O)<|zN O<|zM (aU O)<|zM (ac (v:=po w3.hz 1) O kr)<|zM (ld U 0 O O (isAgg3 _) O)<|zN O<|zM (bp O O (runUnderlying9 _))<|zM (v_lt O O)<|zN O<|λa Y=>?_
 rcases Decidable.em (((s.length- r93.length:Nat):Int)<(s.length:Int)) with hb97|hb97
 ·rw[zU hb97] at Y
  have hdn:=hd95.trans (wB (by intro h0; have h1:=Ap List.length h0; rw[Aa] at h1; omega))
  refine nv Y<|zQ<|zQ<|zQ<|zQ<|zM (ay O O)<|λa Y=>G82 ?_
  replace Y:=Y.p4 2 3 4 93 O
  replace U:=U.k4 30 O
  refine aM Y O ?_
  refine bK<|aW 2 ?_
  refine nv Y<|zM (aV (v:=.agg #[]) O kr)<|zM (di O underlying171)<|λa Y=>ab<|ef Y O ?_
  replace U:=U.s3 [0,1,2] de rfl
  exact bE Y call98 (cj _ _ _ _ _ _ _ _ _ _ _ _ _ _ _ U) results39 (λw9 U=>⟨(ao O (bd (U.g 0 O) (isAgg90 _) (sizeOf90 _)) (ao O (aN (U.g 1 O) (isAgg91 _)) (ao O (aN (U.g 2 O) (isAgg41 _)) ag))),.inr ⟨hdn,O,U.ext⟩⟩)
 rw[zW hb97] at Y
 have hrn:r93=[]:=AC (by have:=hs96.length_le; omega)
 refine nv Y<|zP (ap (U.g 1 O) O (isAgg90 _) (sizeOf90 _))<|zP (ld U 2 O O (isAgg91 _) O)<|λa Y=>aF Y U call90 O (pA (x:=(⟨n54,n59,n64,n69,n74,n79,n84,n89,n94⟩:Wsh)) (ps:=acc) (U.ow 4 O)) λa w65 Y U=>nv Y<|zP (bB O)<|zM (al O O)<|λa Y=>G82 ?_
 replace Y:=Y.p4 2 3 4 93 O
 replace U:=U.k4 30 O
 refine bF Y O (λhc98=>?_) (λhc98=>?_)
 ·try simp only[qz] at hc98
  have hdn:=hd95.trans (wE hc98)
  refine bK<|aW 2 ?_
  refine nv Y<|zM (aV (v:=.agg #[]) O kr)<|zM (di O underlying171)<|λa Y=>ab<|ef Y O ?_
  replace U:=U.s3 [0,1,2] de rfl
  exact bE Y call98 (cj _ _ _ _ _ _ _ _ _ _ _ _ _ _ _ U) results39 (λw9 U=>⟨(ao O (bd (U.g 0 O) (isAgg90 _) (sizeOf90 _)) (ao O (aN (U.g 1 O) (isAgg91 _)) (ao O (aN (U.g 2 O) (isAgg41 _)) ag))),.inr ⟨hdn,O,U.ext⟩⟩)
 try simp only[qz] at hc98
 have hd8:=hd95.trans (wp hrn hc98)
 refine ar<|G81<|ah λ_ G83=>aH (aI λw66 hxz=>?_)
 replace U:=U.grow hxz
 refine aQ (k:=0) 3 [1,2] Y ?_
 replace Y:=Y.p3 2 3 4 O
 replace U:=U.s4 [0,1,2,3] de rfl
 refine lg [2] (λq=>if q=2 then blk w0.hz [jv n54,jv n59,jv n64,jv n69,jv n74,jv n79,jv n84,jv n89,sv n94] 90 else join []) (λq=>if q=2 then blk w0.hz [jv n54,jv n59,jv n64,jv n69,jv n74,jv n79,jv n84,jv n89,sv n94] 90 else join []) 3 [[],[],[0]] (λi=>match i with|0=>pv (.agg #[jv n54,jv n59,jv n64,jv n69,jv n74,jv n79,jv n84,jv n89,sv n94])|1=>pv (lv)|2=>λv E=>v=undef∧E=[]|_=>λ_ _=>False) Dy Y (H:=[blk w1.hz [lv] 91,blk w2.hz [jv 0] 41,own lv 144 7 ((acc).map Pxy.cells)]) U kr kr kr kr de de ?_ ?_ ?_ ?_ ?_ ?_
 ·intro i v E h
  match i,h with
  | 0,_=>exact by decide
  | 1,_=>exact by decide
  | 2,_=>exact by decide
  | i+3,h=>exact h.elim
 ·intro q v E hq h
  simp only[zY,Ab,As] at hq
  rcases hq with rfl<;>exact h
 ·intro q hq
  simp only[zY,Ab,As] at hq
  rcases hq with rfl<;>exact⟨rfl,rfl⟩
 ·intro i hi hiq e
  match i,hi,hiq with
  | 0,_,_=>exact λw U=>OpV.g (ap (xA (F:=λq=>if q=2 then blk w0.hz [jv n54,jv n59,jv n64,jv n69,jv n74,jv n79,jv n84,jv n89,sv n94] 90 else join []) (q:=2) (U.g 0 O)) O (isAgg90 _) (sizeOf90 _))
  | 1,_,_=>exact λw U=>OpV.g (ld U 1 O O (isAgg91 _) O)
  | 2,_,h=>exact absurd de h
 ·intro q hq
  simp only[zY,Ab,As] at hq
  rcases hq with rfl
  ·rintro _ _ ⟨rfl,rfl⟩
   intro w h
   exact dH (cs:=[jv n54,jv n59,jv n64,jv n69,jv n74,jv n79,jv n84,jv n89,sv n94]) (ds:=[jv n54,jv n59,jv n64,jv n69,jv n74,jv n79,jv n84,jv n89,sv n94]) O O h (sizeOf90 _) O (lb O) O
 clear Y U
 rintro _ _ ⟨rfl,rfl⟩ _ _ ⟨rfl,rfl⟩ a w67 Y U
 replace Y:=Y.p5 96 97 2 3 4 O
 try dsimp only at U
 replace U:=U.n4 O
 refine ab<|aJ (k:=3) 5 [4] ?_
 refine cb 1 Y U (U.ow 3 O) O O O (sizeOf91 _) (lb O) (ds:=[lv]) O O λa w68 Y U=>aB 2 Y U [jv 0] O (sizeOf41 _) λa w69 Y U=>ab<|aR<|G83<|aq<|pw (vs:=[.agg #[jv n54,jv n59,jv n64,jv n69,jv n74,jv n79,jv n84,jv n89,sv n94],lv,jv 0]) Y call98 (xd _ _ _ _) results39 (λw9 hx=>?_)
 have U:=U.grow hx
 exact⟨(ao O (bd (U.g 0 O) (isAgg90 _) (sizeOf90 _)) (ao O (aN (U.g 1 O) (isAgg91 _)) (ao O (aN (U.g 2 O) (isAgg41 _)) ag))),.inl ⟨_,_,hd8,_,O,trivial,U.ext,St.out (H:=[]) (U.select [3] de)⟩⟩
theorem yB {s:By} {p i:Nat} (hp:p+i<s.length):gv ((s.drop p).take (i+1))=gv ((s.drop p).take i)+(s.getD (p+i) 0).toNat%128*2 ^ (7*i):=by
 have e:(s.drop p).take (i+1)=(s.drop p).take i++[s.getD (p+i) 0]:=by
  rw[take_one CF]
  congr 2
  simp[z6]
 rw[e,jy,p128,zV,Ag,Nat.min_eq_left om]
theorem zI {s:By} {p i z:Nat} (hi:i<9) (hp:p+i<s.length) (hl:∀c∈(s.drop p).take i,128≤c.toNat) (hz:z=gv ((s.drop p).take i)) (hb:(s.getD (p+i) 0).toNat<128) {Z:Nat} (hZ:Z=z+(s.getD (p+i) 0).toNat%128*2 ^ (7*i)):
  rdI (s.drop p)=if vb 8 Z=(s.drop p).take (i+1)∧ -4611686018427387903≤uz Z then some (uz Z,s.drop (p+(i+1))) else none:=by
 have e0:s.drop p=(s.drop p).take i++s.getD (p+i) 0::s.drop (p+(i+1)):=by
  rw[show s.drop (p+(i+1))=(s.drop p).drop (i+1) from by rw[Bs],]
  have e1:(s.drop p).drop i=s.getD (p+i) 0::(s.drop p).drop (i+1):=by
   rw[kx CF]
   congr 1
   simp[z6]
  rw[←e1,A3]
 have e2:(s.drop p).take (i+1)=(s.drop p).take i++[s.getD (p+i) 0]:=by
  rw[take_one CF]
  congr 2
  simp[z6]
 have hlen:((s.drop p).take i).length=i:=by rw[zV,Ag]; omega
 have h:=zf (l:=(s.drop p).take i) (r:=s.drop (p+(i+1))) (b:=s.getD (p+i) 0) om hl hb
 rw[←e0,jy,←hz,hlen,p128,←hZ,←e2] at h
 exact h
def putR (n:Int):By × Int:=if-4611686018427387903≤n then (putI n,0) else ([],10)
theorem y7 (Z:Nat) {t:By} {e:Int} (h:putR (uz Z)=(t,e)):(e=0∧ -4611686018427387903≤uz Z∧t=vb 8 Z)∨(e≠0∧¬ -4611686018427387903≤uz Z):=by
 unfold putR at h
 split at h
 ·rename_i hc
  simp only[Prod.mk.injEq] at h
  left; exact⟨h.2.symm,hc,by rw[←h.1]; unfold putI; rw[za]⟩
 ·rename_i hc
  simp only[Prod.mk.injEq] at h
  right; exact⟨by rw[←h.2]; decide,hc⟩
def intR (s:By) (p:Nat):Int × Int × Int:=match rdI (s.drop p) with
 | some (n,r)=>(n,((s.length- r.length:Nat):Int),0)
 | none=>(0,0,10)
theorem zg (s:By) (p:Nat):intV s p=.tuple #[jv (intR s p).1,jv (intR s p).2.1,jv (intR s p).2.2]:=by
 unfold intV intR
 cases rdI (s.drop p) with
 | none=>rfl
 | some x=>rfl
theorem xU {s:By} {p:Nat} {n x e:Int} (h:intR s p=(n,x,e)) (he:e=0):∃r,rdI (s.drop p)=some (n,r)∧x=((s.length- r.length:Nat):Int)∧s.drop (s.length- r.length)=r∧r.length<s.length:=by
 unfold intR at h
 cases hq:rdI (s.drop p) with
 | none=>rw[hq] at h; simp only[Prod.mk.injEq] at h; rw[←h.2.2] at he; cases he
 | some z=>
  obtain⟨m,r⟩:=z
  rw[hq] at h
  simp only[Prod.mk.injEq] at h
  obtain⟨h1,h2⟩:=eF hq
  have h3:=Ap List.length h2
  have h4:=(bQ m).1
  rw[Ag,zS] at h3
  refine⟨r,by rw[h.1],h.2.1.symm,?_,by omega⟩
  have h5:s=(s.take p++putI m)++r:=by rw[Aw,←h2,A3]
  have h6:s.length=(s.take p++putI m).length+r.length:=by rw[←zS,←h5]
  have h7:=Bk (l₁:=s.take p++putI m) (l₂:=r)
  rw[←h5] at h7
  rw[show s.length- r.length=(s.take p++putI m).length from by omega]
  exact h7
theorem uX {s:By} {p:Nat} {n x e:Int} (h:intR s p=(n,x,e)) (he:¬e=0):rdI (s.drop p)=none:=by
 unfold intR at h
 cases hq:rdI (s.drop p) with
 | none=>rfl
 | some z=>rw[hq] at h; simp only[Prod.mk.injEq] at h; exact absurd h.2.2.symm he
theorem qj (n:Int) (w0:World) (hs:n< -4611686018427387903):
  Ret Tryz.prog 129 #[jv n] w0 λv w=>v=.tuple #[sv [],jv 10]∧Ext No w0 w:=by
 refine BG func129 O ntmps129 (lb O) λa Y U=>?_
 refine aa λ_ G1=>nv Y<|zO O<|zO O<|λa Y=>G1<|ah λ_ G2=>?_
 refine aa λ_ G3=>nv Y<|zN O<|zM ((v_lt O O).asb (b':=true) Db)<|zN O<|zQ<|zQ<|zM (ay O O)<|λa Y=>G3<|aM Y O ?_
 refine aa λ_ G4=>nv Y<|zO O<|zO O<|λa Y=>G4 ?_
 replace Y:=Y.p3 0 2 3 O
 refine aq<|am Y results129 (ae O (ae O ag)) ?_
 exact⟨by rfl,U.ext⟩
theorem jW {n e:Int} {t:By} {w0:World} (h:putR n=(t,e)) (hn:n≤4611686018427387903):Ret Tryz.prog 129 #[jv n] w0 λv w=>v=.tuple #[sv t,jv e]∧Ext No w0 w:=by
 unfold putR at h
 split at h
 ·cases h; exact dJ n w0 ⟨by assumption,hn⟩
 ·cases h; exact qj n w0 om
theorem t1 (s:By) (p:Nat) (w0:World) (hp:p≤s.length) (hsl:s.length≤1000000):
  Ret Tryz.prog 153 #[sv s,jv (p:Int)] w0 λv w=>v=intV s p∧Ext No w0 w:=by
 refine BF func153 O ntmps153 (lb O) λa Y U=>?_
 refine aa λ_ G1=>nv Y<|zO O<|zO O<|zO O<|λa Y=>G1<|ah λ_ G2=>?_
 refine aa λ_ G3=>nv Y<|zN O<|zM ((v_lt O O).asb (b':=false) CI)<|zN O<|zP (au O)<|zP (au O)<|zP (bp O O (runUnderlying9 _))<|zP ((v_gt O O).asb (b':=false) CI)<|zM (al O O)<|λa Y=>G3 ?_
 replace Y:=Y.p6 0 1 4 5 6 20 O
 refine aG Y O ?_
 refine ar<|G2<|aa λ_ G4=>wla Y O λa Y=>G4<|ah λ_ G5=>?_
 refine aa λ_ G6=>wla Y O λa Y=>G6<|aw ?_
 refine aZ (λm a w=>∃(i:Nat) (z:Nat),m=9- i∧(i≤9)∧(p+i≤s.length)∧(∀c∈(s.drop p).take i,128≤c.toNat)∧(z=gv ((s.drop p).take i))∧(z<2 ^ (7*i))∧Fr 80 [(0,sv s),(1,jv (p:Int)),(7,.int .u64 (z:Int)),(8,jv (i:Int))] [] a∧St No w0 [] w) _ ⟨0,0,O,de,om,sm,O,de,Y.pick [0,1,7,8],U.select [] de⟩ ?_
 rintro _ a w1 ⟨i,z,rfl,hi,hpi0,hl,hzg,hzb,Y,U⟩
 refine ah λ_ G7=>aa λ_ G8=>nv Y<|zN O<|zM (v_lt O O)<|zN O<|λa Y=>?_
 rcases Decidable.em ((i:Int)<9) with hb1|hb1
 ·rw[zU hb1] at Y
  refine nv Y<|zP (au O)<|zP (au O)<|zP (aL O O ⟨om,om⟩)<|zP (au O)<|zP (bp O O (runUnderlying9 _))<|zP (v_lt O O)<|zM (ay O O)<|λa Y=>G8 ?_
  replace Y:=Y.p5 0 1 7 8 30 O
  refine az Y O (λhc2=>?_) (λhc2=>?_)
  ·have hpi:p+i<s.length:=by omega
   have hm8:(s.getD (p+i) 0).toNat%128<128:=Nat.mod_lt _ de
   have hzl:=we hzb hm8
   have hz6:=z_63 (i:=i) om hzl
   refine ar<|G7<|ah λ_ G9=>aw<|aa λ_ G10=>nv Y<|zN O<|zN O<|zN O<|zM (aL O O ⟨om,om⟩)<|zM (gn (k:=(p+i)) O O (runUnderlying9 _) om om)<|zM (nN O kr underlying190)<|zO O<|λa Y=>G10 ?_
   refine aa λ_ G11=>nv (Y.p5 0 1 7 8 9 O)<|zN O<|zN O<|zM (ri (m:=(s.getD (p+i) 0).toNat) (n:=128) de O O)<|zN O<|zM ((ej O O ⟨om,om⟩).asi (m':=((7*i:Nat):Int)) om)<|zM ((qN (m:=(s.getD (p+i) 0).toNat%128) (n:=7*i) om O O).asi (m':=(((s.getD (p+i) 0).toNat%128*2 ^ (7*i):Nat):Int)) (by rw[Nat.mod_eq_of_lt om]))<|zM (wa (m:=z) (n:=(s.getD (p+i) 0).toNat%128*2 ^ (7*i)) om O O)<|zO O<|λa Y=>G11 ?_
   replace Y:=Y.p5 0 1 8 9 7 O
   refine ah λ_ G12=>aa λ_ G13=>nv Y<|zN O<|zM (v_ge O O)<|λa Y=>G13<|az Y O (λhc3=>?_) (λhc3=>?_)
   ·refine aP<|G9<|aj<|nv Y<|zN O<|zM (aL O O ⟨om,om⟩)<|zO O<|λa Y=>ab ?_
    refine⟨_,?_,i+1,(z+(s.getD (p+i) 0).toNat%128*2 ^ (7*i)),O,om,om,(by intro c hc; rw[take_one CF,AJ,Aq] at hc; rcases hc with hc|rfl; exact hl c hc; simp only[z6,A7] at*; omega),(by rw[yB hpi,←hzg]),hzl,Y.pick [0,1,7,8],U.select [] de⟩
    omega
   obtain⟨Z,hZ⟩:∃Z,Z=(z+(s.getD (p+i) 0).toNat%128*2 ^ (7*i)):=⟨_,rfl⟩
   have hra:=zI om hpi hl hzg om hZ
   obtain⟨pt,pe,hpt⟩:∃t e,putR (uz Z)=(t,e):=⟨_,_,rfl⟩
   have hps:=y7 Z hpt
   refine ar<|G12<|aa λ_ G14=>nv Y<|zN O<|zM (xa (m:=(z+(s.getD (p+i) 0).toNat%128*2 ^ (7*i))) (n:=2) om de O O)<|zM (gZ (n:=(z+(s.getD (p+i) 0).toNat%128*2 ^ (7*i)) / 2) om O kr underlying3)<|zO O<|λa Y=>G14 ?_
   replace Y:=Y.p5 0 1 8 7 10 O
   refine ah λ_ G15=>aa λ_ G16=>nv Y<|zN O<|zM (ri (m:=(z+(s.getD (p+i) 0).toNat%128*2 ^ (7*i))) (n:=2) de O O)<|zM (v_eq O O)<|λa Y=>G16<|az Y O (λhc4=>?_) (λhc4=>?_)
   ·have huz: -(((z+(s.getD (p+i) 0).toNat%128*2 ^ (7*i)) / 2:Nat):Int)- 1=uz Z:=by rw[hZ]; unfold uz; rw[Ai om]
    refine aj<|nv Y<|zN O<|zM (j2 O om om)<|zM (bJ O O ⟨om,om⟩)<|zO O<|λa Y=>ab<|G15 ?_
    refine aa λ_ G17=>wlm (Y.p5 0 1 8 7 10 O) O λa Y=>ax Y U call129 O (jW (n:=(-(((z+(s.getD (p+i) 0).toNat%128*2 ^ (7*i)) / 2:Nat):Int))- 1) (t:=pt) (e:=pe) (by rw[huz]; exact hpt) om) λa w2 Y U=>nv Y<|zN O<|zM (ak O O)<|zM (ak O O)<|zO O<|zO O<|λa Y=>G17<|ah λ_ G18=>?_
    refine aa λ_ G19=>nv Y<|zN O<|zM (v_ne O O)<|zN O<|λa Y=>?_
    rcases (Decidable.em (pe=0)).symm with hb5|hb5
    ·rw[zW hb5] at Y
     refine nv Y<|zQ<|zQ<|zQ<|zQ<|zQ<|zQ<|zQ<|zQ<|zQ<|zM (ay O O)<|λa Y=>G19 ?_
     replace Y:=Y.p6 0 1 8 7 10 74 O
     refine aM Y O ?_
     refine aa λ_ G20=>nv Y<|zO O<|zO O<|zO O<|λa Y=>G20<|aq ?_
     refine am Y results153 (ae O (ae O (ae O ag))) ?_
     refine⟨?_,U.ext⟩
     have hrn:rdI (s.drop p)=none:=by
      rw[hra]; refine Ai λhc=>?_
      rcases hps with⟨h1,h2,h3⟩|⟨h1,h2⟩
      ·exact hb5 h1
      ·exact h2 hc.2
     unfold intV; rw[hrn]; rfl
    rw[zU hb5] at Y
    refine nv Y<|zP (au O)<|zP (au O)<|zP (au O)<|zP (au O)<|zP (au O)<|zP (aL O O ⟨om,om⟩)<|zP (aL O O ⟨om,om⟩)<|zP ((ff (xs:=s) (l:=p) (h:=(p+i+1)) O O O underlying9 (.inr DC) (.inr C4) om Df).as (v':=sv ((s.drop p).take ((p+i+1)- p))) O)<|zP (pV O O)<|zM (al O O)<|λa Y=>G19 ?_
    replace Y:=Y.p6 0 1 8 7 10 74 O
    refine cN Y O (λhc6=>?_) (λhc6=>?_)
    ·rw[show (p+i+1)- p=i+1 from by omega] at hc6
     refine aa λ_ G21=>nv Y<|zO O<|zO O<|zO O<|λa Y=>G21<|aq ?_
     refine am Y results153 (ae O (ae O (ae O ag))) ?_
     refine⟨?_,U.ext⟩
     have hrn:rdI (s.drop p)=none:=by
      rw[hra]; refine Ai λhc=>?_
      rcases hps with⟨h1,h2,h3⟩|⟨h1,h2⟩
      ·exact hc6 (h3.trans hc.1)
      ·exact h2 hc.2
     unfold intV; rw[hrn]; rfl
    rw[show (p+i+1)- p=i+1 from by omega] at hc6
    refine ar<|G18<|aa λ_ G22=>nv Y<|zN O<|zN O<|zN O<|zM (aL O O ⟨om,om⟩)<|zM (aL O O ⟨om,om⟩)<|zO O<|zO O<|zO O<|λa Y=>G22 ?_
    replace Y:=Y.p7 0 1 8 7 4 5 6 O
    refine aq<|am Y results153 (ae O (ae O (ae O ag))) ?_
    refine⟨?_,U.ext⟩
    have hrs:rdI (s.drop p)=some (uz Z,s.drop (p+(i+1))):=by
     rw[hra]; refine Am ?_; rcases hps with⟨h1,h2,h3⟩|⟨h1,h2⟩
     ·exact⟨h3.symm.trans hc6,h2⟩
     ·exact absurd hb5 h1
    unfold intV; rw[hrs]; simp only[retv,Ag]; rw[huz,show ((s.length- (s.length- (p+(i+1))):Nat):Int)=(p:Int)+(i:Int)+1 from by omega]
   have huz:(((z+(s.getD (p+i) 0).toNat%128*2 ^ (7*i)) / 2:Nat):Int)=uz Z:=by rw[hZ]; unfold uz; rw[Am om]
   refine ar<|G15<|aa λ_ G23=>wlm Y O λa Y=>ax Y U call129 O (jW (n:=(((z+(s.getD (p+i) 0).toNat%128*2 ^ (7*i)) / 2:Nat):Int)) (t:=pt) (e:=pe) (by rw[huz]; exact hpt) om) λa w3 Y U=>nv Y<|zN O<|zM (ak O O)<|zM (ak O O)<|zO O<|zO O<|λa Y=>G23 ?_
   refine ah λ_ G24=>aa λ_ G25=>nv (Y.p7 0 1 8 7 10 11 12 O)<|zN O<|zM (v_ne O O)<|zN O<|λa Y=>?_
   rcases (Decidable.em (pe=0)).symm with hb7|hb7
   ·rw[zW hb7] at Y
    refine nv Y<|zQ<|zQ<|zQ<|zQ<|zQ<|zQ<|zQ<|zQ<|zQ<|zM (ay O O)<|λa Y=>G25 ?_
    replace Y:=Y.p6 0 1 8 7 10 74 O
    refine aM Y O ?_
    refine aa λ_ G26=>nv Y<|zO O<|zO O<|zO O<|λa Y=>G26<|aq ?_
    refine am Y results153 (ae O (ae O (ae O ag))) ?_
    refine⟨?_,U.ext⟩
    have hrn:rdI (s.drop p)=none:=by
     rw[hra]; refine Ai λhc=>?_
     rcases hps with⟨h1,h2,h3⟩|⟨h1,h2⟩
     ·exact hb7 h1
     ·exact h2 hc.2
    unfold intV; rw[hrn]; rfl
   rw[zU hb7] at Y
   refine nv Y<|zP (au O)<|zP (au O)<|zP (au O)<|zP (au O)<|zP (au O)<|zP (aL O O ⟨om,om⟩)<|zP (aL O O ⟨om,om⟩)<|zP ((ff (xs:=s) (l:=p) (h:=(p+i+1)) O O O underlying9 (.inr DC) (.inr C4) om Df).as (v':=sv ((s.drop p).take ((p+i+1)- p))) O)<|zP (pV O O)<|zM (al O O)<|λa Y=>G25 ?_
   replace Y:=Y.p6 0 1 8 7 10 74 O
   refine cN Y O (λhc8=>?_) (λhc8=>?_)
   ·rw[show (p+i+1)- p=i+1 from by omega] at hc8
    refine aa λ_ G27=>nv Y<|zO O<|zO O<|zO O<|λa Y=>G27<|aq ?_
    refine am Y results153 (ae O (ae O (ae O ag))) ?_
    refine⟨?_,U.ext⟩
    have hrn:rdI (s.drop p)=none:=by
     rw[hra]; refine Ai λhc=>?_
     rcases hps with⟨h1,h2,h3⟩|⟨h1,h2⟩
     ·exact hc8 (h3.trans hc.1)
     ·exact h2 hc.2
    unfold intV; rw[hrn]; rfl
   rw[show (p+i+1)- p=i+1 from by omega] at hc8
   refine ar<|G24<|aa λ_ G28=>nv Y<|zN O<|zN O<|zN O<|zM (aL O O ⟨om,om⟩)<|zM (aL O O ⟨om,om⟩)<|zO O<|zO O<|zO O<|λa Y=>G28 ?_
   replace Y:=Y.p7 0 1 8 7 4 5 6 O
   refine aq<|am Y results153 (ae O (ae O (ae O ag))) ?_
   refine⟨?_,U.ext⟩
   have hrs:rdI (s.drop p)=some (uz Z,s.drop (p+(i+1))):=by
    rw[hra]; refine Am ?_; rcases hps with⟨h1,h2,h3⟩|⟨h1,h2⟩
    ·exact⟨h3.symm.trans hc8,h2⟩
    ·exact absurd hb7 h1
   unfold intV; rw[hrs]; simp only[retv,Ag]; rw[huz,show ((s.length- (s.length- (p+(i+1))):Nat):Int)=(p:Int)+(i:Int)+1 from by omega]
  have hrn:rdI (s.drop p)=none:=by
   have:=yt (l:=(s.drop p).take i) hl Cp
   rwa [AZ CF] at this
  refine aP<|G5<|aa λ_ G29=>nv Y<|zO O<|zO O<|zO O<|λa Y=>G29<|aq ?_
  refine am Y results153 (ae O (ae O (ae O ag))) ?_
  refine⟨?_,U.ext⟩
  unfold intV; rw[hrn]; rfl
 rw[zW hb1] at Y
 have hrn:rdI (s.drop p)=none:=by
  have h9:i=9:=by omega
  subst h9
  have:=wX (l:=(s.drop p).take 9) (r:=(s.drop p).drop 9) hl (by rw[zV,Ag]; omega)
  rwa [A3] at this
 refine nv Y<|zQ<|zQ<|zQ<|zQ<|zQ<|zQ<|zM (al O O)<|λa Y=>G8 ?_
 replace Y:=Y.p5 0 1 7 8 30 O
 refine aG Y O ?_
 refine aP<|G5<|aa λ_ G30=>nv Y<|zO O<|zO O<|zO O<|λa Y=>G30<|aq ?_
 refine am Y results153 (ae O (ae O (ae O ag))) ?_
 refine⟨?_,U.ext⟩
 unfold intV; rw[hrn]; rfl
theorem jf {r q:By} {n:Int} (h:rdI r=some (n,q)):q<:+r:=by
 obtain⟨_,rfl⟩:=eF h; exact List.suffix_append _ _
theorem wk {r x q:By} (h:rdS r=some (x,q)):∃n r2,rdI r=some (n,r2)∧0≤n∧n≤65536∧n≤(r2.length:Int)∧x=r2.take n.toNat∧q=r2.drop n.toNat∧q.length=r2.length- n.toNat:=by
 unfold rdS at h
 cases hq:rdI r with
 | none=>rw[hq] at h; cases h
 | some p=>
  obtain⟨n,t⟩:=p
  rw[hq] at h
  simp only at h
  split at h
  ·rename_i hc
   cases h
   exact⟨n,t,O,hc.1,hc.2.1,hc.2.2,O,O,by rw[Ag]⟩
  ·cases h
theorem zn {r:By} (h:rdS r=none):rdI r=none∨∃n r2,rdI r=some (n,r2)∧(n<0∨65536<n∨(r2.length:Int)<n):=by
 unfold rdS at h
 cases hq:rdI r with
 | none=>exact .inl rfl
 | some p=>
  obtain⟨n,t⟩:=p
  rw[hq] at h
  simp only at h
  split at h
  ·cases h
  ·rename_i hc
   exact .inr ⟨n,t,O,by omega⟩
theorem yx {r x q:By} (h:rdS r=some (x,q)):q<:+r:=by
 obtain⟨n,r2,hi,_,_,_,_,rfl,_⟩:=wk h
 exact (List.drop_suffix _ _).trans (jf hi)
theorem yp {s r2 q x:By} {n:Int} (hs:r2<:+s) (hx:x=r2.take n.toNat) (h0:0≤n) (hn:n≤(r2.length:Int)) (hq:q.length=r2.length- n.toNat):x=(s.drop (s.length- r2.length)).take (s.length- q.length- (s.length- r2.length)):=by
 have:=hs.length_le
 rw[←List.suffix_iff_eq_drop.1 hs,hx]
 congr 1
 omega
theorem nZ (s:By) (w0:World) (hs:s.length≤65536):
  Ret Tryz.prog 61 #[sv s] w0 λv w=>v=.tuple #[sv (putS s),jv 0]∧Ext No w0 w:=by
 have hpl:=bQ (s.length:Int)
 refine BG func61 O ntmps61 (lb O) λa Y U=>?_
 refine aa λ_ G1=>nv Y<|zO O<|zO O<|λa Y=>G1<|ah λ_ G2=>?_
 refine aa λ_ G3=>nv Y<|zN O<|zM (bp O O (runUnderlying9 _))<|zM ((v_gt O O).asb (b':=false) CI)<|λa Y=>G3<|aG Y O ?_
 refine ar<|G2<|aa λ_ G4=>nv Y<|zN O<|zM (bp O O (runUnderlying9 _))<|λa Y=>ax Y U call60 O (fI (s.length:Int) _ B4) λa w1 Y U=>nv Y<|zN O<|zM (ak O O)<|zM (ak O O)<|zO O<|zO O<|λa Y=>G4 ?_
 refine aa λ_ G5=>nv (Y.p4 0 2 3 4 O)<|zN O<|zN O<|zM (dI O O Cv)<|zO O<|zO O<|λa Y=>G5<|aq ?_
 refine am Y results61 (ae O (ae O ag)) ?_
 exact⟨by rfl,U.ext⟩
theorem kG {s r r2:By} {n z:Int} {w0:World} (hz:z=((s.length- r.length:Nat):Int)) (hsf:r<:+s) (hsl:s.length≤1000000) (hq:rdI r=some (n,r2)):
  Ret Tryz.prog 63 #[sv s,jv z] w0 λv w=>v=.tuple #[jv n,jv ((s.length- r2.length:Nat):Int),jv 0]∧Ext No w0 w:=by
 subst hz
 have:=je s (s.length- r.length) w0 om hsl
 unfold intV at this
 rw[←List.suffix_iff_eq_drop.1 hsf,hq] at this
 exact this
theorem lx {s r:By} {z:Int} {w0:World} (hz:z=((s.length- r.length:Nat):Int)) (hsf:r<:+s) (hsl:s.length≤1000000) (hq:rdI r=none):
  Ret Tryz.prog 63 #[sv s,jv z] w0 λv w=>v=.tuple #[jv 0,jv 0,jv 10]∧Ext No w0 w:=by
 subst hz
 have:=je s (s.length- r.length) w0 om hsl
 unfold intV at this
 rw[←List.suffix_iff_eq_drop.1 hsf,hq] at this
 exact this
theorem ut (s r x q:By) (z:Int) (w0:World) (hz:z=((s.length- r.length:Nat):Int)) (hsf:r<:+s) (hsl:s.length≤1000000) (hq:rdS r=some (x,q)):
  Ret Tryz.prog 65 #[sv s,jv z] w0 λv w=>v=.tuple #[sv x,jv ((s.length- q.length:Nat):Int),jv 0]∧Ext No w0 w:=by
 obtain⟨n,r2,hi,h0,h6,hl,hx, -,hql⟩:=wk hq
 have hsu:=hsf.length_le
 have hsf2:=(jf hi).trans hsf
 have hsu2:=hsf2.length_le
 refine BF func65 O ntmps65 (lb O) λa Y U=>?_
 refine aa λ_ G1=>nv Y<|zO O<|zO O<|zO O<|λa Y=>G1<|aa λ_ G2=>?_
 refine nv Y<|zN O<|zN O<|λa Y=>ax Y U call63 O (kG hz hsf hsl hi) λa w1 Y U=>nv Y<|zN O<|zM (ak O O)<|zM (ak O O)<|zM (ak O O)<|zO O<|zO O<|zO O<|λa Y=>G2 ?_
 refine ah λ_ G3=>aa λ_ G4=>nv (Y.p7 0 4 5 6 7 8 9 O)<|zN O<|zM ((v_ne O O).asb (b':=false) O)<|λa Y=>G4<|aG Y O ?_
 refine ar<|G3<|ah λ_ G5=>aa λ_ G6=>nv Y<|zN O<|zM ((v_lt O O).asb (b':=false) CI)<|zN O<|zP (au O)<|zP ((v_gt O O).asb (b':=false) CI)<|zM (al O O)<|zN O<|zP (au O)<|zP (au O)<|zP (bp O O (runUnderlying9 _))<|zP (au O)<|zP (bJ O O ⟨om,om⟩)<|zP ((v_gt O O).asb (b':=false) CI)<|zM (al O O)<|λa Y=>G6 ?_
 replace Y:=Y.p7 0 4 5 6 7 8 33 O
 refine aG Y O ?_
 refine ar<|G5<|aa λ_ G7=>nv Y<|zN O<|zN O<|zN O<|zN O<|zM ((aL O O ⟨om,om⟩).asi (m':=((s.length- q.length:Nat):Int)) om)<|zM ((iM (xs:=s) (l:=s.length- r2.length) (h:=s.length- q.length) O O O underlying9 (.inr ⟨.i64,O⟩) (.inr ⟨.i64,O⟩) om om).as (v':=sv x) (by rw[←yp hsf2 hx h0 hl hql]))<|zN O<|zN O<|zM ((aL O O ⟨om,om⟩).asi (m':=((s.length- q.length:Nat):Int)) om)<|zO O<|zO O<|zO O<|λa Y=>G7 ?_
 replace Y:=Y.p3 4 5 6 O
 refine aq<|am Y results65 (ae O (ae O (ae O ag))) ?_
 exact⟨by rfl,U.ext⟩
theorem pH (s r r2:By) (n z:Int) (w0:World) (hz:z=((s.length- r.length:Nat):Int)) (hsf:r<:+s) (hsl:s.length≤1000000) (hi:rdI r=some (n,r2)) (hb:n<0∨65536<n∨(r2.length:Int)<n):
  Ret Tryz.prog 65 #[sv s,jv z] w0 λv w=>v=.tuple #[sv ([]:By),jv 0,jv 10]∧Ext No w0 w:=by
 have hsu:=hsf.length_le
 have hsf2:=(jf hi).trans hsf
 have hsu2:=hsf2.length_le
 refine BF func65 O ntmps65 (lb O) λa Y U=>?_
 refine aa λ_ G1=>nv Y<|zO O<|zO O<|zO O<|λa Y=>G1<|aa λ_ G2=>?_
 refine nv Y<|zN O<|zN O<|λa Y=>ax Y U call63 O (kG hz hsf hsl hi) λa w1 Y U=>nv Y<|zN O<|zM (ak O O)<|zM (ak O O)<|zM (ak O O)<|zO O<|zO O<|zO O<|λa Y=>G2 ?_
 refine ah λ_ G3=>aa λ_ G4=>nv (Y.p7 0 4 5 6 7 8 9 O)<|zN O<|zM ((v_ne O O).asb (b':=false) O)<|λa Y=>G4<|aG Y O ?_
 refine ar<|G3<|ah λ_ G5=>aa λ_ G6=>nv Y<|zN O<|zM (v_lt O O)<|zN O<|λa Y=>?_
 rcases Decidable.em (n<0) with hb1|hb1
 ·rw[zU hb1] at Y
  refine nv Y<|zQ<|zQ<|zM (ay O O)<|zN O<|zQ<|zQ<|zQ<|zQ<|zQ<|zQ<|zM (ay O O)<|λa Y=>G6 ?_
  replace Y:=Y.p7 0 4 5 6 7 8 33 O
  refine aM Y O ?_
  refine aa λ_ G7=>nv Y<|zO O<|zO O<|zO O<|λa Y=>G7<|aq ?_
  refine am Y results65 (ae O (ae O (ae O ag))) ?_
  exact⟨by rfl,U.ext⟩
 rw[zW hb1] at Y
 refine nv Y<|zP (au O)<|zP (v_gt O O)<|zM (al O O)<|zN O<|λa Y=>?_
 rcases Decidable.em (65536<n) with hb2|hb2
 ·rw[zU hb2] at Y
  refine nv Y<|zQ<|zQ<|zQ<|zQ<|zQ<|zQ<|zM (ay O O)<|λa Y=>G6 ?_
  replace Y:=Y.p7 0 4 5 6 7 8 33 O
  refine aM Y O ?_
  refine aa λ_ G8=>nv Y<|zO O<|zO O<|zO O<|λa Y=>G8<|aq ?_
  refine am Y results65 (ae O (ae O (ae O ag))) ?_
  exact⟨by rfl,U.ext⟩
 rw[zW hb2] at Y
 refine nv Y<|zP (au O)<|zP (au O)<|zP (bp O O (runUnderlying9 _))<|zP (au O)<|zP (bJ O O ⟨om,om⟩)<|zP (v_gt O O)<|zM (al O O)<|λa Y=>G6 ?_
 replace Y:=Y.p7 0 4 5 6 7 8 33 O
 refine az Y O (λhc3=>?_) (λhc3=>?_)
 ·refine aa λ_ G9=>nv Y<|zO O<|zO O<|zO O<|λa Y=>G9<|aq ?_
  refine am Y results65 (ae O (ae O (ae O ag))) ?_
  exact⟨by rfl,U.ext⟩
 exfalso; omega
theorem qF (s r:By) (z:Int) (w0:World) (hz:z=((s.length- r.length:Nat):Int)) (hsf:r<:+s) (hsl:s.length≤1000000) (hi:rdI r=none):
  Ret Tryz.prog 65 #[sv s,jv z] w0 λv w=>v=.tuple #[sv ([]:By),jv 0,jv 10]∧Ext No w0 w:=by
 refine BF func65 O ntmps65 (lb O) λa Y U=>?_
 refine aa λ_ G1=>nv Y<|zO O<|zO O<|zO O<|λa Y=>G1<|aa λ_ G2=>?_
 refine nv Y<|zN O<|zN O<|λa Y=>ax Y U call63 O (lx hz hsf hsl hi) λa w1 Y U=>nv Y<|zN O<|zM (ak O O)<|zM (ak O O)<|zM (ak O O)<|zO O<|zO O<|zO O<|λa Y=>G2 ?_
 refine ah λ_ G3=>aa λ_ G4=>nv (Y.p7 0 4 5 6 7 8 9 O)<|zN O<|zM ((v_ne O O).asb (b':=true) O)<|λa Y=>G4<|aM Y O ?_
 refine aa λ_ G5=>nv Y<|zN O<|zO O<|zO O<|zO O<|λa Y=>G5<|aq ?_
 refine am Y results65 (ae O (ae O (ae O ag))) ?_
 exact⟨by rfl,U.ext⟩
theorem rZ {s r:By} {z:Int} {w0:World} (hz:z=((s.length- r.length:Nat):Int)) (hsf:r<:+s) (hsl:s.length≤1000000) (hq:rdS r=none):
  Ret Tryz.prog 65 #[sv s,jv z] w0 λv w=>v=.tuple #[sv ([]:By),jv 0,jv 10]∧Ext No w0 w:=by
 rcases zn hq with hi|⟨n,r2,hi,hb⟩
 ·exact qF s r z w0 hz hsf hsl hi
 ·exact pH s r r2 n z w0 hz hsf hsl hi hb
theorem mq (s:By) (w0:World) (hs:s.length≤65536):
  Ret Tryz.prog 130 #[sv s] w0 λv w=>v=.tuple #[sv (putS s),jv 0]∧Ext No w0 w:=by
 have hpl:=bQ (s.length:Int)
 refine BG func130 O ntmps130 (lb O) λa Y U=>?_
 refine aa λ_ G1=>nv Y<|zO O<|zO O<|λa Y=>G1<|ah λ_ G2=>?_
 refine aa λ_ G3=>nv Y<|zN O<|zM (bp O O (runUnderlying9 _))<|zM ((v_gt O O).asb (b':=false) CI)<|λa Y=>G3<|aG Y O ?_
 refine ar<|G2<|aa λ_ G4=>nv Y<|zN O<|zM (bp O O (runUnderlying9 _))<|λa Y=>ax Y U call129 O (dJ (s.length:Int) _ B4) λa w1 Y U=>nv Y<|zN O<|zM (ak O O)<|zM (ak O O)<|zO O<|zO O<|λa Y=>G4 ?_
 refine aa λ_ G5=>nv (Y.p4 0 2 3 4 O)<|zN O<|zN O<|zM (dI O O Cv)<|zO O<|zO O<|λa Y=>G5<|aq ?_
 refine am Y results130 (ae O (ae O ag)) ?_
 exact⟨by rfl,U.ext⟩
end Go.Proofs.YtliklcmddmpdfaaGreatDoor
